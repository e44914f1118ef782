/- ports sorted where they lie -/
import Derived.Test.YtlijgcifhhcfaaaGreatDoorZBI
import Derived.Test.YtlijgcifhhcfaaaGreatDoorZBH
set_option linter.unusedVariables false
set_option linter.unusedSimpArgs false
set_option linter.unusedSectionVars false
set_option maxRecDepth 100000
namespace Go.Proofs.YtlijgcifhhcfaaaGreatDoor.X
open Go Go.RowKit Go.Proofs
theorem xE : ab Tryz.prog 140 = true := by kernel_rfl
theorem BY : ab Tryz.prog 95 = true := by kernel_rfl
theorem BX : ab Tryz.prog 96 = true := by kernel_rfl
theorem wQ (n : Nat) (hn : n ≤ 12) : Pure Tryz.prog 96 [.int .u64 (IntKind.u64.wrap (n : Int))] (.int .i64 (Gz n)) := by
 rw [JU n hn]; exact Fs n hn
def tW (x y : Port) : Bool := decide (zH x.f.num y.f.num < 0)
def iD (ys : List Port) (j : Nat) : Port := ys.getD j gQ
def rC (ys : List Port) (j : Nat) : List Port := (ys.set (j + 1) (iD ys j)).set j (iD ys (j + 1))
def ff : Nat → List Port → List Port
 | 0, ys => ys
 | j + 1, ys => if tW (iD ys (j + 1)) (iD ys j) then ff j (rC ys j) else ys
def kZ : Nat → Nat → List Port → List Port
 | 0, _, ys => ys
 | k + 1, i, ys => kZ k (i + 1) (ff i ys)
def c4 (xs : List Port) : List Port := kZ (xs.length - 1) 1 xs
theorem rB (ys : List Port) (j : Nat) : (rC ys j).length = ys.length := by unfold rC; simp
theorem oJ : ∀ (j : Nat) (ys : List Port), (ff j ys).length = ys.length
 | 0, ys => rfl
 | j + 1, ys => by
  unfold ff
  split
  ·rw [oJ j, rB]
  ·rfl
theorem oZ {ys : List Port} : ∀ e ∈ ys.map Port.av, e.cells.length = 9 := fun e he => by
 obtain ⟨p, _, rfl⟩ := List.mem_map.1 he; rfl
theorem GC {ys : List Port} {i : Nat} {p : Port} : ∀ e ∈ (ys.map Port.av).set i (.agg p.cells), e.cells.length = 9 := fun e he => by
 rcases List.mem_or_eq_of_mem_set he with h | rfl
 ·exact oZ e h
 ·rfl
theorem xW {ys : List Port} {j : Nat} (h : j < ys.length) : (ys.map Port.av)[j]? = some (.agg (iD ys j).cells) := by
 unfold iD
 rw [List.getElem?_map, List.getD_eq_getElem?_getD, List.getElem?_eq_getElem h]; rfl
theorem wj {j : Nat} (h : 0 < j) (h2 : j ≤ 1000) : IntKind.i64.wrap ((j : Int) - 1) = ((j - 1 : Nat) : Int) := by
 rw [eF (by omega) (by omega)]; omega
theorem sN {j : Nat} (h : decide ((j : Int) > 0) = true) : 0 < j := by have := of_decide_eq_true h; omega
theorem KH {j : Nat} (h : decide ((j : Int) > 0) = false) : j = 0 := by have := of_decide_eq_false h; omega
theorem pe {ys : List Port} {j : Nat} (h : j < ys.length) : (ys.map Port.av)[((j : Nat) : Int).toNat]? = some (.agg (iD ys j).cells) := by rw [Int.toNat_natCast]; exact xW h
theorem uJ {ys : List Port} {j : Nat} (h0 : 0 < j) (h : j < ys.length) (h2 : ys.length ≤ 1000) : (ys.map Port.av)[(IntKind.i64.wrap ((j : Int) - 1)).toNat]? = some (.agg (iD ys (j - 1)).cells) := by
 rw [wj h0 (by omega), Int.toNat_natCast]; exact xW (by omega)
theorem F5 {zs : List Port} {j : Nat} (h0 : 0 < j) (h2 : j ≤ 1000) : (((zs.map Port.av).set (((j : Nat) : Int).toNat) (.agg (iD zs (j - 1)).cells)).set (IntKind.i64.wrap ((j : Int) - 1)).toNat (.agg (iD zs j).cells)) = (rC zs (j - 1)).map Port.av := by
 rw [wj h0 h2, Int.toNat_natCast, Int.toNat_natCast]
 unfold rC
 rw [List.map_set, List.map_set, show j - 1 + 1 = j by omega]; rfl
theorem Cl {j : Nat} {zs : List Port} (h : 0 < j) (hl : tW (iD zs j) (iD zs (j - 1)) = true) : ff j zs = ff (j - 1) (rC zs (j - 1)) := by
 obtain ⟨k, rfl⟩ : ∃ k, j = k + 1 := ⟨j - 1, by omega⟩
 have hl' : tW (iD zs (k + 1)) (iD zs k) = true := hl
 rw [ff, if_pos hl']; rfl
theorem Ck {j : Nat} {zs : List Port} (h : 0 < j) (hl : tW (iD zs j) (iD zs (j - 1)) = false) : ff j zs = zs := by
 obtain ⟨k, rfl⟩ : ∃ k, j = k + 1 := ⟨j - 1, by omega⟩
 have hl' : tW (iD zs (k + 1)) (iD zs k) = false := hl
 rw [ff, hl']; rfl
theorem wI {n i : Nat} {ys : List Port} (h : i < n) : kZ (n - i) i ys = kZ (n - (i + 1)) (i + 1) (ff i ys) := by
 rw [show n - i = (n - (i + 1)) + 1 by omega]; rfl
theorem zm {n i : Nat} {ys : List Port} (h : n ≤ i) : kZ (n - i) i ys = ys := by
 rw [show n - i = 0 by omega]; rfl
theorem Jm {v w : CV} {rest : List (aM × CV)} {H : Hp} {id : Nat} {A B : List Hc} {C D : List AV} (hv : v = w) (h : C = D) : ((aM.s 9, v) :: (aM.h, CV.hp (((H.set id A).set id B).set id (az C))) :: rest) = [(aM.s 9, w), (aM.h, CV.hp (H.set id (az D)))] ++ rest := by rw [Hp.set_set, Hp.set_set, h, hv]; rfl
theorem D5 (xs : List Port) (hx : xs.length ≤ 12) (H : Hp) (id : Nat) : cT Tryz.prog 140 [.os id xs.length 9, .int .i64 0, .int .i64 xs.length, .fn 53 []] (H.set id (az (xs.map Port.av))) (.tup []) (H.set id (az ((c4 xs).map Port.av))) := by
 refine cT.aL Tryz.func140 rfl rfl (aF rfl) (aC.seq (aC.region (aB.run II 3 rfl (aB.nil (aC.blk (aC.aK (Kept.aI [.s 8, .h, .s 0, .s 1, .s 2, .s 3] rfl (by decide) (Kept.now (aC.aX (fun ((i, ys) : Nat × List Port) => [(.s 8, .sv (.v (.int .i64 (i : Int)))), (.h, .hp (H.set id (az (ys.map Port.av))))]) _ (fun ((i, ys) : Nat × List Port) => kZ (xs.length - i) i ys = c4 xs ∧ ys.length = xs.length ∧ 1 ≤ i) (fun ((i, ys) : Nat × List Port) => xs.length - i) (1, xs) rfl ⟨rfl, rfl, Nat.le_refl _⟩ ?_)))))))))
 rintro ⟨i, ys⟩ hI
 refine aC.seq (aC.seq (aC.region (aB.run II 3 rfl (aB.nil (aC.cond rfl (fun hc1 => ?_) (fun hc1 => ?_))))))
 ·have hi := Il hc1
  refine aC.skip (aC.seq (aC.blk (aC.seq (aC.region (aB.run II 2 rfl (aB.nil (aC.blk (aC.aK (Kept.aI [.s 9, .h, .s 0, .s 1, .s 2, .s 3, .s 8] rfl (by decide) (Kept.now (aC.aX (fun ((j, zs) : Nat × List Port) => [(.s 9, .sv (.v (.int .i64 (j : Int)))), (.h, .hp (H.set id (az (zs.map Port.av))))]) _ (fun ((j, zs) : Nat × List Port) => ff j zs = ff i ys ∧ zs.length = xs.length ∧ j < xs.length) (fun ((j, zs) : Nat × List Port) => j) (i, ys) rfl ⟨rfl, hI.2.1, hi⟩ ?_)))))))))))
  rintro ⟨j, zs⟩ hJ
  dsimp only at hI hJ
  refine aC.seq (aC.seq (aC.drawn mixed rfl (aD.run II 4 rfl (aD.tell (d := 21) rfl (fun hg2 => ?_) (fun hg2 => ?_)))))
  ·refine aD.run II 3 rfl (aD.g1 rfl (aF rfl) rfl rfl (bU (aF rfl) cG rfl rfl (Int.natCast_nonneg _) (by have := hJ.2.2; omega)) ?_)
   refine aD.g1 rfl (aF rfl) rfl rfl (jH (aF rfl) gW rfl rfl Hp.bq oZ rfl (pe (by rw [hJ.2.1]; exact hJ.2.2))) ?_
   refine aD.run II 3 rfl (aD.g1 rfl (aF rfl) rfl rfl (bU (aF rfl) cG rfl rfl (by rw [wj (sN hg2) (by have := hJ.2.2; omega)]; omega) (by rw [wj (sN hg2) (by have := hJ.2.2; omega)]; have := hJ.2.2; omega)) ?_)
   refine aD.g1 rfl (aF rfl) rfl rfl (jH (aF rfl) gW rfl rfl Hp.bq oZ rfl (uJ (sN hg2) (by rw [hJ.2.1]; exact hJ.2.2) (by rw [hJ.2.1]; omega))) ?_
   refine aD.g1 rfl (aF rfl) rfl rfl (ll (aF rfl) (by kernel_rfl) rfl rfl (Fz (iD zs j) (iD zs (j - 1)))) (aD.run II 2 rfl (aD.nil (by kernel_rfl) (Kept.now (aC.cond rfl (fun hc3 => ?_) (fun hc3 => ?_)))))
   ·refine aC.skip (aC.seq (aC.blk (aC.drawn mixed rfl (aD.run II 8 rfl (aD.c1 rfl (bU (aF rfl) cG rfl rfl (by rw [wj (sN hg2) (by have := hJ.2.2; omega)]; omega) (by rw [wj (sN hg2) (by have := hJ.2.2; omega)]; have := hJ.2.2; omega)) ?_)))))
    refine aD.c1 rfl (jH (aF rfl) gW rfl rfl Hp.bq oZ rfl (uJ (sN hg2) (by rw [hJ.2.1]; exact hJ.2.2) (by rw [hJ.2.1]; omega))) ?_
    refine aD.run II 2 rfl (aD.c1 rfl (bU (aF rfl) cG rfl rfl (Int.natCast_nonneg _) (by have := hJ.2.2; omega)) ?_)
    refine aD.c1 rfl (jH (aF rfl) gW rfl rfl Hp.bq oZ rfl (pe (by rw [hJ.2.1]; exact hJ.2.2))) ?_
    refine aD.c1 rfl (bU (aF rfl) cG rfl rfl (Int.natCast_nonneg _) (by have := hJ.2.2; omega)) ?_
    refine aD.c1 rfl (kk gW rfl rfl Hp.bq rfl oZ rfl (by rw [List.length_map, Int.toNat_natCast, hJ.2.1]; exact hJ.2.2) rfl) ?_
    refine aD.c1 rfl (bU (aF rfl) cG rfl rfl (by rw [wj (sN hg2) (by have := hJ.2.2; omega)]; omega) (by rw [wj (sN hg2) (by have := hJ.2.2; omega)]; have := hJ.2.2; omega)) ?_
    refine aD.c1 rfl (kk gW rfl rfl Hp.bq rfl GC rfl (by rw [List.length_set, List.length_map, wj (sN hg2) (by have := hJ.2.2; omega), Int.toNat_natCast, hJ.2.1]; have := hJ.2.2; omega) rfl) ?_
    exact aD.nil (by kernel_rfl) (Kept.now (aC.region (aB.run II 3 rfl (aB.kept (Kept.aI [.s 9, .h, .s 0, .s 1, .s 2, .s 3, .s 8] rfl (by decide) (Kept.now (⟨(j - 1, rC zs (j - 1)), by have := sN hg2; dsimp only; omega, ⟨(Cl (sN hg2) hc3).symm.trans hJ.1, (rB _ _).trans hJ.2.1, by have := hJ.2.2; omega⟩, Jm (by rw [wj (sN hg2) (by have := hJ.2.2; omega)]) (F5 (sN hg2) (by have := hJ.2.2; omega))⟩)))))))
   ·exact aC.exit (aC.region (aB.run II 3 rfl (aB.kept (Kept.aY 8 rfl (inc (by omega)) (Kept.aI [.s 8, .h, .s 0, .s 1, .s 2, .s 3] rfl (by decide) (Kept.now (⟨(i + 1, zs), by dsimp only; omega, ⟨(by rw [← (Ck (sN hg2) hc3 : ff j zs = zs), hJ.1, ← wI hi]; exact hI.1), hJ.2.1, by omega⟩, rfl⟩)))))))
  ·exact aD.run II 13 rfl (aD.nil (by kernel_rfl) (Kept.now (aC.aZ rfl rfl (aC.exit (aC.region (aB.run II 3 rfl (aB.kept (Kept.aY 8 rfl (inc (by omega)) (Kept.aI [.s 8, .h, .s 0, .s 1, .s 2, .s 3] rfl (by decide) (Kept.now (⟨(i + 1, zs), by dsimp only; omega, ⟨(by have e : ff j zs = zs := (by rw [KH hg2]; rfl); rw [← e, hJ.1, ← wI hi]; exact hI.1), hJ.2.1, by omega⟩, rfl⟩)))))))))))
 ·have hi := BO hc1
  exact aC.exit ⟨.inl rfl, (aE.r0 rfl ).cast rfl, (by dsimp only at hI; rw [← hI.1, zm hi]; rfl)⟩
theorem I6 (xs : List Port) (hx : xs.length ≤ 12) (H : Hp) (id : Nat) (m : Int) : cT Tryz.prog 95 [.os id xs.length 9, .int .i64 0, .int .i64 xs.length, .int .i64 m, .fn 53 []] (H.set id (az (xs.map Port.av))) (.tup []) (H.set id (az ((c4 xs).map Port.av))) := by
 refine cT.aL Tryz.func95 rfl rfl (aF rfl) (aC.seq (aC.region (aB.run II 1 rfl (aB.nil (aC.seq (aC.region (aB.run II 1 rfl (aB.nil (aC.blk (aC.aK (Kept.aI [.h, .s 0, .s 1, .s 2, .s 3, .s 4, .s 10, .s 11] rfl (by decide) (Kept.now (aC.aX (fun (u : Unit) => []) _ (fun (u : Unit) => True) (fun (u : Unit) => 0) () rfl trivial ?_)))))))))))))
 rintro u hu
 refine aC.blk (aC.seq (aC.region (aB.run II 4 rfl (aB.nil (aC.seq (aC.seq (aC.region (aB.run II 2 rfl (aB.nil (aC.ar rfl (decide_eq_true (by rw [eF (by omega) (by omega)]; omega)) ?_))))))))))
 exact aC.seq (aC.region (aB.run II 4 rfl (aB.c2 rfl (cK (aF rfl) xE rfl rfl (D5 xs hx H id)) (aB.nil (aC.ret ⟨.inr rfl, (aE.r0 rfl ).cast rfl, rfl⟩)))))
theorem DW (xs : List Port) (hx : xs.length ≤ 12) (H : Hp) (id : Nat) : cT Tryz.prog 52 [.os id xs.length 9, .fn 53 []] (H.set id (az (xs.map Port.av))) (.tup []) (H.set id (az ((c4 xs).map Port.av))) := by
 exact cT.aL Tryz.func52 rfl rfl (aF rfl) (aC.seq (aC.region (aB.run II 3 rfl (aB.nil (aC.region (aB.run II 4 rfl (aB.c1 rfl (aG (aF rfl) BX rfl (wQ xs.length hx)) (aB.run II 1 rfl (aB.c2 rfl (cK (aF rfl) BY rfl rfl (I6 xs hx H id _)) (aB.nil ⟨.inl rfl, (aE.r0 rfl ).cast rfl, rfl⟩))))))))))
/- ports by rising numbers -/
theorem B7 : ab Tryz.prog 52 = true := by kernel_rfl
theorem pS : fo Tryz.prog 51 1 = some 1 := by kernel_rfl
theorem ti : fo Tryz.prog 96 1 = some 7 := by kernel_rfl
theorem vG : lk Tryz.prog 42 = some (false, 1) := by kernel_rfl
theorem FT : Tryz.prog.underlying 86 = some (TypeDesc.slice 88) := Tryz.underlying86
theorem DX (xs : List Port) (hx : xs.length ≤ 12) (H : Hp) (id : Nat) (h : H.obj id = some (az (xs.map Port.av))) : cT Tryz.prog 52 [.os id xs.length 9, .fn 53 []] H (.tup []) (H.set id (az ((c4 xs).map Port.av))) := by
 have := DW xs hx H id
 rwa [Hp.zn h] at this
def eS (l : AV) (p : AV) (H : Hp) : Hp := (H.new [.v l]).new [.v p]
theorem GU (pid n fid off : Nat) (H : Hp) : cT Tryz.prog 34 [.os pid n 9, .op fid off] H (.fn 51 [.op H.next 0, .op (H.next + 1) 0]) (eS (.os pid n 9) (.op fid off) H) := by
 exact cT.aL Tryz.func34 rfl rfl (aF rfl) (aC.seq (aC.region (aB.run II 3 rfl (aB.kept (Kept.pw 2 rfl rfl (Kept.op 2 rfl rfl (Kept.cls 2 rfl rfl rfl rfl (Kept.pw 3 rfl rfl (Kept.op 3 rfl rfl (Kept.cls 3 rfl rfl rfl rfl (Kept.now (aC.seq (aC.region (aB.c1 rfl (km (aF rfl) rfl) (aB.run II 1 rfl (aB.nil (aC.ret ⟨.inr rfl, (aE.r1 rfl (.tmp rfl .nil)).cast rfl, rfl⟩)))))))))))))))))
theorem D4 (xs : List AV) (fid off : Nat) (H : Hp) : cT Tryz.prog 34 [.sl xs, .op fid off] H (.fn 51 [.op H.next 0, .op (H.next + 1) 0]) (eS (.sl xs) (.op fid off) H) := by
 exact cT.aL Tryz.func34 rfl rfl (aF rfl) (aC.seq (aC.region (aB.run II 3 rfl (aB.kept (Kept.pw 2 rfl rfl (Kept.op 2 rfl rfl (Kept.cls 2 rfl rfl rfl rfl (Kept.pw 3 rfl rfl (Kept.op 3 rfl rfl (Kept.cls 3 rfl rfl rfl rfl (Kept.now (aC.seq (aC.region (aB.c1 rfl (km (aF rfl) rfl) (aB.run II 1 rfl (aB.nil (aC.ret ⟨.inr rfl, (aE.r1 rfl (.tmp rfl .nil)).cast rfl, rfl⟩)))))))))))))))))
theorem qR : ∀ (k i : Nat) (ys : List Port), (kZ k i ys).length = ys.length
 | 0, _, _ => rfl
 | k + 1, i, ys => by rw [kZ, qR k, oJ]
theorem fT (xs : List Port) : (c4 xs).length = xs.length := qR _ _ _
def Fm.row (f : Fm) (r : Int) : List cU := f.aJ.getD r.toNat []
theorem ue {f : Fm} {r : Int} (h0 : 0 ≤ r) (h : r < f.aJ.length) : uR false 1 (((dy f.aJ).map fun c => Sv.v (qC c)).drop (r.toNat * 1)) = some (.v (gZ (f.row r))) := by
 have hi : r.toNat < f.aJ.length := by omega
 have := wL hi
 rw [Int.toNat_natCast] at this
 rw [this]
 unfold Fm.row
 rw [List.getD_eq_getElem?_getD, List.getElem?_eq_getElem hi]; rfl
def FP (f : Fm) (zs : List Port) (K : Nat → Hp) : List (List AV × Hp × Hp) :=
 (List.range zs.length).filterMap fun i => if f.row (iD zs i).reg = [] then none else some ([(iD zs i).av, gZ (f.row (iD zs i).reg)], K i, K (i + 1))
theorem zW {f : Fm} {zs : List Port} {K : Nat → Hp} {i : Nat} (hi : i < zs.length) (h : f.row (iD zs i).reg ≠ []) : ([(iD zs i).av, gZ (f.row (iD zs i).reg)], K i, K (i + 1)) ∈ FP f zs K :=
 List.mem_filterMap.2 ⟨i, List.mem_range.2 hi, by rw [if_neg h]⟩
theorem Fa {l : List cU} (h : decide (((l.map cU.av).length : Int) > 0) = true) : l ≠ [] := fun e => by subst e; simp at h
theorem Fc {l : List cU} (h : decide (((l.map cU.av).length : Int) > 0) = false) : l = [] := by
 cases l with
 | nil => rfl
 | cons a l => exact absurd h (by simp)
theorem kB {v : CV} {A B : Hp} {rest : List (aM × CV)} (h : A = B) : ((aM.s 10, v) :: (aM.h, CV.hp A) :: rest) = [(aM.s 10, v), (aM.h, CV.hp B)] ++ rest := by rw [h]; rfl
theorem ED (xs : List Port) (hx : xs.length ≤ 12) (f : Fm) (A B pid : Nat) (H0 : Hp) (K : Nat → Hp) (hp : H0.obj pid = some (az (xs.map Port.av))) (hA0 : H0.obj A = some [.v (.os pid xs.length 9)]) (hK0 : K 0 = H0.set pid (az ((c4 xs).map Port.av)))
  (hA : ∀ i, i ≤ xs.length → (K i).obj A = some [.v (.os pid xs.length 9)]) (hB : ∀ i, i ≤ xs.length → (K i).obj B = some [.v f.ptr]) (hF : ∀ i, i ≤ xs.length → (K i).obj (f.r + 1) = some f.Al) (hR : ∀ i, i ≤ xs.length → (K i).obj f.r = some (dy f.aJ))
  (hP : ∀ i, i ≤ xs.length → (K i).obj pid = some (az ((c4 xs).map Port.av))) (hreg : ∀ i, i < xs.length → 0 ≤ (iD (c4 xs) i).reg ∧ (iD (c4 xs) i).reg < f.aJ.length) (hK : ∀ i, i < xs.length → f.row (iD (c4 xs) i).reg = [] → K i = K (i + 1)) :
  kD Tryz.prog 51 [.op A 0, .op B 0] H0 (FP f (c4 xs) K) (K xs.length) := by
 refine kD.aL Tryz.func51 rfl rfl (fh rfl) rfl fun E l hY => (ao.seq (ao.region (aB.c1 rfl (bJ (aF rfl) kx rfl rfl hA0 rfl) (aB.c2 rfl (cK (aF rfl) B7 rfl rfl (DX xs hx H0 pid hp)) (aB.nil (ao.seq (ao.region (aB.c1 rfl (bJ (aF rfl) kx rfl rfl (by rw [← hK0]; exact hA 0 (Nat.zero_le _)) rfl) ?_))))))))
 refine aB.run II 2 rfl (aB.nil (ao.blk (ao.aK (Kept.aI [.s 10, .h, .s 0, .s 2, .s 8, .s 9] rfl (by decide) (Kept.now ?_)))))
 rw [← hK0]
 refine ao.aX (fun (i : Nat) => [(.s 10, .sv (.v (.int .i64 (i : Int)))), (.h, .hp (K i))]) _ (fun (i : Nat) => i ≤ xs.length) (fun (i : Nat) => xs.length - i) 0 rfl (Nat.zero_le _) ?_
 rintro i hI
 refine ao.seq (ao.region (aB.run II 1 rfl (aB.nil (ao.seq (ao.cond rfl (fun hc1 => ?_) (fun hc1 => ?_))))))
 ·have hi := Il hc1
  refine ao.skip (ao.seq (ao.blk (ao.seq (ao.region (aB.c1 rfl (bU (aF rfl) cG rfl rfl (Int.natCast_nonneg _) (by omega)) (aB.c1 rfl (jH (aF rfl) gW rfl rfl (hP i hI) oZ rfl (pe (by rw [fT]; exact hi))) ?_))))))
  refine aB.run II 2 rfl (aB.nil (ao.seq (ao.drawn mixed rfl (bO.c1 rfl (bJ (aF rfl) vG rfl rfl (hB i hI) rfl) (bO.c1 rfl (ld (aF rfl) rfl) (bO.c1 rfl (oa (aF rfl) pS rfl) (bO.c1 rfl (bJ (aF rfl) jO rfl rfl (hF i hI) rfl) (bO.c1 rfl (o9 (aF rfl) ti rfl) (bO.c1 rfl (ko (aF rfl) iW rfl rfl rfl) (bO.c1 rfl (bU (aF rfl) lA rfl rfl (hreg i hi).1 (hreg i hi).2) (bO.c1 rfl (bJ (aF rfl) kv rfl rfl (hR i hI) (ue (hreg i hi).1 (hreg i hi).2)) ?_)))))))))))
  refine bO.c1 rfl (lj (aF rfl) FT rfl) (bO.c1 rfl (dM (aF rfl) rfl rfl rfl) (bO.c1 rfl (eG (aF rfl) rfl) (bO.split (d := 24) rfl (fun hg2 => ?_) (fun hg2 => ?_))))
  ·refine bO.g1 rfl (aF rfl) rfl hg2 (eG (aF rfl) rfl) (bO.g1 rfl (aF rfl) rfl hg2 (ko (aF rfl) gW rfl rfl rfl) (bO.g1 rfl (aF rfl) rfl hg2 (bJ (aF rfl) vG rfl rfl (hB i hI) rfl) (bO.g1 rfl (aF rfl) rfl hg2 (ld (aF rfl) rfl) (bO.g1 rfl (aF rfl) rfl hg2 (oa (aF rfl) pS rfl) (bO.g1 rfl (aF rfl) rfl hg2 (bJ (aF rfl) jO rfl rfl (hF i hI) rfl) (bO.g1 rfl (aF rfl) rfl hg2 (o9 (aF rfl) ti rfl) (bO.g1 rfl (aF rfl) rfl hg2 (ko (aF rfl) iW rfl rfl rfl) (bO.g1 rfl (aF rfl) rfl hg2 (bU (aF rfl) lA rfl rfl (hreg i hi).1 (hreg i hi).2) (bO.g1 rfl (aF rfl) rfl hg2 (bJ (aF rfl) kv rfl rfl (hR i hI) (ue (hreg i hi).1 (hreg i hi).2)) (bO.h2 rfl (aF rfl) rfl hg2 (A0 (aF rfl) rfl rfl rfl (hY _ (zW (by rw [fT]; exact hi) (Fa hg2)))) ?_))))))))))
   exact bO.g1 rfl (aF rfl) rfl hg2 (nG (aF rfl) rfl rfl) (bO.c1 rfl (dC (aF rfl) rfl hg2 rfl) (bO.nil (by kernel_rfl) (Kept.now (ao.aZ rfl rfl (ao.skip (ao.region (aB.run II 2 rfl (aB.kept (Kept.aY 10 rfl (inc (by omega)) (Kept.aI [.s 10, .h, .s 0, .s 2, .s 8, .s 9] rfl (by decide) (Kept.now ⟨i + 1, by omega, by omega, rfl⟩)))))))))))
  ·iterate 12 (refine bO.gL rfl rfl (aF rfl) (aF rfl) rfl hg2 ?_)
   exact bO.c1 rfl (cJ (aF rfl) rfl hg2 rfl) (bO.nil (by kernel_rfl) (Kept.now (ao.aZ rfl rfl (ao.skip (ao.region (aB.run II 2 rfl (aB.kept (Kept.aY 10 rfl (inc (by omega)) (Kept.aI [.s 10, .h, .s 0, .s 2, .s 8, .s 9] rfl (by decide) (Kept.now ⟨i + 1, by omega, by omega, kB (hK i hi (Fc hg2))⟩))))))))))
 ·have hi := BO hc1
  refine ao.exit ?_
  have e : i = xs.length := Nat.le_antisymm hI hi
  subst e
  exact ⟨.inl rfl, rfl⟩
/- what is in registers, as a tree -/
def gO (rows : List AV) (H : Hp) : Hp := ((H.new (az [])).del H.next).new (az rows)
theorem tE (l : List Port) (hl : l.length ≤ 1000000) (hne : l ≠ []) (H : Hp) : cT Tryz.prog 30 [.sl (l.map Port.av)] H (.os (H.next + 1) l.length 9) (gO (l.map Port.av) H) := by
 refine cT.aL Tryz.func30 rfl rfl (aF rfl) (aC.seq (aC.region (aB.run II 1 rfl (aB.nil (aC.seq (aC.seq (aC.region (aB.run II 1 rfl (aB.Bl (aF rfl) Tryz.underlying44 rfl (fun b hb => (aB.nil (aC.cond (b := b) rfl (fun hc1 => ?_) (fun hc1 => ?_)))))))))))))
 ·exact aC.seq (aC.region (aB.run II 1 rfl (aB.nil (aC.ret (absurd (List.map_eq_nil_iff.1 (hb hc1)) hne)))))
 ·refine aC.skip (aC.seq (aC.region (aB.c3 rfl (lg («as» := []) (aF rfl) dI fl rfl rfl rfl (fh rfl) rfl rfl) (aB.run II 1 rfl (aB.c3 rfl (kr (aF rfl) dI fl rfl rfl Hp.bq (fun e he => by cases he) rfl rfl (bw Port.cells (fun _ => rfl) _) rfl (by rw [List.length_map]; omega) (by rw [List.length_map]; omega)) ?_)))))
  exact aB.run II 1 rfl (aB.nil (aC.ret ⟨.inr rfl, (aE.r1 rfl (.tmp rfl .nil)).cast (by rw [List.length_map, Nat.zero_add]; rfl), rfl⟩))
theorem AQ (ps : List aj) (bh : Bool) (k : Nat) (q : aj) (hq : ps[k]? = some q) (hb : (q.side bh).length ≤ 1000000) (hne : q.side bh ≠ []) (H : Hp) : cT Tryz.prog 12 [cS ps, .bool bh, .int .i64 k] H (.os (H.next + 1) (q.side bh).length 9) (gO ((q.side bh).map Port.av) H) := by
 have e0 : cS ps = .agg [.sl (ps.map aj.av)] := rfl
 refine cT.aL Tryz.func12 rfl rfl (aF rfl) (aC.seq (aC.region (aB.run II 2 rfl (aB.nil (aC.seq (aC.seq (aC.region (aB.run II 1 rfl (aB.nil (aC.cond rfl (fun hc1 => ?_) (fun hc1 => ?_)))))))))))
 ·refine aC.seq (aC.region (aB.run II 3 rfl (aB.c1 rfl (aH (aF rfl) dP rfl rfl (Int.natCast_nonneg _) (oW hq) rfl) (aB.run II 2 rfl (aB.c2 rfl (cK (aF rfl) rr rfl rfl (tE _ (by cases bh <;> first | exact hb | cases hc1) (by cases bh <;> first | exact hne | cases hc1) _)) ?_)))))
  exact aB.run II 1 rfl (aB.nil (aC.ret ⟨.inr rfl, (aE.r1 rfl (.tmp rfl .nil)).cast (by cases bh <;> first | rfl | cases hc1), (by cases bh <;> first | rfl | cases hc1)⟩))
 ·refine aC.skip (aC.seq (aC.region (aB.run II 3 rfl (aB.c1 rfl (aH (aF rfl) dP rfl rfl (Int.natCast_nonneg _) (oW hq) rfl) (aB.run II 2 rfl (aB.c2 rfl (cK (aF rfl) rr rfl rfl (tE _ (by cases bh <;> first | exact hb | cases hc1) (by cases bh <;> first | exact hne | cases hc1) _)) ?_))))))
  exact aB.run II 1 rfl (aB.nil (aC.ret ⟨.inr rfl, (aE.r1 rfl (.tmp rfl .nil)).cast (by cases bh <;> first | rfl | cases hc1), (by cases bh <;> first | rfl | cases hc1)⟩))
/- Plain laws: the objects between the rounds of frame.Tree. No condition. -/
theorem CC {K : Hp} {o : AV} {cs : List Hc} : (ir K o cs).obj K.next = some cs := by
 unfold ir; split <;> simp [Hp.new, Hp.set, Hp.del]
def pb (TR : Fm → Tree) (c : cU) : bS := .mk c.n c.s (match c.f with | none => [] | some g => [TR g])
def lY (TR : Fm → Tree) (f : Fm) (x : Port) : Slot := .mk x.f.num ((f.row x.reg).map (pb TR))
structure TK where
 H : Hp
 o : AV
 xs : List AV
def TK.step (T0 : Nat) (rest : AV) (TR : Fm → Tree) (f : Fm) (x : Port) (k : TK) : TK :=
 if f.row x.reg = [] then k else
  ⟨(ir k.H k.o (az (k.xs ++ [(lY TR f x).av]))).set T0 [.v (.os k.H.next (k.xs.length + 1) 2), .v rest], .os k.H.next (k.xs.length + 1) 2, k.xs ++ [(lY TR f x).av]⟩
def xl (T0 : Nat) (rest : AV) (TR : Fm → Tree) (f : Fm) (zs : List Port) (k0 : TK) : Nat → TK
 | 0 => k0
 | i + 1 => (xl T0 rest TR f zs k0 i).step T0 rest TR f (iD zs i)
structure En (n T0 : Nat) (rest : AV) (K0 : Hp) (k : TK) : Prop where
 nx : n ≤ k.H.next
 low : ∀ id, id < n → id ≠ T0 → k.H.obj id = K0.obj id
 t : k.H.obj T0 = some [.v k.o, .v rest]
 ops : eh k.H k.o 2 k.xs
 ne : ∀ id m e, k.o = .os id m e → n ≤ id
 es : ∀ e ∈ k.xs, e.cells.length = 2
theorem En.step {n T0 : Nat} {rest : AV} {K0 : Hp} {k : TK} (h : En n T0 rest K0 k) (hT : T0 < n) (TR : Fm → Tree) (f : Fm) (x : Port) : En n T0 rest K0 (k.step T0 rest TR f x) := by
 unfold TK.step
 split
 ·exact h
 ·have hn := h.nx
  refine ⟨by show n ≤ (ir _ _ _).next; rw [kV]; omega, fun id h1 h2 => ?_, Hp.bq, .inr ⟨k.H.next, ?_, ?_⟩, fun id m e he => ?_, fun e he => ?_⟩
  ·show (Hp.set _ _ _).obj id = _
   simp only [Hp.set, if_neg h2]
   rw [jz (by omega) (fun m e he => by have := h.ne id m e he; omega)]
   exact h.low id h1 h2
  ·show AV.os _ _ _ = AV.os _ _ _
   rw [List.length_append]; rfl
  ·show (Hp.set _ _ _).obj _ = _
   have : k.H.next ≠ T0 := by omega
   simp only [Hp.set, if_neg this]
   exact CC
  ·cases he; exact hn
  ·rcases List.mem_append.1 he with h1 | h1
   ·exact h.es e h1
   ·simp only [List.mem_singleton] at h1
    subst h1
    unfold lY
    rw [Slot.bK]; rfl
theorem En.at {n T0 : Nat} {rest : AV} {K0 : Hp} {k0 : TK} (h : En n T0 rest K0 k0) (hT : T0 < n) (TR : Fm → Tree) (f : Fm) (zs : List Port) : ∀ i, En n T0 rest K0 (xl T0 rest TR f zs k0 i)
 | 0 => h
 | i + 1 => (En.at h hT TR f zs i).step hT TR f _
theorem zb {T0 : Nat} {rest : AV} {TR : Fm → Tree} {f : Fm} {zs : List Port} {k0 : TK} : ∀ i, i ≤ zs.length → (xl T0 rest TR f zs k0 i).xs = k0.xs ++ ((zs.take i).filterMap fun x => if f.row x.reg = [] then none else some (lY TR f x).av)
 | 0, _ => by simp [xl]
 | i + 1, h => by
  have hi : i < zs.length := by omega
  have ha : iD zs i = zs[i] := by unfold iD; rw [List.getD_eq_getElem?_getD, List.getElem?_eq_getElem hi]; rfl
  rw [xl, gA hi, List.filterMap_append, ← List.append_assoc, ← zb (T0 := T0) (rest := rest) i (by omega), ha]
  unfold TK.step
  split
  ·rename_i hc; simp [hc]
  ·rename_i hc; simp [hc]
theorem Fm.At.mono {H H' : Hp} {f : Fm} (h : f.At H) (hs : ∀ id cs, H.obj id = some cs → H'.obj id = some cs) : f.At H' := by
 induction h with
 | mk f h1 h2 hb h3 ih => exact .mk f (hs _ _ h1) (hs _ _ h2) hb ih
def vW (K : Hp) (o : AV) (T0 : Nat) (cs : List Hc) : Hp := match o with | .os id _ _ => (K.del id).set T0 cs | _ => K.set T0 cs
theorem Kept.HI {s : St} {Q : St → Prop} (T0 : Nat) {K : Hp} {o rest : AV} {xs : List AV} (hH : get s .h = some (.hp K)) (ht : K.obj T0 = some [.v o, .v rest]) (ho : eh K o 2 xs) (hne : ∀ id m e, o = .os id m e → id ≠ T0) (hes : ∀ e ∈ xs, e.cells.length = 2)
  (h : Kept ((.h, .hp (vW K o T0 [.v (.sl xs), .v rest])) :: s) Q) : Kept s Q := by
 rcases ho with ⟨rfl, rfl⟩ | ⟨id, rfl, ho⟩
 ·exact Kept.Gt T0 0 hH ht rfl h
 ·have hfl : (xs.flatMap AV.cells).length = xs.length * 2 := ca hes
  refine Kept.It T0 0 (ys := xs) (esz := 2) (xs := xs.flatMap AV.cells) hH ht rfl ho (fun e => hne id _ _ rfl e.symm) hes (by rw [← hfl, List.take_length]) (Nat.le_refl _) ?_
  rw [List.take_length]
  exact fun E N a w ⟨G, L, hr⟩ => h E N a w ⟨G, L, hr.ext fun c => by simp only [get]; split <;> rfl⟩
theorem BR {K : Hp} {o : AV} {T0 : Nat} {cs : List Hc} : (vW K o T0 cs).obj T0 = some cs := by
 unfold vW; split <;> exact Hp.bq
theorem te {K : Hp} {o : AV} {T0 id : Nat} {cs : List Hc} (h : id ≠ T0) (ho : ∀ m e, o ≠ .os id m e) : (vW K o T0 cs).obj id = K.obj id := by
 unfold vW
 split
 ·rename_i i m e
  have : id ≠ i := fun e2 => ho m e (by rw [e2])
  simp [Hp.set, Hp.del, h, this]
 ·simp [Hp.set, h]
/- Plain laws: the objects ahead of the loop of frame.Tree. No condition. -/
def bl (ps : List aj) (bh : Bool) (rest : AV) (H : Hp) : Hp := (((H.new [.v (.sl (ps.map aj.av))]).new [.v (.bool bh)]).new [.v (.sl []), .v (.sl [])]).new [.v .nsl, .v rest]
def cn (ps : List aj) (bh : Bool) (f : Fm) (side : List Port) (rest : AV) (H : Hp) : Hp := eS (.os (H.next + 5) side.length 9) f.ptr (gO (side.map Port.av) (bl ps bh rest H))
def mS (ps : List aj) (bh : Bool) (f : Fm) (side : List Port) (rest : AV) (H : Hp) : Hp := (cn ps bh f side rest H).set (H.next + 5) (az ((c4 side).map Port.av))
def oB (TR : Fm → Tree) (f : Fm) (zs : List Port) : Tree := .mk (zs.filterMap fun x => if f.row x.reg = [] then none else some (lY TR f x)) f.rest
section
variable {ps : List aj} {bh : Bool} {f : Fm} {side : List Port} {rest : AV} {H : Hp}
theorem J3 : (cn ps bh f side rest H).obj H.next = some [.v (.sl (ps.map aj.av))] := by
 simp [cn, eS, gO, bl, Hp.new, Hp.set, Hp.del, Nat.add_assoc]
theorem J4 : (cn ps bh f side rest H).obj (H.next + 1) = some [.v (.bool bh)] := by
 simp [cn, eS, gO, bl, Hp.new, Hp.set, Hp.del]
theorem J2 : (cn ps bh f side rest H).obj (H.next + 2) = some [.v (.sl []), .v (.sl [])] := by
 simp [cn, eS, gO, bl, Hp.new, Hp.set, Hp.del]
theorem J1 : (cn ps bh f side rest H).obj (H.next + 3) = some [.v .nsl, .v rest] := by
 simp [cn, eS, gO, bl, Hp.new, Hp.set, Hp.del]
theorem F3 : (cn ps bh f side rest H).obj (H.next + 5) = some (az (side.map Port.av)) := by
 simp [cn, eS, gO, bl, Hp.new, Hp.set, Hp.del]
theorem IS : (cn ps bh f side rest H).obj (H.next + 6) = some [.v (.os (H.next + 5) side.length 9)] := by
 simp [cn, eS, gO, bl, Hp.new, Hp.set, Hp.del]
theorem J5 : (cn ps bh f side rest H).obj (H.next + 7) = some [.v f.ptr] := by
 simp [cn, eS, gO, bl, Hp.new, Hp.set, Hp.del]
theorem F4 {id : Nat} (h : id < H.next) : (cn ps bh f side rest H).obj id = H.obj id := by
 have h0 : id ≠ H.next := by omega
 have h1 : id ≠ H.next + 1 := by omega
 have h2 : id ≠ H.next + 2 := by omega
 have h3 : id ≠ H.next + 3 := by omega
 have h4 : id ≠ H.next + 4 := by omega
 have h5 : id ≠ H.next + 5 := by omega
 have h6 : id ≠ H.next + 6 := by omega
 have h7 : id ≠ H.next + 7 := by omega
 simp [cn, eS, gO, bl, Hp.new, Hp.set, Hp.del, h0, h1, h2, h3, h4, h5, h6, h7]
theorem u2 {id : Nat} (h : id ≠ H.next + 5) : (mS ps bh f side rest H).obj id = (cn ps bh f side rest H).obj id := by
 simp [mS, Hp.set, h]
theorem J0 : En (H.next + 8) (H.next + 3) rest (mS ps bh f side rest H) ⟨mS ps bh f side rest H, .nsl, []⟩ :=
 ⟨Nat.le_refl _, fun _ _ _ => rfl, (u2 (by omega)).trans J1, .inl ⟨rfl, rfl⟩, fun _ _ _ e => (by cases e), fun e he => (by cases he)⟩
end
def dx (ps : List aj) (bh : Bool) (f : Fm) (side : List Port) (rest : AV) (TR : Fm → Tree) (H : Hp) (i : Nat) : TK :=
 xl (H.next + 3) rest TR f (c4 side) ⟨mS ps bh f side rest H, .nsl, []⟩ i
theorem fL {ps : List aj} {bh : Bool} {f : Fm} {side : List Port} {rest : AV} {TR : Fm → Tree} {H : Hp} (i : Nat) : En (H.next + 8) (H.next + 3) rest (mS ps bh f side rest H) (dx ps bh f side rest TR H i) := J0.at (by omega) TR f _ i
theorem kG {ps : List aj} {bh : Bool} {f : Fm} {side : List Port} {rest : AV} {TR : Fm → Tree} {H : Hp} (i : Nat) {id : Nat} (h : id < H.next) : (dx ps bh f side rest TR H i).H.obj id = H.obj id := by
 rw [(fL i).low id (by omega) (by omega), u2 (by omega), F4 h]
theorem iM {ps : List aj} {bh : Bool} {f : Fm} {side : List Port} {rest : AV} {TR : Fm → Tree} {H : Hp} (i : Nat) {id : Nat} (h : id < H.next + 8) (h3 : id ≠ H.next + 3) (h5 : id ≠ H.next + 5) : (dx ps bh f side rest TR H i).H.obj id = (cn ps bh f side rest H).obj id := by
 rw [(fL i).low id h h3, u2 h5]
theorem xk {ps : List aj} {bh : Bool} {f : Fm} {side : List Port} {rest : AV} {TR : Fm → Tree} {H : Hp} (i : Nat) : (dx ps bh f side rest TR H i).H.obj (H.next + 5) = some (az ((c4 side).map Port.av)) := by
 rw [(fL i).low _ (by omega) (by omega)]; exact Hp.bq
theorem EC {ps : List aj} {bh : Bool} {f : Fm} {side : List Port} {rest : AV} {TR : Fm → Tree} {H : Hp} (hfin : H.fin) (h12 : side.length ≤ 12) (hA : f.At H) (hreg : ∀ i, i < side.length → 0 ≤ (iD (c4 side) i).reg ∧ (iD (c4 side) i).reg < f.aJ.length) :
  kD Tryz.prog 51 [.op (H.next + 6) 0, .op (H.next + 7) 0] (cn ps bh f side rest H) (FP f (c4 side) fun i => (dx ps bh f side rest TR H i).H) (dx ps bh f side rest TR H side.length).H := by
 have o1 := hA.o1
 have o2 := hA.o2
 have lt : ∀ {id cs}, H.obj id = some cs → id < H.next := fun {id cs} e => by
  rcases Nat.lt_or_ge id H.next with q | q
  ·exact q
  ·rw [hfin id q] at e; cases e
 refine ED side h12 f (H.next + 6) (H.next + 7) (H.next + 5) _ (fun i => (dx ps bh f side rest TR H i).H) F3 IS rfl (fun i _ => (iM i (by omega) (by omega) (by omega)).trans IS) (fun i _ => (iM i (by omega) (by omega) (by omega)).trans J5)
  (fun i _ => (kG i (lt o1)).trans o1) (fun i _ => (kG i (lt o2)).trans o2) (fun i _ => xk i) hreg (fun i hi he => ?_)
 show (dx ps bh f side rest TR H i).H = ((dx ps bh f side rest TR H i).step (H.next + 3) rest TR f (iD (c4 side) i)).H
 unfold TK.step
 rw [if_pos he]
/- what is in registers, as a tree -/
theorem ry : ab Tryz.prog 12 = true := by kernel_rfl
theorem Bd : ab Tryz.prog 15 = true := by kernel_rfl
theorem v8 : ab Tryz.prog 33 = true := by kernel_rfl
theorem Bb : ab Tryz.prog 34 = true := by kernel_rfl
theorem BA : lk Tryz.prog 29 = some (false, 1) := by kernel_rfl
theorem vH : lk Tryz.prog 30 = some (false, 1) := by kernel_rfl
theorem m6 : lk Tryz.prog 32 = some (true, 2) := by kernel_rfl
theorem wq : lk Tryz.prog 4 = some (false, 1) := by kernel_rfl
theorem F9 : se Tryz.prog 29 = some (85, 2, 32) := by kernel_rfl
theorem F7 : se Tryz.prog 67 = some (32, 2, 48) := by kernel_rfl
theorem zo : se Tryz.prog 83 = some (82, 3, 48) := by kernel_rfl
theorem wH : zk Tryz.prog 32 = some [(0, 1), (1, 1)] := by kernel_rfl
theorem Ch : zk Tryz.prog 85 = some [(0, 1), (1, 1)] := by kernel_rfl
theorem C0 : bf Tryz.prog 85 = some [AV.int IntKind.i64 (0), AV.sl []] := by kernel_rfl
theorem CX : bf Tryz.prog 32 = some [AV.sl [], AV.sl []] := by kernel_rfl
theorem IG : mx Tryz.prog 32 = some [.nsl, .nsl] := by kernel_rfl
theorem JQ : mx Tryz.prog 85 = some [.int .i64 0, .nsl] := by kernel_rfl
theorem yt (o : Option Fm) : gz (.v (DN o)) = some o.isNone := by cases o <;> rfl
theorem Dk (t : Tree) : cQ 2 [t.av] = true := by rw [Tree.bK]; rfl
def gI (TR : Fm → Tree) (row : List cU) (k : Nat) : List bS := (row.take k).map (pb TR)
theorem mz {TR : Fm → Tree} {row : List cU} {k : Nat} (hk : k < row.length) : (gI TR row k).map bS.av ++ [(pb TR row[k]).av] = (gI TR row (k + 1)).map bS.av := by
 unfold gI; rw [gA hk, List.map_append, List.map_append]; rfl
theorem vB {v : CV} {num : Sv} {rest : List (aM × CV)} {el esz : Nat} {A B : List AV} {b : AV} (h : A ++ [b] = B) : ((aM.s 37, v) :: (aM.b 10, CV.bx [num, .ow 160 (A ++ [b])]) :: (aM.t 160, CV.tk false el esz (A ++ [b])) :: rest) = [(aM.s 37, v), (aM.b 10, CV.bx [num, .ow 160 B]), (aM.t 160, CV.tk false el esz B)] ++ rest := by rw [h]; rfl
theorem vj {TR : Fm → Tree} {c : cU} {g : Fm} (h : c.f = some g) : (pb TR c).av = .agg [.int .u64 (c.n : Int), .str c.s, .sl [(TR g).av]] := by unfold pb; rw [h, bS.bK]; rfl
theorem vk {TR : Fm → Tree} {c : cU} (h : c.f = none) : (pb TR c).av = .agg [.int .u64 (c.n : Int), .str c.s, .sl []] := by unfold pb; rw [h, bS.bK]; rfl
theorem za {ps : List aj} {bh : Bool} {f : Fm} {side : List Port} {TR : Fm → Tree} {H : Hp} : AV.agg [.sl (dx ps bh f side (.sl (f.rest.map Rw.av)) TR H side.length).xs, .sl (f.rest.map Rw.av)] = (oB TR f (c4 side)).av := by
 unfold dx
 rw [zb _ (by rw [fT]; exact Nat.le_refl _), List.take_of_length_le (by rw [fT]; exact Nat.le_refl _), List.nil_append, Tree.bK]
 show _ = AV.agg [.sl ((List.filterMap _ _).map Slot.av), _]
 rw [List.map_filterMap]
 congr 3
 congr 1
 funext x
 split <;> rfl
theorem AU (ps : List aj) (bh : Bool) (f : Fm) (q : aj) (hq : ps[f.part]? = some q) (h12 : (q.side bh).length ≤ 12) (hne : q.side bh ≠ []) (hreg : ∀ i, i < (q.side bh).length → 0 ≤ (iD (c4 (q.side bh)) i).reg ∧ (iD (c4 (q.side bh)) i).reg < f.aJ.length)
  (TR : Fm → Tree) (hrest : f.rest.length ≤ 1000000) (cB : ∀ l ∈ f.aJ, l.length ≤ 1000000) (H : Hp) (hfin : H.fin) (hA : f.At H) (hsub : ∀ l ∈ f.aJ, ∀ c ∈ l, ∀ g, c.f = some g → ∀ H', g.At H' → cT Tryz.prog 15 [cS ps, .bool bh, g.ptr] H' (TR g).av H') (K : TK) (hK : K = dx ps bh f (q.side bh) (.sl (f.rest.map Rw.av)) TR H (q.side bh).length) :
  cT Tryz.prog 15 [cS ps, .bool bh, f.ptr] H (oB TR f (c4 (q.side bh))).av ((vW K.H K.o (H.next + 3) [.v (.sl K.xs), .v (.sl (f.rest.map Rw.av))]).set (H.next + 2) [.v (.sl K.xs), .v (.sl (f.rest.map Rw.av))]) := by
 have e0 : cS ps = .agg [.sl (ps.map aj.av)] := rfl
 subst hK
 refine cT.w9 Tryz.func15 rfl rfl (fh rfl) (nY.seq (aC.region (aB.run II 3 rfl (aB.kept (Kept.pw 3 rfl rfl (Kept.op 3 rfl rfl (Kept.cls 3 rfl rfl rfl rfl (Kept.pw 4 rfl rfl (Kept.op 4 rfl rfl (Kept.cls 4 rfl rfl rfl rfl (Kept.pw 6 rfl rfl (Kept.op 6 rfl rfl (Kept.cls 6 rfl rfl rfl rfl (Kept.now ⟨rfl, ?_⟩))))))))))))))
 have hlt : ∀ {id : Nat} {cs : List Hc}, H.obj id = some cs → id < H.next := fun {id cs} e => by
  rcases Nat.lt_or_ge id H.next with q | q
  ·exact q
  ·rw [hfin id q] at e; cases e
 have hAt : ∀ {K : Hp} {id : Nat} {cs : List Hc}, H.obj id = some cs → (∀ i, i < H.next → K.obj i = H.obj i) → K.obj id = some cs := fun {K id cs} e hl => (hl id (hlt e)).trans e
 have hlow3 : ∀ i, i < H.next → (((H.new [.v (.sl (ps.map aj.av))]).new [.v (.bool bh)]).new [.v (.sl []), .v (.sl [])]).obj i = H.obj i := fun i hi => by
  have h0 : i ≠ H.next := by omega
  have h1 : i ≠ H.next + 1 := by omega
  have h2 : i ≠ H.next + 2 := by omega
  simp [Hp.new, Hp.set, h0, h1, h2]
 have hlow4 : ∀ i, i < H.next → (bl ps bh (.sl (f.rest.map Rw.av)) H).obj i = H.obj i := fun i hi => by
  have h0 : i ≠ H.next := by omega
  have h1 : i ≠ H.next + 1 := by omega
  have h2 : i ≠ H.next + 2 := by omega
  have h3 : i ≠ H.next + 3 := by omega
  simp [bl, Hp.new, Hp.set, h0, h1, h2, h3]
 refine nY.seq (aC.region (aB.run II 3 rfl (aB.c1 rfl (bJ (aF rfl) vH rfl rfl (hAt hA.o1 hlow3) rfl) (aB.c1 rfl (aG (aF rfl) v8 rfl (ki f.rest hrest)) (aB.c1 rfl (jI (aF rfl) wH IG rfl rfl) (aB.run II 2 rfl (aB.kept (Kept.pw 7 rfl rfl (Kept.op 7 rfl rfl (Kept.cls 7 rfl rfl rfl rfl (Kept.now ⟨rfl, (nY.IU (aC.drawn mixed rfl (aD.c1 rfl (bJ (aF rfl) jk rfl rfl (show (bl ps bh (.sl (f.rest.map Rw.av)) H).obj H.next = some [.v (.sl (ps.map aj.av))] by simp [bl, Hp.new, Hp.set, Nat.add_assoc]) rfl) ?_)))⟩)))))))))))
 refine aD.c1 rfl (bJ (aF rfl) wq rfl rfl (show (bl ps bh (.sl (f.rest.map Rw.av)) H).obj (H.next + 1) = some [.v (.bool bh)] by simp [bl, Hp.new, Hp.set, Nat.add_assoc]) rfl) (aD.run II 3 rfl (aD.c1 rfl (bJ (aF rfl) iW rfl rfl (hAt hA.o1 hlow4) rfl) (aD.c2 rfl (cK (aF rfl) ry rfl rfl (AQ ps bh f.part q hq (by omega) hne _)) (aD.run II 1 rfl (aD.c2 rfl (cK (aF rfl) Bb rfl rfl (GU _ _ _ _ _)) (aD.nil (by kernel_rfl) (Kept.aI [.h, .s 3, .s 4, .s 6, .s 7, .s 28] rfl (by decide) (Kept.now ⟨rfl, (CL.range (H := cn ps bh f (q.side bh) (.sl (f.rest.map Rw.av)) H) (H2 := (dx ps bh f (q.side bh) (.sl (f.rest.map Rw.av)) TR H (q.side bh).length).H) (caps := [.op (H.next + 6) 0, .op (H.next + 7) 0]) (ps := [29, 30]) (fun _ => rfl) (fun _ => rfl) rfl rfl (by kernel_rfl) (EC hfin h12 hA hreg) (by decide) (by decide) ?_ ?_ ?_)⟩))))))))
 ·intro y hy
  obtain ⟨i, _, hi⟩ := List.mem_filterMap.1 hy
  split at hi
  ·cases hi
  ·cases hi; rfl
 ·intro y hy
  obtain ⟨i, hi0, hi⟩ := List.mem_filterMap.1 hy
  split at hi
  ·cases hi
  rename_i hrw
  cases hi
  have hi1 : i < (q.side bh).length := by have := List.mem_range.1 hi0; rwa [fT] at this
  obtain ⟨x, hx⟩ : ∃ x, iD (c4 (q.side bh)) i = x := ⟨_, rfl⟩
  obtain ⟨row, hrw0⟩ : ∃ row, f.row x.reg = row := ⟨_, rfl⟩
  have hxr := hreg i hi1
  rw [hx] at hrw hxr
  have hrm : row ∈ f.aJ := by
   rw [← hrw0]; unfold Fm.row
   rw [List.getD_eq_getElem?_getD, List.getElem?_eq_getElem (show x.reg.toNat < f.aJ.length by omega)]
   exact List.getElem_mem _
  have hrl := cB row hrm
  have KI := fL (ps := ps) (bh := bh) (f := f) (side := q.side bh) (rest := .sl (f.rest.map Rw.av)) (TR := TR) (H := H) i
  obtain ⟨k0, hk0⟩ : ∃ k0, dx ps bh f (q.side bh) (.sl (f.rest.map Rw.av)) TR H i = k0 := ⟨_, rfl⟩
  have hP0 : k0.H.obj H.next = some [.v (.sl (ps.map aj.av))] := by rw [← hk0]; exact (iM i (by omega) (by omega) (by omega)).trans J3
  have hB0 : k0.H.obj (H.next + 1) = some [.v (.bool bh)] := by rw [← hk0]; exact (iM i (by omega) (by omega) (by omega)).trans J4
  have hold : ∀ id cs, H.obj id = some cs → k0.H.obj id = some cs := fun id cs e => hAt e fun j hj => by rw [← hk0]; exact kG i hj
  rw [hk0] at KI
  have hxl : k0.xs.length ≤ 12 := by
   rw [← hk0]; unfold dx; rw [zb i (by rw [fT]; omega)]
   have := List.length_filterMap_le (fun x => if f.row x.reg = [] then none else some (lY TR f x).av) ((c4 (q.side bh)).take i)
   rw [List.length_take, fT] at this
   simp only [List.nil_append]; omega
  have hKn : (dx ps bh f (q.side bh) (.sl (f.rest.map Rw.av)) TR H (i + 1)).H = (ir k0.H k0.o (az (k0.xs ++ [(lY TR f x).av]))).set (H.next + 3) [.v (.os k0.H.next (k0.xs.length + 1) 2), .v (.sl (f.rest.map Rw.av))] := by
   show ((dx ps bh f (q.side bh) (.sl (f.rest.map Rw.av)) TR H i).step _ _ _ _ _).H = _
   rw [hk0, hx]; unfold TK.step; rw [if_neg hrw]
  show sK _ _ _ _ _ _ [(iD (c4 (q.side bh)) i).av, gZ (f.row (iD (c4 (q.side bh)) i).reg)] (dx ps bh f (q.side bh) (.sl (f.rest.map Rw.av)) TR H i).H (dx ps bh f (q.side bh) (.sl (f.rest.map Rw.av)) TR H (i + 1)).H
  rw [hKn, hk0, hx, hrw0]
  intro E l
  refine ao.seq (ao.region (aB.run II 2 rfl (aB.nil (ao.region (aB.run II 1 rfl (aB.nil ⟨rfl, fun E' => (ao.blk (ao.seq (ao.region (aB.run II 3 rfl ?_))))⟩))))))
  refine aB.c1 rfl (jI (aF rfl) Ch JQ rfl rfl) (aB.run II 2 rfl (aB.kept (Kept.wc 10 1 160 82 3 rfl rfl rfl rfl (by decide) (Kept.now ?_))))
  iterate 2 (refine ao.seq ?_)
  refine ao.region (aB.run II 3 rfl (aB.nil (ao.blk (ao.aK (Kept.aI [.s 37, .b 10, .t 160, .h, .s 3, .s 4, .s 6, .s 7, .s 10, .s 35, .s 36] rfl (by decide) (Kept.now (ao.aX (fun (k : Nat) => [(.s 37, .sv (.v (.int .i64 (k : Int)))), (.b 10, .bx [.v (.int .i64 x.f.num), .ow 160 ((gI TR row k).map bS.av)]), (.t 160, .tk false 82 3 ((gI TR row k).map bS.av))]) _ (fun (k : Nat) => True) (fun (k : Nat) => row.length - k) 0 rfl trivial ?_)))))))
  rintro k hK
  refine ao.seq (ao.region (aB.run II 1 rfl (aB.nil (ao.seq (ao.cond rfl (fun hc1 => ?_) (fun hc1 => ?_))))))
  ·have hk := ch hc1
   refine ao.skip (ao.seq (ao.blk (ao.seq (ao.region (aB.c1 rfl (aH (aF rfl) vT rfl rfl (Int.natCast_nonneg _) (bz hk) rfl) (aB.run II 3 rfl (aB.nil (ao.seq (ao.region (aB.run II 7 rfl (aB.nil ?_)))))))))))
   iterate 2 (refine ao.seq ?_)
   refine ao.region (aB.run II 2 rfl (aB.c1 rfl (A4 (aF rfl) oV rfl (yt _)) (aB.nil (ao.cond rfl (fun hc2 => ?_) (fun hc2 => ?_)))))
   ·obtain ⟨g, hg⟩ : ∃ g, (row[k]'hk).f = some g := by cases e : (row[k]'hk).f with | none => rw [e] at hc2; cases hc2 | some g => exact ⟨g, rfl⟩
    refine ao.region (aB.c1 rfl (bJ (aF rfl) jk rfl rfl hP0 rfl) (aB.c1 rfl (bJ (aF rfl) wq rfl rfl hB0 rfl) (aB.run II 2 rfl (aB.c1 rfl (ck (aF rfl) Bd rfl rfl (by rw [hg]; exact hsub row hrm _ (List.getElem_mem hk) g hg k0.H ((hA.o3 row hrm _ (List.getElem_mem hk) g hg).mono hold))) ?_))))
    refine aB.c1 rfl (A8 («as» := [_]) (aF rfl) F7 CX rfl rfl (Dk _) (fh rfl)) (aB.run II 2 rfl (aB.nil (ao.region (aB.run II 4 rfl (aB.c3 rfl (aW (aF rfl) zo rfl rfl rfl rfl rfl (by simp only [List.length_map, gI, List.length_take, List.length_cons, List.length_nil]; omega) (by simp only [List.length_map, gI, List.length_take, List.length_cons, List.length_nil]; omega)) ?_)))))
    exact aB.run II 2 rfl (aB.nil (ao.region (aB.run II 2 rfl (aB.kept (Kept.aY 37 rfl (inc (by omega)) (Kept.aI [.s 37, .b 10, .t 60, .h, .s 3, .s 4, .s 6, .s 7, .s 10, .s 35, .s 36] rfl (by decide) (Kept.gB 60 160 (by decide) rfl (Kept.now ⟨k + 1, by omega, trivial, vB (by rw [← mz hk, vj hg])⟩))))))))
   ·refine ao.skip (ao.region (aB.run II 4 rfl (aB.c3 rfl (aW (aF rfl) zo rfl rfl rfl rfl rfl (by simp only [List.length_map, gI, List.length_take, List.length_cons, List.length_nil]; omega) (by simp only [List.length_map, gI, List.length_take, List.length_cons, List.length_nil]; omega)) ?_)))
    exact aB.run II 2 rfl (aB.nil (ao.region (aB.run II 2 rfl (aB.kept (Kept.aY 37 rfl (inc (by omega)) (Kept.aI [.s 37, .b 10, .t 60, .h, .s 3, .s 4, .s 6, .s 7, .s 10, .s 35, .s 36] rfl (by decide) (Kept.gB 60 160 (by decide) rfl (Kept.now ⟨k + 1, by omega, trivial, vB (by rw [← mz hk, vk (by cases e : (row[k]'hk).f with | none => rfl | some g => rw [e] at hc2; cases hc2)])⟩))))))))
  ·have hk := cj hc1
   refine ao.exit (ao.region (aB.run II 1 rfl (aB.c1 rfl (bJ (aF rfl) BA rfl rfl KI.t rfl) (aB.run II 2 rfl (aB.c3 rfl (jh (aF rfl) F9 C0 rfl rfl KI.ops KI.es rfl rfl (List.cons_ne_nil _ _) rfl (by simp only [List.length_cons, List.length_nil]; omega) (by simp only [List.length_cons, List.length_nil]; omega)) ?_)))))
   refine aB.run II 1 rfl (aB.c1 rfl (rW BA rfl rfl (show (ir k0.H k0.o _).obj (H.next + 3) = some [.v k0.o, .v (.sl (f.rest.map Rw.av))] from (jz (show H.next + 3 < k0.H.next by have := KI.nx; omega) (fun m e h1 => by have := KI.ne _ m e h1; omega)).trans KI.t) rfl rfl rfl) ?_)
   refine aB.nil ?_
   have hs : (lY TR f x).av = .agg [.int .i64 x.f.num, .sl ((gI TR row k).map bS.av)] := by
    unfold lY gI; rw [hrw0, List.take_of_length_le hk, Slot.bK]; rfl
   exact ⟨rfl, by rw [hs]; rfl⟩
 ·refine aC.aK (Kept.HI (H.next + 3) rfl ((fL _).t) ((fL _).ops) (fun id m e h1 h2 => by have := (fL _).ne id m e h1; omega) ((fL _).es) (Kept.now ?_))
  refine aC.seq (aC.region (aB.c1 rfl (bJ (aF rfl) m6 rfl rfl BR rfl) (aB.c1 rfl (rV m6 rfl rfl (show (vW (dx ps bh f (q.side bh) (.sl (f.rest.map Rw.av)) TR H (q.side bh).length).H (dx ps bh f (q.side bh) (.sl (f.rest.map Rw.av)) TR H (q.side bh).length).o (H.next + 3) [.v (.sl (dx ps bh f (q.side bh) (.sl (f.rest.map Rw.av)) TR H (q.side bh).length).xs), .v (.sl (f.rest.map Rw.av))]).obj (H.next + 2) = some [.v (.sl []), .v (.sl [])] from (te (by omega) (fun m e h1 => by have := (fL _).ne _ m e h1; omega)).trans ((iM _ (by omega) (by omega) (by omega)).trans J2)) rfl rfl rfl (fh rfl) rfl) ?_)))
  exact aB.nil (aC.ret ⟨.inr rfl, (aE.r1 rfl (.celo m6 rfl rfl Hp.bq rfl rfl .nil)).cast (za), rfl⟩)
/- frame.Tree leaves the objects as they were; ports sorted are those ports. No condition. -/
theorem AT (ps : List aj) (bh : Bool) (f : Fm) (q : aj) (hq : ps[f.part]? = some q) (h12 : (q.side bh).length ≤ 12) (hne : q.side bh ≠ []) (hreg : ∀ i, i < (q.side bh).length → 0 ≤ (iD (c4 (q.side bh)) i).reg ∧ (iD (c4 (q.side bh)) i).reg < f.aJ.length)
  (TR : Fm → Tree) (hrest : f.rest.length ≤ 1000000) (cB : ∀ l ∈ f.aJ, l.length ≤ 1000000) (H : Hp) (hA : f.At H) (hsub : ∀ l ∈ f.aJ, ∀ c ∈ l, ∀ g, c.f = some g → ∀ H', g.At H' → cT Tryz.prog 15 [cS ps, .bool bh, g.ptr] H' (TR g).av H') :
  cT Tryz.prog 15 [cS ps, .bool bh, f.ptr] H (oB TR f (c4 (q.side bh))).av H := by
 refine cT.fin fun hfin => (cT.drop (AU ps bh f q hq h12 hne hreg TR hrest cB H hfin hA hsub _ rfl) (IE.refl H) (fun i hi => ?_) (Tree.kY _))
 have h2 : i ≠ H.next + 2 := by omega
 have KI := fL (ps := ps) (bh := bh) (f := f) (side := q.side bh) (rest := .sl (f.rest.map Rw.av)) (TR := TR) (H := H) (q.side bh).length
 simp only [Hp.set, if_neg h2]
 rw [te (by omega) (fun m e h1 => by have := KI.ne _ m e h1; omega)]
 exact kG _ hi
theorem sH {ys : List Port} {j : Nat} (h : j < ys.length) : iD ys j ∈ ys := by
 unfold iD
 rw [List.getD_eq_getElem?_getD, List.getElem?_eq_getElem h]
 exact List.getElem_mem _
theorem Ce {ys : List Port} {j : Nat} (h : j + 1 < ys.length) : ∀ x ∈ rC ys j, x ∈ ys := fun x hx => by
 unfold rC at hx
 rcases List.mem_or_eq_of_mem_set hx with h1 | rfl
 ·rcases List.mem_or_eq_of_mem_set h1 with h2 | rfl
  ·exact h2
  ·exact sH (by omega)
 ·exact sH h
theorem sZ : ∀ (j : Nat) (ys : List Port), j < ys.length → ∀ x ∈ ff j ys, x ∈ ys
 | 0, ys, _, x, hx => hx
 | j + 1, ys, h, x, hx => by
  unfold ff at hx
  split at hx
  ·exact Ce h x (sZ j _ (by rw [rB]; omega) x hx)
  ·exact hx
theorem qQ : ∀ (k i : Nat) (ys : List Port), i + k ≤ ys.length → ∀ x ∈ kZ k i ys, x ∈ ys
 | 0, _, _, _, x, hx => hx
 | k + 1, i, ys, h, x, hx => by
  rw [kZ] at hx
  exact sZ i ys (by omega) x (qQ k (i + 1) _ (by rw [oJ]; omega) x hx)
theorem zl {xs : List Port} : ∀ x ∈ c4 xs, x ∈ xs := fun x hx => by
 cases xs with
 | nil => exact hx
 | cons a l => exact qQ _ _ _ (by simp; omega) x hx
def sT (ps : List aj) (bh : Bool) : Nat → Fm → Tree
 | 0, _ => .mk [] []
 | n + 1, f => oB (sT ps bh n) f (c4 ((ps.getD f.part cc).side bh))
/- no ports -/
theorem AD : Pure Tryz.prog 140 [.sl [], .int .i64 0, .int .i64 0, .fn 53 []] (.tup []) := by
 refine Pure.aL Tryz.func140 rfl rfl (aF rfl) fun H => (aC.seq (aC.region (aB.run II 3 rfl (aB.nil (aC.blk (aC.aK (Kept.aI [.h, .s 0, .s 1, .s 2, .s 3, .s 8] rfl (by decide) (Kept.now (aC.aX (fun (u : Unit) => []) _ (fun (u : Unit) => True) (fun (u : Unit) => 0) () rfl trivial ?_)))))))))
 rintro u hu
 exact aC.seq (aC.seq (aC.region (aB.run II 3 rfl (aB.nil (aC.aZ rfl rfl (aC.exit ⟨.inl rfl, (aE.r0 rfl ).cast rfl, rfl⟩))))))
theorem Fj (m : Int) : Pure Tryz.prog 95 [.sl [], .int .i64 0, .int .i64 0, .int .i64 m, .fn 53 []] (.tup []) := by
 refine Pure.aL Tryz.func95 rfl rfl (aF rfl) fun H => (aC.seq (aC.region (aB.run II 1 rfl (aB.nil (aC.seq (aC.region (aB.run II 1 rfl (aB.nil (aC.blk (aC.aK (Kept.aI [.h, .s 0, .s 1, .s 2, .s 3, .s 4, .s 10, .s 11] rfl (by decide) (Kept.now (aC.aX (fun (u : Unit) => []) _ (fun (u : Unit) => True) (fun (u : Unit) => 0) () rfl trivial ?_)))))))))))))
 rintro u hu
 exact aC.blk (aC.seq (aC.region (aB.run II 4 rfl (aB.nil (aC.seq (aC.seq (aC.region (aB.run II 2 rfl (aB.nil (aC.ar rfl rfl (aC.seq (aC.region (aB.run II 4 rfl (aB.c1 rfl (aG (aF rfl) xE rfl AD) (aB.nil (aC.ret ⟨.inr rfl, (aE.r0 rfl ).cast rfl, rfl⟩))))))))))))))))
theorem zu : Pure Tryz.prog 52 [.sl [], .fn 53 []] (.tup []) := by
 exact Pure.aL Tryz.func52 rfl rfl (aF rfl) fun H => (aC.seq (aC.region (aB.run II 3 rfl (aB.nil (aC.region (aB.run II 4 rfl (aB.c1 rfl (aG (aF rfl) BX rfl (wQ 0 (by decide))) (aB.run II 1 rfl (aB.c1 rfl (aG (aF rfl) BY rfl (Fj _)) (aB.nil ⟨.inl rfl, (aE.r0 rfl ).cast rfl, rfl⟩))))))))))
theorem BJ (A B : Nat) (H0 : Hp) (hA0 : H0.obj A = some [.v (.sl [])]) : kD Tryz.prog 51 [.op A 0, .op B 0] H0 [] H0 := by
 refine kD.aL Tryz.func51 rfl rfl (fh rfl) rfl fun E l hY => (ao.seq (ao.region (aB.c1 rfl (bJ (aF rfl) kx rfl rfl hA0 rfl) (aB.c1 rfl (aG (aF rfl) B7 rfl zu) (aB.nil (ao.seq (ao.region (aB.c1 rfl (bJ (aF rfl) kx rfl rfl hA0 rfl) (aB.run II 2 rfl (aB.nil (ao.blk ?_)))))))))))
 refine ao.aK (Kept.aI [.h, .s 0, .s 2, .s 8, .s 9, .s 10] rfl (by decide) (Kept.now (ao.aX (fun (u : Unit) => []) _ (fun (u : Unit) => True) (fun (u : Unit) => 0) () rfl trivial ?_)))
 rintro u hu
 exact ao.seq (ao.region (aB.run II 1 rfl (aB.nil (ao.seq (ao.aZ rfl rfl (ao.exit ⟨.inl rfl, rfl⟩))))))
/- frame.Tree, of a part without ports. No condition. -/
theorem AW (ps : List aj) (bh : Bool) (f : Fm) (q : aj) (hq : ps[f.part]? = some q) (h0 : q.side bh = []) (hbn : q.ins.length ≤ 1000000 ∧ q.outs.length ≤ 1000000) (hrest : f.rest.length ≤ 1000000) (H : Hp) (hfin : H.fin) (hA : f.At H) :
  cT Tryz.prog 15 [cS ps, .bool bh, f.ptr] H (.agg [.sl [], .sl (f.rest.map Rw.av)]) (((eS (.sl []) f.ptr (bl ps bh (.sl (f.rest.map Rw.av)) H)).set (H.next + 3) [.v (.sl []), .v (.sl (f.rest.map Rw.av))]).set (H.next + 2) [.v (.sl []), .v (.sl (f.rest.map Rw.av))]) := by
 have e0 : cS ps = .agg [.sl (ps.map aj.av)] := rfl
 refine cT.w9 Tryz.func15 rfl rfl (fh rfl) (nY.seq (aC.region (aB.run II 3 rfl (aB.kept (Kept.pw 3 rfl rfl (Kept.op 3 rfl rfl (Kept.cls 3 rfl rfl rfl rfl (Kept.pw 4 rfl rfl (Kept.op 4 rfl rfl (Kept.cls 4 rfl rfl rfl rfl (Kept.pw 6 rfl rfl (Kept.op 6 rfl rfl (Kept.cls 6 rfl rfl rfl rfl (Kept.now ⟨rfl, ?_⟩))))))))))))))
 have hlt : ∀ {id : Nat} {cs : List Hc}, H.obj id = some cs → id < H.next := fun {id cs} e => by
  rcases Nat.lt_or_ge id H.next with q | q
  ·exact q
  ·rw [hfin id q] at e; cases e
 have hAt : ∀ {K : Hp} {id : Nat} {cs : List Hc}, H.obj id = some cs → (∀ i, i < H.next → K.obj i = H.obj i) → K.obj id = some cs := fun {K id cs} e hl => (hl id (hlt e)).trans e
 have hlow3 : ∀ i, i < H.next → (((H.new [.v (.sl (ps.map aj.av))]).new [.v (.bool bh)]).new [.v (.sl []), .v (.sl [])]).obj i = H.obj i := fun i hi => by
  have h0 : i ≠ H.next := by omega
  have h1 : i ≠ H.next + 1 := by omega
  have h2 : i ≠ H.next + 2 := by omega
  simp [Hp.new, Hp.set, h0, h1, h2]
 have hlow4 : ∀ i, i < H.next → (bl ps bh (.sl (f.rest.map Rw.av)) H).obj i = H.obj i := fun i hi => by
  have h0 : i ≠ H.next := by omega
  have h1 : i ≠ H.next + 1 := by omega
  have h2 : i ≠ H.next + 2 := by omega
  have h3 : i ≠ H.next + 3 := by omega
  simp [bl, Hp.new, Hp.set, h0, h1, h2, h3]
 refine nY.seq (aC.region (aB.run II 3 rfl (aB.c1 rfl (bJ (aF rfl) vH rfl rfl (hAt hA.o1 hlow3) rfl) (aB.c1 rfl (aG (aF rfl) v8 rfl (ki f.rest hrest)) (aB.c1 rfl (jI (aF rfl) wH IG rfl rfl) (aB.run II 2 rfl (aB.kept (Kept.pw 7 rfl rfl (Kept.op 7 rfl rfl (Kept.cls 7 rfl rfl rfl rfl (Kept.now ⟨rfl, (nY.IU (aC.drawn mixed rfl (aD.c1 rfl (bJ (aF rfl) jk rfl rfl (show (bl ps bh (.sl (f.rest.map Rw.av)) H).obj H.next = some [.v (.sl (ps.map aj.av))] by simp [bl, Hp.new, Hp.set, Nat.add_assoc]) rfl) ?_)))⟩)))))))))))
 refine aD.c1 rfl (bJ (aF rfl) wq rfl rfl (show (bl ps bh (.sl (f.rest.map Rw.av)) H).obj (H.next + 1) = some [.v (.bool bh)] by simp [bl, Hp.new, Hp.set, Nat.add_assoc]) rfl) (aD.run II 3 rfl (aD.c1 rfl (bJ (aF rfl) iW rfl rfl (hAt hA.o1 hlow4) rfl) (aD.c1 rfl (aG (aF rfl) ry rfl (show Pure Tryz.prog 12 [cS ps, .bool bh, .int .i64 f.part] (.sl []) from by have := rL ps bh f.part q hq hbn; rwa [h0] at this)) ?_)))
 exact aD.run II 1 rfl (aD.c2 rfl (cK (aF rfl) Bb rfl rfl (D4 _ _ _ _)) (aD.nil (by kernel_rfl) (Kept.aI [.h, .s 3, .s 4, .s 6, .s 7, .s 28] rfl (by decide) (Kept.now (⟨rfl, (CL.range (H := (eS (.sl []) f.ptr (bl ps bh (.sl (f.rest.map Rw.av)) H))) (H2 := (eS (.sl []) f.ptr (bl ps bh (.sl (f.rest.map Rw.av)) H))) (caps := [.op (H.next + 4) 0, .op (H.next + 5) 0]) (ps := [29, 30]) (ys := []) (fun _ => rfl) (fun _ => rfl) rfl rfl (by kernel_rfl) (BJ _ _ _ (by simp [eS, bl, Hp.new, Hp.set, Nat.add_assoc])) (by decide) (by decide) (fun y hy => by cases hy) (fun y hy => by cases hy) (aC.aK (Kept.Gt (H.next + 3) 0 rfl (show (eS (.sl []) f.ptr (bl ps bh (.sl (f.rest.map Rw.av)) H)).obj (H.next + 3) = some [.v .nsl, .v (.sl (f.rest.map Rw.av))] by simp [eS, bl, Hp.new, Hp.set, Nat.add_assoc]) rfl (Kept.now (aC.seq (aC.region (aB.c1 rfl (bJ (aF rfl) m6 rfl rfl Hp.bq rfl) (aB.c1 rfl (rV m6 rfl rfl (show ((eS (.sl []) f.ptr (bl ps bh (.sl (f.rest.map Rw.av)) H)).set (H.next + 3) [.v (.sl []), .v (.sl (f.rest.map Rw.av))]).obj (H.next + 2) = some [.v (.sl []), .v (.sl [])] by simp [eS, bl, Hp.new, Hp.set, Nat.add_assoc]) rfl rfl rfl (fh rfl) rfl) (aB.nil (aC.ret ⟨.inr rfl, (aE.r1 rfl (.celo m6 rfl rfl Hp.bq rfl rfl .nil)).cast rfl, rfl⟩))))))))))⟩)))))
theorem yU (ps : List aj) (bh : Bool) (f : Fm) (q : aj) (hq : ps[f.part]? = some q) (h0 : q.side bh = []) (hbn : q.ins.length ≤ 1000000 ∧ q.outs.length ≤ 1000000) (hrest : f.rest.length ≤ 1000000) (H : Hp) (hA : f.At H) :
  cT Tryz.prog 15 [cS ps, .bool bh, f.ptr] H (Tree.mk [] f.rest).av H := by
 refine cT.fin fun hfin => ?_
 have h1 := AW ps bh f q hq h0 hbn hrest H hfin hA
 rw [show (AV.agg [.sl [], .sl (f.rest.map Rw.av)]) = (Tree.mk [] f.rest).av by rw [Tree.bK]; rfl] at h1
 refine cT.drop h1 (IE.refl H) (fun i hi => ?_) (Tree.kY _)
 have a0 : i ≠ H.next := by omega
 have a1 : i ≠ H.next + 1 := by omega
 have a2 : i ≠ H.next + 2 := by omega
 have a3 : i ≠ H.next + 3 := by omega
 have a4 : i ≠ H.next + 4 := by omega
 have a5 : i ≠ H.next + 5 := by omega
 simp [eS, bl, Hp.new, Hp.set, Nat.add_assoc, a0, a1, a2, a3, a4, a5]
/- frame.Tree, of every frame. No condition. -/
inductive Fm.Good (ps : List aj) (bh : Bool) : Nat → Fm → Prop where
 | mk (n : Nat) (f : Fm) (q : aj) (hq : ps[f.part]? = some q) (h12 : (q.side bh).length ≤ 12) (hbn : q.ins.length ≤ 1000000 ∧ q.outs.length ≤ 1000000) (hreg : ∀ x ∈ q.side bh, 0 ≤ x.reg ∧ x.reg < f.aJ.length) (hrest : f.rest.length ≤ 1000000) (cB : ∀ l ∈ f.aJ, l.length ≤ 1000000)
   (hs : ∀ l ∈ f.aJ, ∀ c ∈ l, ∀ g, c.f = some g → Fm.Good ps bh n g) : Fm.Good ps bh (n + 1) f
theorem tC (ps : List aj) (bh : Bool) : ∀ (n : Nat) (f : Fm), Fm.Good ps bh n f → ∀ H, f.At H → cT Tryz.prog 15 [cS ps, .bool bh, f.ptr] H (sT ps bh n f).av H
 | 0, f, h => by cases h
 | n + 1, f, h => by
  intro H hA
  cases h with
  | mk _ _ q hq h12 hbn hreg hrest cB hs =>
   have e : ps.getD f.part cc = q := by rw [List.getD_eq_getElem?_getD, hq]; rfl
   rw [sT, e]
   by_cases hne : q.side bh = []
   ·rw [hne]
    exact yU ps bh f q hq hne hbn hrest H hA
   ·exact AT ps bh f q hq h12 hne (fun i hi => hreg _ (zl _ (sH (by rw [fT]; exact hi)))) _ hrest cB H hA fun l hl c hc g hg H' hA' => tC ps bh n g (hs l hl c hc g hg) H' hA'
def fJ (q : aj) (k : Nat) (bh : Bool) (H : Hp) : Fm := .mk H.next k (List.replicate q.aJ.toNat []) [] (!bh)
theorem mh (q : aj) (k : Nat) (bh : Bool) (H : Hp) (h : q.aJ ≤ 100000) : (fJ q k bh H).At (dD q k bh H) := by
 refine .mk _ ?_ ?_ ⟨?_, fun l hl => ?_⟩ fun l hl c hc => ?_
 ·show (Hp.new _ _).obj (H.next + 1) = _
  simp [Hp.new, Hp.set, fJ, Fm.Al, Fm.part, Fm.r, Fm.aJ, Fm.rest, Fm.done]
 ·show (dD q k bh H).obj H.next = _
  have : H.next ≠ H.next + 1 := by omega
  simp [dD, Hp.new, Hp.set, fJ, Fm.aJ, dy, this, gZ]
 ·show (List.replicate _ _).length ≤ _
  rw [List.length_replicate]; omega
 ·rw [List.eq_of_mem_replicate hl]; simp
 ·rw [List.eq_of_mem_replicate hl] at hc; cases hc
/- the port of a number -/
theorem xP : ab Tryz.prog 103 = true := by kernel_rfl
def iR (num : Int) : Port → Bool := fun x => decide (x.f.num = num)
theorem D2 (x : Port) (num : Int) (id : Nat) (H : Hp) (h : H.obj id = some [.v (.int .i64 num)]) : cT Tryz.prog 104 [x.av, .op id 0] H (.bool (iR num x)) H := by
 exact cT.aL Tryz.func104 rfl rfl (aF rfl) (aC.seq (aC.region (aB.run II 2 rfl (aB.nil (aC.seq (aC.region (aB.run II 3 rfl (aB.c1 rfl (bJ (aF rfl) iW rfl rfl h rfl) (aB.run II 2 rfl (aB.nil (aC.ret ⟨.inr rfl, (aE.r1 rfl (.tmp rfl .nil)).cast rfl, rfl⟩)))))))))))
def j1 (num : Int) (l : List Port) : Int := bP (iR num) l 0
theorem AS (l : List Port) (hl : l.length ≤ 1000000) (num : Int) (id : Nat) (H : Hp) (h : H.obj id = some [.v (.int .i64 num)]) : cT Tryz.prog 103 [.sl (l.map Port.av), .fn 104 [.op id 0]] H (.int .i64 (j1 num l)) H := by
 refine cT.aL Tryz.func103 rfl rfl (aF rfl) (aC.seq (aC.region (aB.run II 1 rfl (aB.nil (aC.seq (aC.seq (aC.region (aB.run II 3 rfl (aB.nil (aC.blk (aC.aK (Kept.aI [.s 8, .h, .s 0, .s 1, .s 7] rfl (by decide) (Kept.now (aC.aX (fun (i : Nat) => [(.s 8, .sv (.v (.int .i64 (i : Int))))]) _ (fun (i : Nat) => bP (iR num) (l.drop i) i = j1 num l) (fun (i : Nat) => l.length - i) 0 rfl rfl ?_))))))))))))))
 rintro i hI
 refine aC.seq (aC.region (aB.run II 1 rfl (aB.nil (aC.seq (aC.cond rfl (fun hc1 => ?_) (fun hc1 => ?_))))))
 ·have hi := ch hc1
  refine aC.skip (aC.seq (aC.blk (aC.seq (aC.region (aB.run II 2 rfl (aB.nil (aC.seq (aC.region (aB.run II 3 rfl (aB.c1 rfl (aH (aF rfl) cG rfl rfl (Int.natCast_nonneg _) (bz hi) rfl) (aB.run II 1 rfl (aB.c2 rfl (qd (aF rfl) (by kernel_rfl) rfl rfl rfl (D2 (l[i]'hi) num id H h)) (aB.nil (aC.cond rfl (fun hc2 => ?_) (fun hc2 => ?_)))))))))))))))
  ·exact aC.seq (aC.region (aB.run II 2 rfl (aB.nil (aC.ret ⟨.inr rfl, (aE.r1 rfl (.tmp rfl .nil)).cast (congrArg (AV.int .i64) (by rw [← hI, cM hi, if_pos hc2])), rfl⟩))))
  ·exact aC.skip (aC.region (aB.run II 2 rfl (aB.kept (Kept.aY 8 rfl (inc (by omega)) (Kept.aI [.s 8, .h, .s 0, .s 1, .s 7] rfl (by decide) (Kept.now ⟨i + 1, by omega, by rw [← hI, cM hi, hc2]; rfl, rfl⟩))))))
 ·have hi := cj hc1
  exact aC.exit (aC.seq (aC.region (aB.run II 1 rfl (aB.nil (aC.ret ⟨.inr rfl, (aE.r1 rfl (.tmp rfl .nil)).cast (congrArg (AV.int .i64) (by rw [← hI, dO hi])), rfl⟩)))))
def oY (num : Int) (l : List Port) : Port := (l.find? (iR num)).getD gQ
def l8 (num : Int) (l : List Port) : AV := .tup [(oY num l).av, .bool (decide (0 ≤ j1 num l))]
theorem AN {num : Int} {l : List Port} (h : ¬ j1 num l < 0) : (l.map Port.av)[(j1 num l).toNat]? = some (.agg (oY num l).cells) := by
 rcases an (iR num) l 0 with ⟨q1, q2⟩ | ⟨i, hi, q1, q2, q3⟩
 ·exact absurd (show j1 num l < 0 by show bP _ _ _ < 0; rw [q1]; decide) h
 ·have e : j1 num l = ((0 + i : Nat) : Int) := q1
  rw [e, Int.toNat_natCast, Nat.zero_add, List.getElem?_map, List.getElem?_eq_getElem hi]
  unfold oY
  rw [q2]; rfl
theorem AM {num : Int} {l : List Port} (h : j1 num l < 0) : oY num l = gQ := by
 rcases an (iR num) l 0 with ⟨q1, q2⟩ | ⟨i, hi, q1, q2, q3⟩
 ·unfold oY; rw [q2]; rfl
 ·have e : j1 num l = ((0 + i : Nat) : Int) := q1
  rw [e] at h; omega
theorem zz (l : List Port) (hl : l.length ≤ 1000000) (num : Int) : Pure Tryz.prog 64 [.sl (l.map Port.av), .int .i64 num] (l8 num l) := by
 refine fun H => (cT.kM Tryz.func64 rfl rfl (aF rfl) (.tup _ (ag.cons (Port.kY _) (ag.cons (.bool _) ag.nil))) (aC.seq (aC.region (aB.run II 3 rfl (aB.kept (Kept.pw 3 rfl rfl (Kept.op 3 rfl rfl (Kept.cls 3 rfl rfl rfl rfl (Kept.now (aC.seq (aC.region (aB.run II 1 rfl (aB.c1 rfl (km (aF rfl) rfl) (aB.c1 rfl (ck (aF rfl) xP rfl rfl (AS l hl num _ _ Hp.bq)) (aB.run II 1 rfl (aB.nil (aC.seq (aC.seq (aC.region (aB.run II 2 rfl ?_))))))))))))))))))))
 refine aB.nil (aC.cond rfl (fun hc1 => ?_) (fun hc1 => ?_))
 ·exact aC.seq (aC.region (aB.run II 3 rfl (aB.nil (aC.ret (⟨.inr rfl, (aE.r2 rfl (.cell gW rfl rfl rfl rfl (.tmp rfl .nil))).cast (by have h := of_decide_eq_true hc1; unfold l8; rw [AM h, decide_eq_false (by omega)]; rfl), ⟨_, rfl, Nat.le_succ _, fun i hi => by have e : i ≠ H.next := (by omega); simp [Hp.new, Hp.set, e]⟩⟩)))))
 ·refine aC.skip (aC.seq (aC.region (aB.run II 2 rfl (aB.c1 rfl (aH (aF rfl) cG rfl rfl (by have := of_decide_eq_false hc1; omega) (AN (of_decide_eq_false hc1)) rfl) ?_))))
  exact aB.run II 3 rfl (aB.nil (aC.ret (⟨.inr rfl, (aE.r2 rfl (.cell gW rfl rfl rfl rfl (.tmp rfl .nil))).cast (by have h := of_decide_eq_false hc1; unfold l8; rw [decide_eq_true (by omega : 0 ≤ j1 num l)]; rfl), ⟨_, rfl, Nat.le_succ _, fun i hi => by have e : i ≠ H.next := (by omega); simp [Hp.new, Hp.set, e]⟩⟩)))
open Go Go.RowKit
/- The program logic's rules: calls that may fail, and leave the objects as they were then. No condition. -/
def Hp.more (H H' : Hp) : Prop := H.next ≤ H'.next ∧ ∀ i, i < H.next → H'.obj i = H.obj i
theorem Hp.more.refl (H : Hp) : H.more H := ⟨Nat.le_refl _, fun _ _ => rfl⟩
theorem Hp.more.trans {A B C : Hp} (h : A.more B) (k : B.more C) : A.more C := ⟨Nat.le_trans h.1 k.1, fun i hi => (k.2 i (Nat.lt_of_lt_of_le hi h.1)).trans (h.2 i hi)⟩
theorem Hp.more.new {A B : Hp} (h : A.more B) (cs : List Hc) : A.more (B.new cs) := ⟨Nat.le_trans h.1 (Nat.le_succ _), fun i hi => by rw [Hp.kN _ _ (Nat.lt_of_lt_of_le hi h.1)]; exact h.2 i hi⟩
theorem Hp.rG {H : Hp} {id i : Nat} {cs : List Hc} (h : i ≠ id) : (H.set id cs).obj i = H.obj i := by simp [Hp.set, h]
theorem Hp.more.set {A B : Hp} (h : A.more B) {id : Nat} (hi : A.next ≤ id) (cs : List Hc) : A.more (B.set id cs) := ⟨h.1, fun i hi' => by rw [Hp.rG (by omega)]; exact h.2 i hi'⟩
def jX (P : Program) (f : FuncId) (args : List AV) (H : Hp) (bad : AV) : Except Unit (AV × Hp) → Prop
 | .ok x => cT P f args H x.1 x.2
 | .error _ => cT P f args H bad H
def zD {α : Type} (g : α → AV) : Except Unit (α × Hp) → Except Unit (AV × Hp)
 | .ok x => .ok (g x.1, x.2)
 | .error u => .error u
theorem jX.Di {P : Program} {f : FuncId} {args : List AV} {H : Hp} {bad : AV} {α : Type} {g : α → AV} {res : Except Unit (α × Hp)} {x : α × Hp} (h : jX P f args H bad (zD g res)) (e : res = .ok x) : cT P f args H (g x.1) x.2 := by subst e; exact h
theorem jX.tN {P : Program} {f : FuncId} {args : List AV} {H : Hp} {bad : AV} {α : Type} {g : α → AV} {res : Except Unit (α × Hp)} {u : Unit} (h : jX P f args H bad (zD g res)) (e : res = .error u) : cT P f args H bad H := by subst e; exact h
def fy (H : Hp) (bad : AV) : Except Unit (AV × Hp) → AV → Hp → Prop
 | .ok x => fun r H' => r = x.1 ∧ H' = x.2
 | .error _ => fun r H' => r = bad ∧ H.more H'
theorem fy.Di {H : Hp} {bad : AV} {α : Type} {g : α → AV} {res : Except Unit (α × Hp)} {x : α} {H' : Hp} {r : AV} (e : res = .ok (x, H')) (hr : r = g x) : fy H bad (zD g res) r H' := by subst e; subst hr; exact ⟨rfl, rfl⟩
theorem fy.tN {H : Hp} {bad : AV} {α : Type} {g : α → AV} {res : Except Unit (α × Hp)} {u : Unit} {H' : Hp} {r : AV} (e : res = .error u) (hr : r = bad) (h : H.more H') : fy H bad (zD g res) r H' := by subst e; exact ⟨hr, h⟩
theorem iL.fin {P : Program} {fn : Func} {Post : AV → Hp → Prop} {e : Exit} {s' : St} {r : AV} {H' : Hp} (hp : Post r H') (h : (e = .normal ∨ e = .ret) ∧ aE P fn s' r ∧ get s' .h = some (.hp H')) :
  (e = .normal ∨ e = .ret) ∧ ∃ r H', Post r H' ∧ aE P fn s' r ∧ get s' .h = some (.hp H') := ⟨h.1, r, H', hp, h.2⟩
theorem cT.nc {P : Program} {f : FuncId} {fn : Func} {c : Code} {N : Nat} {args : List AV} {H : Hp} {bad : AV} {res : Except Unit (AV × Hp)} (hf : P.funcs[f]? = some fn) (hb : fn.body = some c) (hN : fn.ntmps = N) (hle : args.length ≤ N) (hro : bC (fun id => id < H.next) bad)
  (h : aC P N c ((.h, .hp H) :: eT args 0) fun e s' => (e = .normal ∨ e = .ret) ∧ ∃ r H', fy H bad res r H' ∧ aE P fn s' r ∧ get s' .h = some (.hp H')) : jX P f args H bad res := by
 cases res with
 | ok x => exact cT.aL hf hb hN hle (h.mono fun e s' ⟨h1, r, H', ⟨h2, h3⟩, h4, h5⟩ => ⟨h1, by rw [← h2]; exact h4, by rw [← h3]; exact h5⟩)
 | error u => exact cT.kM hf hb hN hle hro (h.mono fun e s' ⟨h1, r, H', ⟨h2, h3⟩, h4, h5⟩ => ⟨h1, by rw [← h2]; exact h4, H', h5, h3⟩)
/- What a value is loaded to: its frame, and the objects then, as the program does it. No condition. -/
abbrev ns := Int → Tree → Hp → Except Unit (Fm × Hp)
def Bu : cU := .mk 0 [] none
def qY : aN := ⟨[], []⟩
theorem ud : qY.zC := ⟨by decide, fun m hm => (List.not_mem_nil hm).elim, fun m hm f hf => (List.not_mem_nil hm).elim⟩
def fj (F : ns) (x : Port) (v : bS) (H : Hp) : Except Unit (cU × Hp) :=
 if x.part < 0 then (if v.ok qY x.f then .ok (.mk v.n v.s none, H) else .error ())
 else if v.n = 0 ∧ v.s = [] ∧ v.m.length = 1 then (match F x.part (v.m.headD (.mk [] [])) H with | .ok p => .ok (.mk 0 [] (some p.1), p.2) | .error u => .error u)
 else .error ()
def kU (x : Port) (v : bS) : cU := if x.part < 0 then .mk v.n v.s none else Bu
def cx (F : ns) (x : Port) : List bS → Hp → Except Unit (List cU × Hp)
 | [], H => .ok ([], H)
 | v :: l, H => match fj F x v H with
  | .error u => .error u
  | .ok c => if x.f.hidden && decide (v.n = 0) && v.s == [] then .error () else match cx F x l c.2 with
   | .error u => .error u
   | .ok r => .ok (c.1 :: r.1, r.2)
def cq (F : ns) (x : Port) (vs : List bS) (H : Hp) : Except Unit (List cU × Hp) := if vs.length = 0 ∨ (x.f.rep = false ∧ 1 < vs.length) then .error () else cx F x vs H
def lF (aJ : List (List cU)) (bc : List Port) (x : Port) : Bool := !(bc.any fun y => !(x.f.one == []) && y.f.one == x.f.one && decide (0 < (aJ.getD y.reg.toNat []).length))
def ct (F : ns) (bc : List Port) (rid : Nat) : Option Int → List Slot → List (List cU) → Hp → Except Unit (List (List cU) × Hp)
 | _, [], aJ, H => .ok (aJ, H)
 | last, x :: l, aJ, H => match bc.find? (iR x.num) with
  | none => .error ()
  | some p => if (match last with | none => false | some n => decide (n ≥ x.num)) || !lF aJ bc p then .error () else match cq F p x.bT H with
   | .error u => .error u
   | .ok c => ct F bc rid (some x.num) l (aJ.set p.reg.toNat c.1) (c.2.set rid (dy (aJ.set p.reg.toNat c.1)))
def lZ (bc : List Port) (r : Rw) : Bool := (bc.find? (iR r.num)).isNone && r.right
def lC (k aJ : Int) (r : Nat) (rest : List Rw) (bh : Bool) : List Hc := [.v (.int .i64 k), .v (.os r aJ.toNat 1), .v (.sl (rest.map Rw.av)), .v (.bool !bh)]
def iI (F : ns) (ps : List aj) (bh : Bool) : ns := fun part t H =>
 let q := ps.getD part.toNat cc
 match ct F (q.side bh) H.next none t.aU (List.replicate q.aJ.toNat []) (dD q part.toNat bh H) with
 | .error u => .error u
 | .ok r => if t.rest.all (lZ (q.side bh)) then .ok (.mk H.next part.toNat r.1 t.rest (!bh), r.2.set (H.next + 1) (lC part.toNat q.aJ H.next t.rest bh)) else .error ()
def pD (ps : List aj) (bh : Bool) : Nat → ns
 | 0 => fun _ _ _ => .error ()
 | n + 1 => iI (pD ps bh n) ps bh
structure iE (ps : List aj) : Prop where
 len : ps.length ≤ 1000
 sides : ∀ q ∈ ps, q.ins.length ≤ 12 ∧ q.outs.length ≤ 12
 aJ : ∀ q ∈ ps, 0 ≤ q.aJ ∧ q.aJ ≤ 1000
 bc : ∀ q ∈ ps, ∀ x ∈ q.ins ++ q.outs, 0 ≤ x.reg ∧ x.reg < q.aJ ∧ x.part < ps.length
structure Tree.FG (t : Tree) : Prop where
 s : t.aU.length ≤ 1000
 r : t.rest.length ≤ 1000
 v : ∀ x ∈ t.aU, x.bT.length ≤ 1000
def Tree.lean (t : Tree) : Prop := t.fk Tree.FG
def lx (ps : List aj) (bh : Bool) : AV := .agg [.sl (ps.map aj.av), .bool bh]
def mE : AV := .tup [.nilp, .bool false]
def vX (f : Fm) : AV := .tup [f.ptr, .bool true]
def Eo (P : Program) (fid : FuncId) (ps : List aj) (bh : Bool) (F : ns) (t : Tree) : Prop := ∀ (k : Int), 0 ≤ k → k < (ps.length : Int) → ∀ H, jX P fid [lx ps bh, .int .i64 k, .agg t.cells] H mE (zD vX (F k t H))
/- what a value is loaded to: the walks -/
theorem E8 : ab Tryz.prog 105 = true := by kernel_rfl
theorem xO : ab Tryz.prog 107 = true := by kernel_rfl
theorem rp : ab Tryz.prog 42 = true := by kernel_rfl
theorem m5 : lk Tryz.prog 88 = some (true, 3) := by kernel_rfl
theorem uc : se Tryz.prog 86 = some (88, 3, 32) := by kernel_rfl
def uA (c : cU) : AV := .tup [c.av, .bool true]
def ka (x : Port) (v : bS) : AV := .tup [(kU x v).av, .bool false]
theorem cU.Ib {D : Nat → Prop} (n : Nat) (s : au) : bC D (cU.mk n s none).av := .agg _ (ag.cons (.int _ _) (ag.cons (.str _) (ag.cons .nilp ag.nil)))
theorem zL {D : Nat → Prop} (x : Port) (v : bS) : bC D (ka x v) := by
 refine .tup _ (ag.cons ?_ (ag.cons (.bool _) ag.nil))
 unfold kU
 split
 ·exact cU.Ib _ _
 ·exact cU.Ib _ _
theorem zK {F : ns} {x : Port} {v : bS} {H : Hp} (h : decide (x.part < 0) = true) : fy H (ka x v) (zD uA (fj F x v H)) (.tup [(cU.mk v.n v.s none).av, .bool (v.ok qY x.f)]) H := by
 have h := of_decide_eq_true h
 unfold fj ka kU
 rw [if_pos h, if_pos h]
 cases v.ok qY x.f
 ·exact ⟨rfl, Hp.more.refl H⟩
 ·exact ⟨rfl, rfl⟩
theorem pa {F : ns} {x : Port} {v : bS} {H : Hp} (h : decide (x.part < 0) = false) (h2 : ¬ (v.n = 0 ∧ v.s = [] ∧ v.m.length = 1)) : fy H (ka x v) (zD uA (fj F x v H)) (.tup [Bu.av, .bool false]) H := by
 have h := of_decide_eq_false h
 unfold fj ka kU
 rw [if_neg h, if_neg h, if_neg h2]
 exact ⟨rfl, Hp.more.refl H⟩
theorem Ef {F : ns} {x : Port} {v : bS} {H : Hp} {u : Unit} (h : decide (x.part < 0) = false) (h2 : v.n = 0 ∧ v.s = [] ∧ v.m.length = 1) (e : F x.part (v.m.headD (.mk [] [])) H = .error u) : fy H (ka x v) (zD uA (fj F x v H)) (.tup [Bu.av, .bool false]) H := by
 have h := of_decide_eq_false h
 unfold fj ka kU
 rw [if_neg h, if_neg h, if_pos h2, e]
 exact ⟨rfl, Hp.more.refl H⟩
theorem Bt {F : ns} {x : Port} {v : bS} {H : Hp} {p : Fm × Hp} (h : decide (x.part < 0) = false) (h2 : v.n = 0 ∧ v.s = [] ∧ v.m.length = 1) (e : F x.part (v.m.headD (.mk [] [])) H = .ok p) : fy H (ka x v) (zD uA (fj F x v H)) (.tup [(cU.mk 0 [] (some p.1)).av, .bool true]) p.2 := by
 have h := of_decide_eq_false h
 unfold fj ka kU
 rw [if_neg h, if_neg h, if_pos h2, e]
 exact ⟨rfl, rfl⟩
theorem Jh {v : bS} (h : v.m.length = 1) : (v.m.map Tree.av)[((0 : Int)).toNat]? = some (.agg (v.m.headD (.mk [] [])).cells) := by
 cases hm : v.m with
 | nil => rw [hm] at h; simp at h
 | cons u l => simp [Tree.bK]
theorem Ax {v : bS} (h : v.m.length = 1) : v.m.headD (.mk [] []) ∈ v.m := by
 cases hm : v.m with
 | nil => rw [hm] at h; simp at h
 | cons u l => simp
theorem AY (ps : List aj) (bh : Bool) (F : ns) (x : Port) (v : bS) (hx : x.part < (ps.length : Int)) (hv1 : v.s.length ≤ 9223372036854775807) (hv2 : ∀ u ∈ v.m, u.dj) (hF : ∀ u ∈ v.m, Eo Tryz.prog 42 ps bh F u) (H : Hp) :
  jX Tryz.prog 107 [lx ps bh, x.av, .agg v.cells] H (ka x v) (zD uA (fj F x v H)) := by
 refine cT.nc Tryz.func107 rfl rfl (aF rfl) (zL x v) (aC.seq (aC.region (aB.run II 5 rfl (aB.nil (aC.seq (aC.seq (aC.region (aB.run II 3 rfl (aB.nil (aC.cond rfl (fun hc1 => ?_) (fun hc1 => ?_)))))))))))
 ·exact aC.seq (aC.drawn mixed rfl (aD.run II 9 rfl (aD.c1 rfl (aG (aF rfl) xC rfl (FB qY x.f v hv1 fun u hu name => GO qY ud u (hv2 u hu) name)) (aD.run II 2 rfl (aD.nil (by kernel_rfl) (Kept.now (aC.ret (iL.fin (zK hc1) ⟨.inr rfl, (aE.r2 rfl (.cell m5 rfl rfl rfl rfl (.tmp rfl .nil))).cast rfl, rfl⟩))))))))
 ·refine aC.skip (aC.seq (aC.seq (aC.region (aB.run II 4 rfl (aB.tell (d := 26) rfl (fun hg2 => ?_) (fun hg2 => ?_))))))
  ·exact aB.run II 10 rfl (aB.nil (aC.ar rfl rfl (aC.seq (aC.region (aB.run II 3 rfl (aB.nil (aC.ret (iL.fin (pa hc1 (by rintro ⟨q1, _, _⟩; rw [q1] at hg2; exact absurd hg2 (by decide))) ⟨.inr rfl, (aE.r2 rfl (.cell m5 rfl rfl rfl rfl (.tmp rfl .nil))).cast rfl, rfl⟩))))))))
  ·refine aB.run II 5 rfl (aB.tell (d := 31) rfl (fun hg3 => ?_) (fun hg3 => ?_))
   ·exact aB.run II 5 rfl (aB.nil (aC.ar rfl rfl (aC.seq (aC.region (aB.run II 3 rfl (aB.nil (aC.ret (iL.fin (pa hc1 (by rintro ⟨_, q1, _⟩; rw [q1] at hg3; exact absurd hg3 (by decide))) ⟨.inr rfl, (aE.r2 rfl (.cell m5 rfl rfl rfl rfl (.tmp rfl .nil))).cast rfl, rfl⟩))))))))
   ·refine aB.run II 5 rfl (aB.nil (aC.cond rfl (fun hc4 => ?_) (fun hc4 => ?_)))
    ·exact aC.seq (aC.region (aB.run II 3 rfl (aB.nil (aC.ret (iL.fin (pa hc1 (by rintro ⟨_, _, q1⟩; simp [q1] at hc4)) ⟨.inr rfl, (aE.r2 rfl (.cell m5 rfl rfl rfl rfl (.tmp rfl .nil))).cast rfl, rfl⟩)))))
    ·refine aC.skip (aC.seq (aC.drawn mixed rfl ?_))
     have h2 : v.n = 0 ∧ v.s = [] ∧ v.m.length = 1 := ⟨by simpa using hg2, by simpa using hg3, by simp at hc4; omega⟩
     refine aD.run II 5 rfl (aD.c1 rfl (aH (aF rfl) kz rfl rfl (by decide) (Jh h2.2.2) rfl) (aD.run II 1 rfl ?_))
     cases hp1 : F x.part (v.m.headD (.mk [] [])) H with
     | ok x1 => 
      refine aD.c2 rfl (cK (aF rfl) rp rfl rfl (jX.Di (hF _ (Ax h2.2.2) x.part (by have := of_decide_eq_false hc1; omega) hx H) hp1)) ?_
      exact aD.run II 5 rfl (aD.nil (by kernel_rfl) (Kept.now (aC.seq (aC.region (aB.run II 5 rfl (aB.nil (aC.ret (iL.fin (Bt hc1 h2 hp1) ⟨.inr rfl, (aE.r2 rfl (.cell m5 rfl rfl rfl rfl (.tmp rfl .nil))).cast rfl, rfl⟩))))))))
     | error e1 => 
      refine aD.c1 rfl (ck (aF rfl) rp rfl rfl (jX.tN (hF _ (Ax h2.2.2) x.part (by have := of_decide_eq_false hc1; omega) hx H) hp1)) ?_
      exact aD.run II 5 rfl (aD.nil (by kernel_rfl) (Kept.now (aC.seq (aC.region (aB.run II 5 rfl (aB.nil (aC.ret (iL.fin (Ef hc1 h2 hp1) ⟨.inr rfl, (aE.r2 rfl (.cell m5 rfl rfl rfl rfl (.tmp rfl .nil))).cast rfl, rfl⟩))))))))
def pn (aJ : List (List cU)) (x : Port) : Port → Bool := fun y => !(x.f.one == []) && y.f.one == x.f.one && decide (0 < (aJ.getD y.reg.toNat []).length)
theorem Cn {g : List (List cU)} {r : Int} (h0 : 0 ≤ r) (h : r < (g.length : Int)) : uR false 1 (((dy g).map fun c => Sv.v (qC c)).drop (r.toNat * 1)) = some (.v (gZ (g.getD r.toNat []))) := ue (f := .mk 0 0 g [] true) h0 h
theorem AZ (x y : Port) (aJ : List (List cU)) (h0 : 0 ≤ y.reg) (h1 : y.reg < (aJ.length : Int)) (xid bid fid rid : Nat) (a b c : AV) (H : Hp) (hX : H.obj xid = some (x.cells.map .v)) (hB : H.obj bid = some [.v (.op fid 0)]) (hF : H.obj fid = some [.v a, .v (.os rid aJ.length 1), .v b, .v c]) (hR : H.obj rid = some (dy aJ)) :
  cT Tryz.prog 106 [y.av, .op xid 0, .op bid 0] H (.bool (pn aJ x y)) H := by
 refine cT.aL Tryz.func106 rfl rfl (aF rfl) (aC.seq (aC.region (aB.run II 2 rfl (aB.nil (aC.seq (aC.drawn mixed rfl (aD.run II 2 rfl (aD.c1 rfl (bJ (aF rfl) qg rfl rfl hX rfl) (aD.run II 2 rfl (aD.tell (d := 9) rfl (fun hg1 => ?_) (fun hg1 => ?_)))))))))))
 ·refine aD.run II 5 rfl (aD.g1 rfl (aF rfl) rfl rfl (bJ (aF rfl) qg rfl rfl hX rfl) (aD.run II 3 rfl (aD.tell (d := 18) rfl (fun hg2 => ?_) (fun hg2 => ?_))))
  ·exact aD.g1 rfl (aF rfl) rfl rfl (bJ (aF rfl) vG rfl rfl hB rfl) (aD.run II 2 rfl (aD.g1 rfl (aF rfl) rfl rfl (bJ (aF rfl) jO rfl rfl hF rfl) (aD.run II 2 rfl (aD.g1 rfl (aF rfl) rfl rfl (bU (aF rfl) lA rfl rfl h0 h1) (aD.g1 rfl (aF rfl) rfl rfl (bJ (aF rfl) kv rfl rfl hR (Cn h0 h1)) (aD.run II 4 rfl (aD.nil (by kernel_rfl) (Kept.now (aC.ret ⟨.inr rfl, (aE.r1 rfl (.tmp rfl .nil)).cast (congrArg AV.bool (by simp_all [pn])), rfl⟩)))))))))
  ·exact aD.run II 12 rfl (aD.nil (by kernel_rfl) (Kept.now (aC.ret ⟨.inr rfl, (aE.r1 rfl (.tmp rfl .nil)).cast (congrArg AV.bool (by simp_all [pn])), rfl⟩)))
 ·exact aD.run II 21 rfl (aD.nil (by kernel_rfl) (Kept.now (aC.ret ⟨.inr rfl, (aE.r1 rfl (.tmp rfl .nil)).cast (congrArg AV.bool (by simp_all [pn])), rfl⟩)))
theorem GV (l : List Port) (hl : l.length ≤ 1000000) (F : FuncId) (caps : List AV) (p : Port → Bool) (H : Hp) (hF : ab Tryz.prog F = true) (hp : ∀ x ∈ l, cT Tryz.prog F ([x.av] ++ caps) H (.bool (p x)) H) : cT Tryz.prog 103 [.sl (l.map Port.av), .fn F caps] H (.int .i64 (bP p l 0)) H := by
 refine cT.aL Tryz.func103 rfl rfl (aF rfl) (aC.seq (aC.region (aB.run II 1 rfl (aB.nil (aC.seq (aC.seq (aC.region (aB.run II 3 rfl (aB.nil (aC.blk (aC.aK (Kept.aI [.s 8, .h, .s 0, .s 1, .s 7] rfl (by decide) (Kept.now (aC.aX (fun (i : Nat) => [(.s 8, .sv (.v (.int .i64 (i : Int))))]) _ (fun (i : Nat) => bP p (l.drop i) i = bP p l 0) (fun (i : Nat) => l.length - i) 0 rfl rfl ?_))))))))))))))
 rintro i hI
 refine aC.seq (aC.region (aB.run II 1 rfl (aB.nil (aC.seq (aC.cond rfl (fun hc1 => ?_) (fun hc1 => ?_))))))
 ·have hi := ch hc1
  refine aC.skip (aC.seq (aC.blk (aC.seq (aC.region (aB.run II 2 rfl (aB.nil (aC.seq (aC.region (aB.run II 3 rfl (aB.c1 rfl (aH (aF rfl) cG rfl rfl (Int.natCast_nonneg _) (bz hi) rfl) (aB.run II 1 rfl (aB.c2 rfl (qd (aF rfl) hF rfl rfl rfl (hp _ (List.getElem_mem hi))) (aB.nil (aC.cond rfl (fun hc2 => ?_) (fun hc2 => ?_)))))))))))))))
  ·exact aC.seq (aC.region (aB.run II 2 rfl (aB.nil (aC.ret ⟨.inr rfl, (aE.r1 rfl (.tmp rfl .nil)).cast (congrArg (AV.int .i64) (by rw [← hI, cM hi, if_pos hc2])), rfl⟩))))
  ·exact aC.skip (aC.region (aB.run II 2 rfl (aB.kept (Kept.aY 8 rfl (inc (by omega)) (Kept.aI [.s 8, .h, .s 0, .s 1, .s 7] rfl (by decide) (Kept.now ⟨i + 1, by omega, by rw [← hI, cM hi, hc2]; rfl, rfl⟩))))))
 ·have hi := cj hc1
  exact aC.exit (aC.seq (aC.region (aB.run II 1 rfl (aB.nil (aC.ret ⟨.inr rfl, (aE.r1 rfl (.tmp rfl .nil)).cast (congrArg (AV.int .i64) (by rw [← hI, dO hi])), rfl⟩)))))
theorem Gw {H : Hp} {A B : List Hc} : ((H.new A).new B).obj (H.next + 1) = some B := Hp.dZ (H.new A) B
theorem Gv {H : Hp} {A B : List Hc} : ((H.new A).new B).obj H.next = some A := by rw [Hp.kN _ _ (Nat.lt_succ_self _)]; exact Hp.dZ _ _
theorem tP {H : Hp} {A B cs : List Hc} {i : Nat} (h : i < H.next) (e : H.obj i = some cs) : ((H.new A).new B).obj i = some cs := by rw [Hp.kN _ _ (Nat.lt_succ_of_lt h), Hp.kN _ _ h]; exact e
theorem vQ {α : Type} (p : α → Bool) (l : List α) : decide (bP p l 0 ≥ 0) = l.any p := by
 rcases an p l 0 with ⟨h1, h2⟩ | ⟨i, hi, h1, h2, h3⟩
 ·rw [h1, Bool.eq_iff_iff, List.any_eq_true]
  constructor
  ·intro h; exact absurd h (by decide)
  ·rintro ⟨x, hx, e⟩; exact absurd e (by simpa using List.find?_eq_none.1 h2 x hx)
 ·rw [h1, Bool.eq_iff_iff, List.any_eq_true]
  constructor
  ·intro _; exact ⟨_, List.getElem_mem hi, h3⟩
  ·intro _; simp
theorem tD (l : List Port) (hl : l.length ≤ 1000000) (F : FuncId) (caps : List AV) (p : Port → Bool) (H : Hp) (hF : ab Tryz.prog F = true) (hp : ∀ x ∈ l, cT Tryz.prog F ([x.av] ++ caps) H (.bool (p x)) H) : cT Tryz.prog 105 [.sl (l.map Port.av), .fn F caps] H (.bool (l.any p)) H := by
 exact cT.aL Tryz.func105 rfl rfl (aF rfl) (aC.seq (aC.region (aB.run II 1 rfl (aB.nil (aC.seq (aC.region (aB.run II 2 rfl (aB.c1 rfl (ck (aF rfl) xP rfl rfl (GV l hl F caps p H hF hp)) (aB.run II 2 rfl (aB.nil (aC.ret ⟨.inr rfl, (aE.r1 rfl (.tmp rfl .nil)).cast (congrArg AV.bool (vQ p l)), rfl⟩)))))))))))
theorem wX (x : Port) (bc : List Port) (hl : bc.length ≤ 1000000) (aJ : List (List cU)) (hp : ∀ y ∈ bc, 0 ≤ y.reg ∧ y.reg < (aJ.length : Int)) (fid rid : Nat) (a b c : AV) (H : Hp) (n1 : fid < H.next) (n2 : rid < H.next) (hF : H.obj fid = some [.v a, .v (.os rid aJ.length 1), .v b, .v c]) (hR : H.obj rid = some (dy aJ)) :
  cT Tryz.prog 65 [.op fid 0, .sl (bc.map Port.av), x.av] H (.bool (lF aJ bc x)) H := by
 exact cT.kM Tryz.func65 rfl rfl (aF rfl) (.bool _) (aC.seq (aC.region (aB.run II 3 rfl (aB.kept (Kept.pw 3 rfl rfl (Kept.op 3 rfl rfl (Kept.cls 3 rfl rfl rfl rfl (Kept.pw 5 rfl rfl (Kept.op 5 rfl rfl (Kept.cls 5 rfl rfl rfl rfl (Kept.now (aC.seq (aC.region (aB.run II 1 rfl (aB.c1 rfl (km (aF rfl) rfl) (aB.c1 rfl (ck (aF rfl) E8 rfl rfl (tD bc hl _ _ (pn aJ x) _ (by kernel_rfl) fun y hy => AZ x y aJ (hp y hy).1 (hp y hy).2 _ _ fid rid a b c _ Gw Gv (tP n1 hF) (tP n2 hR))) (aB.run II 2 rfl (aB.nil (aC.ret (⟨.inr rfl, (aE.r1 rfl (.tmp rfl .nil)).cast rfl, ⟨_, rfl, ((Hp.more.refl H).new _).new _⟩⟩))))))))))))))))))))
def Hv (cs : List cU) : AV := .tup [gZ cs, .bool true]
def tz : AV := .tup [.sl [], .bool false]
theorem sE {D : Nat → Prop} : bC D tz := .tup _ (ag.cons (.sl _ fun x hx => by cases hx) (ag.cons (.bool _) ag.nil))
def qF (cs : List cU) : Except Unit (List cU × Hp) → Except Unit (List cU × Hp)
 | .ok r => .ok (cs ++ r.1, r.2)
 | .error u => .error u
theorem Bw (r : Except Unit (List cU × Hp)) : qF [] r = r := by cases r <;> rfl
theorem tx {F : ns} {x : Port} {vs : List bS} {H : Hp} (h : vs.length = 0 ∨ (x.f.rep = false ∧ 1 < vs.length)) : cq F x vs H = .error () := by unfold cq; rw [if_pos h]
theorem Br {F : ns} {x : Port} {vs : List bS} {H : Hp} (h : ¬ (vs.length = 0 ∨ (x.f.rep = false ∧ 1 < vs.length))) : cq F x vs H = qF [] (cx F x (vs.drop 0) H) := by unfold cq; rw [if_neg h, Bw]; rfl
theorem Bs {F : ns} {x : Port} {vs : List bS} {H K : Hp} {cs : List cU} {i : Nat} {u : Unit} (hi : i < vs.length) (hI : cq F x vs H = qF cs (cx F x (vs.drop i) K)) (e : fj F x vs[i] K = .error u) : cq F x vs H = .error u := by
 rw [hI, List.drop_eq_getElem_cons hi]; unfold cx; rw [e]; rfl
theorem zI {F : ns} {x : Port} {vs : List bS} {H K : Hp} {cs : List cU} {i : Nat} {c : cU × Hp} (hi : i < vs.length) (hI : cq F x vs H = qF cs (cx F x (vs.drop i) K)) (e : fj F x vs[i] K = .ok c) (h : (x.f.hidden && decide (vs[i].n = 0) && vs[i].s == []) = true) : cq F x vs H = .error () := by
 rw [hI, List.drop_eq_getElem_cons hi]; unfold cx; rw [e]; dsimp only; rw [h]; rfl
theorem lE {F : ns} {x : Port} {vs : List bS} {H K : Hp} {cs : List cU} {i : Nat} {c : cU × Hp} (hi : i < vs.length) (hI : cq F x vs H = qF cs (cx F x (vs.drop i) K)) (e : fj F x vs[i] K = .ok c) (h : (x.f.hidden && decide (vs[i].n = 0) && vs[i].s == []) = false) : cq F x vs H = qF (cs ++ [c.1]) (cx F x (vs.drop (i + 1)) c.2) := by
 rw [hI, List.drop_eq_getElem_cons hi]
 conv => lhs; unfold cx
 rw [e]
 dsimp only
 rw [h]
 cases cx F x (vs.drop (i + 1)) c.2 with
 | ok r => simp [qF]
 | error u => rfl
theorem zJ {F : ns} {x : Port} {vs : List bS} {H K : Hp} {cs : List cU} {i : Nat} (hi : vs.length ≤ i) (hI : cq F x vs H = qF cs (cx F x (vs.drop i) K)) : cq F x vs H = .ok (cs, K) := by
 rw [hI, List.drop_of_length_le hi]; simp [cx, qF]
theorem gb {F : ns} (hF : ∀ k t H f H', F k t H = .ok (f, H') → H.more H') {x : Port} {v : bS} {H : Hp} {c : cU × Hp} (e : fj F x v H = .ok c) : H.more c.2 := by
 unfold fj at e
 split at e
 ·split at e
  ·cases e; exact Hp.more.refl _
  ·cases e
 ·split at e
  ·split at e
   ·rename_i p hp
    cases e
    exact hF _ _ _ p.1 p.2 hp
   ·cases e
  ·cases e
theorem wW (ps : List aj) (bh : Bool) (F : ns) (hFm : ∀ k t H f H', F k t H = .ok (f, H') → H.more H') (x : Port) (vs : List bS) (hx : x.part < (ps.length : Int)) (hl : vs.length ≤ 1000) (hvs : ∀ v ∈ vs, v.s.length ≤ 9223372036854775807 ∧ ∀ u ∈ v.m, u.dj) (hF : ∀ v ∈ vs, ∀ u ∈ v.m, Eo Tryz.prog 42 ps bh F u) (H : Hp) :
  jX Tryz.prog 66 [lx ps bh, x.av, .sl (vs.map bS.av)] H tz (zD Hv (cq F x vs H)) := by
 refine cT.nc Tryz.func66 rfl rfl (aF rfl) sE (aC.seq (aC.region (aB.run II 4 rfl (aB.nil (aC.cE [.h, .s 2, .s 3, .b 3, .s 4, .b 4] (fun (_ : Unit) => []) (fun (_ : Unit) => ¬ (vs.length = 0 ∨ (x.f.rep = false ∧ 1 < vs.length))) rfl ?_ ?_)))))
 ·refine aC.seq (aC.region (aB.run II 4 rfl (aB.tell (d := 16) rfl (fun hg1 => ?_) (fun hg1 => ?_))))
  ·exact aB.run II 10 rfl (aB.nil (aC.ar rfl rfl (aC.seq (aC.region (aB.run II 2 rfl (aB.nil (aC.ret (iL.fin (fy.tN (tx (.inl (by simpa using hg1))) rfl (Hp.more.refl H)) ⟨.inr rfl, (aE.r2 rfl (.tmp rfl (.tmp rfl .nil))).cast rfl, rfl⟩))))))))
  ·refine aB.run II 5 rfl (aB.tell (d := 21) rfl (fun hg2 => ?_) (fun hg2 => ?_))
   ·refine aB.run II 5 rfl (aB.nil (aC.cond rfl (fun hc3 => ?_) (fun hc3 => ?_)))
    ·exact aC.seq (aC.region (aB.run II 2 rfl (aB.nil (aC.ret (iL.fin (fy.tN (tx (.inr ⟨by simpa using hg2, by simp at hc3; omega⟩)) rfl (Hp.more.refl H)) ⟨.inr rfl, (aE.r2 rfl (.tmp rfl (.tmp rfl .nil))).cast rfl, rfl⟩)))))
    ·exact aC.aK (Kept.aI [.h, .s 2, .s 3, .b 3, .s 4, .b 4] rfl (by decide) (Kept.now (aC.skip (⟨(), by simp at hg1 hc3; rintro (q | ⟨q1, q2⟩); simp_all; omega, rfl⟩))))
   ·exact aB.run II 5 rfl (aB.nil (aC.aZ rfl rfl (aC.aK (Kept.aI [.h, .s 2, .s 3, .b 3, .s 4, .b 4] rfl (by decide) (Kept.now (aC.skip (⟨(), by simp at hg1 hg2; rintro (q | ⟨q1, q2⟩) <;> simp_all, rfl⟩)))))))
 ·rintro _ hIN
  refine aC.seq (aC.region (aB.c2 rfl (D6 (k := 8) (el := 88) (esz := 3) (c := 0) (aF rfl) rfl (by decide)) (aB.nil (aC.seq (aC.seq (aC.region (aB.run II 3 rfl (aB.nil (aC.blk (aC.aK (Kept.aI [.s 29, .s 8, .t 8, .h, .s 3, .b 3, .s 4, .b 4, .s 27, .s 28] rfl (by decide) (Kept.now (aC.aX (fun ((i, a, K) : Nat × List AV × Hp) => [(.s 29, .sv (.v (.int .i64 (i : Int)))), (.s 8, .sv (.ow 8 a)), (.t 8, .tk false 88 3 a), (.h, .hp K)]) _ (fun ((i, a, K) : Nat × List AV × Hp) => H.more K ∧ ∃ cs : List cU, cs.length ≤ i ∧ a = cs.map cU.av ∧ cq F x vs H = qF cs (cx F x (vs.drop i) K)) (fun ((i, a, K) : Nat × List AV × Hp) => vs.length - i) (0, [], H) rfl ⟨Hp.more.refl H, [], Nat.zero_le _, rfl, Br hIN⟩ ?_)))))))))))))
  rintro ⟨i, a, K⟩ hI
  obtain ⟨hM, cs, hcl, ha, hI⟩ := hI
  refine aC.seq (aC.region (aB.run II 1 rfl (aB.nil (aC.seq (aC.cond rfl (fun hc4 => ?_) (fun hc4 => ?_))))))
  ·have hi := ch hc4
   refine aC.skip (aC.seq (aC.blk (aC.seq (aC.region (aB.c1 rfl (aH (aF rfl) di rfl rfl (Int.natCast_nonneg _) (dF bS.bK hi) rfl) (aB.run II 3 rfl (aB.nil (aC.seq (aC.region (aB.run II 3 rfl ?_))))))))))
   cases hp1 : fj F x (vs[i]'hi) K with
   | ok x1 => 
    refine aB.c2 rfl (cK (aF rfl) xO rfl rfl (jX.Di (AY ps bh F x (vs[i]'hi) hx (hvs _ (List.getElem_mem hi)).1 (hvs _ (List.getElem_mem hi)).2 (hF _ (List.getElem_mem hi)) K) hp1)) (aB.run II 6 rfl (aB.nil (aC.seq (aC.seq (aC.region (aB.run II 5 rfl (aB.g1 rfl (aF rfl) rfl rfl (aG (aF rfl) xN rfl (tB _)) (aB.run II 1 rfl (aB.tell (d := 46) rfl (fun hg5 => ?_) (fun hg5 => ?_))))))))))
    ·refine aB.run II 5 rfl (aB.tell (d := 51) rfl (fun hg6 => ?_) (fun hg6 => ?_))
     ·refine aB.run II 5 rfl (aB.nil (aC.cond rfl (fun hc7 => ?_) (fun hc7 => ?_)))
      ·exact aC.seq (aC.region (aB.run II 2 rfl (aB.nil (aC.ret (iL.fin (fy.tN (zI hi hI hp1 (by simp_all)) rfl (hM.trans (gb hFm hp1))) ⟨.inr rfl, (aE.r2 rfl (.tmp rfl (.tmp rfl .nil))).cast rfl, rfl⟩)))))
      ·refine aC.skip (aC.region (aB.run II 3 rfl (aB.c3 rfl (aW (aF rfl) uc rfl rfl rfl rfl rfl (by simp [ha]; omega) (by simp [ha]; omega)) ?_)))
       exact aB.run II 1 rfl (aB.nil (aC.region (aB.run II 2 rfl (aB.kept (Kept.aY 29 rfl (inc (by omega)) (Kept.aI [.s 29, .s 8, .t 60, .h, .s 3, .b 3, .s 4, .b 4, .s 27, .s 28] rfl (by decide) (Kept.gB 60 8 (by decide) rfl (Kept.now (⟨(i + 1, _, _), by dsimp only; omega, ⟨hM.trans (gb hFm hp1), cs ++ [x1.1], by simp; omega, by rw [ha]; simp; rfl, lE hi hI hp1 (by simp_all)⟩, rfl⟩)))))))))
     ·refine aB.run II 5 rfl (aB.nil (aC.aZ rfl rfl (aC.skip (aC.region (aB.run II 3 rfl (aB.c3 rfl (aW (aF rfl) uc rfl rfl rfl rfl rfl (by simp [ha]; omega) (by simp [ha]; omega)) ?_))))))
      exact aB.run II 1 rfl (aB.nil (aC.region (aB.run II 2 rfl (aB.kept (Kept.aY 29 rfl (inc (by omega)) (Kept.aI [.s 29, .s 8, .t 60, .h, .s 3, .b 3, .s 4, .b 4, .s 27, .s 28] rfl (by decide) (Kept.gB 60 8 (by decide) rfl (Kept.now (⟨(i + 1, _, _), by dsimp only; omega, ⟨hM.trans (gb hFm hp1), cs ++ [x1.1], by simp; omega, by rw [ha]; simp; rfl, lE hi hI hp1 (by simp_all)⟩, rfl⟩)))))))))
    ·refine aB.run II 10 rfl (aB.nil (aC.aZ rfl rfl (aC.skip (aC.region (aB.run II 3 rfl (aB.c3 rfl (aW (aF rfl) uc rfl rfl rfl rfl rfl (by simp [ha]; omega) (by simp [ha]; omega)) ?_))))))
     exact aB.run II 1 rfl (aB.nil (aC.region (aB.run II 2 rfl (aB.kept (Kept.aY 29 rfl (inc (by omega)) (Kept.aI [.s 29, .s 8, .t 60, .h, .s 3, .b 3, .s 4, .b 4, .s 27, .s 28] rfl (by decide) (Kept.gB 60 8 (by decide) rfl (Kept.now (⟨(i + 1, _, _), by dsimp only; omega, ⟨hM.trans (gb hFm hp1), cs ++ [x1.1], by simp; omega, by rw [ha]; simp; rfl, lE hi hI hp1 (by simp_all)⟩, rfl⟩)))))))))
   | error e1 => 
    exact aB.c1 rfl (ck (aF rfl) xO rfl rfl (jX.tN (AY ps bh F x (vs[i]'hi) hx (hvs _ (List.getElem_mem hi)).1 (hvs _ (List.getElem_mem hi)).2 (hF _ (List.getElem_mem hi)) K) hp1)) (aB.run II 6 rfl (aB.nil (aC.seq (aC.seq (aC.region (aB.run II 17 rfl (aB.nil (aC.ar rfl rfl (aC.seq (aC.region (aB.run II 2 rfl (aB.nil (aC.ret (iL.fin (fy.tN (Bs hi hI hp1) rfl hM) ⟨.inr rfl, (aE.r2 rfl (.tmp rfl (.tmp rfl .nil))).cast rfl, rfl⟩))))))))))))))
  ·have hi := cj hc4
   exact aC.exit (aC.seq (aC.region (aB.run II 3 rfl (aB.nil (aC.ret (iL.fin (fy.Di (zJ hi hI) (by rw [ha]; rfl)) ⟨.inr rfl, (aE.r2 rfl (.tmp rfl (.tmp rfl .nil))).cast rfl, rfl⟩))))))
/- what a value is loaded to: the walk of a frame -/
theorem Bf : ab Tryz.prog 10 = true := by kernel_rfl
theorem rj : ab Tryz.prog 64 = true := by kernel_rfl
theorem B4 : ab Tryz.prog 65 = true := by kernel_rfl
theorem B3 : ab Tryz.prog 66 = true := by kernel_rfl
def nN (num : Int) (l : List Port) : Except Unit Port := match l.find? (iR num) with | some p => .ok p | none => .error ()
theorem dS {num : Int} {l : List Port} {p : Port} (h : nN num l = .ok p) : l.find? (iR num) = some p := by
 unfold nN at h; split at h
 ·rename_i e; cases h; exact e
 ·cases h
theorem mH {num : Int} {l : List Port} {u : Unit} (h : nN num l = .error u) : l.find? (iR num) = none := by
 unfold nN at h; split at h
 ·cases h
 ·assumption
theorem vD {num : Int} {l : List Port} {p : Port} (h : l.find? (iR num) = some p) : 0 ≤ j1 num l := by
 rcases an (iR num) l 0 with ⟨q1, q2⟩ | ⟨i, hi, q1, q2, q3⟩
 ·rw [q2] at h; cases h
 ·show 0 ≤ bP _ _ _; rw [q1]; omega
theorem vE {num : Int} {l : List Port} (h : l.find? (iR num) = none) : ¬ 0 ≤ j1 num l := by
 rcases an (iR num) l 0 with ⟨q1, q2⟩ | ⟨i, hi, q1, q2, q3⟩
 ·show ¬ 0 ≤ bP _ _ _; rw [q1]; omega
 ·rw [q2] at h; cases h
theorem wN {l : List Port} (hl : l.length ≤ 1000000) {num : Int} {p : Port} (h : nN num l = .ok p) : Pure Tryz.prog 64 [.sl (l.map Port.av), .int .i64 num] (.tup [p.av, .bool true]) := by
 have := zz l hl num
 have e := dS h
 unfold l8 oY at this
 rw [e, decide_eq_true (vD e)] at this
 exact this
theorem wO {l : List Port} (hl : l.length ≤ 1000000) {num : Int} {u : Unit} (h : nN num l = .error u) : Pure Tryz.prog 64 [.sl (l.map Port.av), .int .i64 num] (.tup [gQ.av, .bool false]) := by
 have := zz l hl num
 have e := mH h
 unfold l8 oY at this
 rw [e, decide_eq_false (vE e)] at this
 exact this
def nJ (l : List Slot) : Nat → Option Int
 | 0 => none
 | j + 1 => some ((l.getD j (.mk 0 [])).num)
theorem xw {l : List Slot} {i : Nat} (h0 : 0 < i) (hi : i < l.length) (hb : l.length ≤ 1000) : (l.map Slot.av)[(IntKind.i64.wrap ((i : Int) - 1)).toNat]? = some (.agg (l.getD (i - 1) (.mk 0 [])).cells) := by
 rw [wj h0 (by omega), Int.toNat_natCast, List.getElem?_map, List.getD_eq_getElem?_getD, List.getElem?_eq_getElem (by omega)]
 simp [Slot.bK]
theorem IL {i : Nat} (h0 : 0 < i) (h2 : i ≤ 1000) : 0 ≤ IntKind.i64.wrap ((i : Int) - 1) := by rw [wj h0 h2]; omega
theorem qh {l : List Slot} {i : Nat} (h0 : 0 < i) : nJ l i = some (l.getD (i - 1) (.mk 0 [])).num := by
 cases i with
 | zero => omega
 | succ j => rfl
def ly (last : Option Int) (n : Int) : Bool := match last with | none => false | some z => decide (z ≥ n)
structure sL (F : ns) (q : aj) (bh : Bool) (kn : Nat) (t : Tree) (H : Hp) (i : Nat) (aJ : List (List cU)) (K : Hp) : Prop where
 eq : ct F (q.side bh) H.next none t.aU (List.replicate q.aJ.toNat []) (dD q kn bh H) = ct F (q.side bh) H.next (nJ t.aU i) (t.aU.drop i) aJ K
 len : aJ.length = q.aJ.toNat
 o1 : K.obj (H.next + 1) = some (lC kn q.aJ H.next [] bh)
 o2 : K.obj H.next = some (dy aJ)
 nx : H.next + 2 ≤ K.next
 more : H.more K
section
variable {F : ns} {q : aj} {bh : Bool} {kn : Nat} {t : Tree} {H K : Hp} {i : Nat} {aJ : List (List cU)}
theorem sL.begin (h : q.aJ ≤ 100000) : sL F q bh kn t H 0 (List.replicate q.aJ.toNat []) (dD q kn bh H) := by
 have hA := mh q kn bh H h
 refine ⟨rfl, List.length_replicate, ?_, hA.o2, Nat.le_refl _, ((Hp.more.refl H).new _).new _⟩
 have := hA.o1
 have e : (fJ q kn bh H).Al = lC kn q.aJ H.next [] bh := by
  show [Hc.v (.int .i64 (kn : Int)), .v (.os H.next (List.replicate q.aJ.toNat ([] : List cU)).length 1), _, _] = _
  rw [List.length_replicate]; rfl
 rw [e] at this
 exact this
theorem mB {last : Option Int} {y : Slot} {l : List Slot} {rid : Nat} {bc : List Port} : ct F bc rid last (y :: l) aJ K = match bc.find? (iR y.num) with
  | none => .error ()
  | some p => if ly last y.num || !lF aJ bc p then .error () else match cq F p y.bT K with
   | .error u => .error u
   | .ok c => ct F bc rid (some y.num) l (aJ.set p.reg.toNat c.1) (c.2.set rid (dy (aJ.set p.reg.toNat c.1))) := by
 conv => lhs; unfold ct
 rfl
theorem sL.Gs (I : sL F q bh kn t H i aJ K) (hi : i < t.aU.length) (h : (q.side bh).find? (iR t.aU[i].num) = none) : ct F (q.side bh) H.next none t.aU (List.replicate q.aJ.toNat []) (dD q kn bh H) = .error () := by
 rw [I.eq, List.drop_eq_getElem_cons hi, mB, h]
theorem sL.bad (I : sL F q bh kn t H i aJ K) (hi : i < t.aU.length) {p : Port} (h : (q.side bh).find? (iR t.aU[i].num) = some p) (h2 : (ly (nJ t.aU i) t.aU[i].num || !lF aJ (q.side bh) p) = true) : ct F (q.side bh) H.next none t.aU (List.replicate q.aJ.toNat []) (dD q kn bh H) = .error () := by
 rw [I.eq, List.drop_eq_getElem_cons hi, mB, h]
 dsimp only
 rw [if_pos h2]
theorem sL.Dm (I : sL F q bh kn t H i aJ K) (hi : i < t.aU.length) {p : Port} (h : (q.side bh).find? (iR t.aU[i].num) = some p) (h2 : (ly (nJ t.aU i) t.aU[i].num || !lF aJ (q.side bh) p) = false) {u : Unit} (h3 : cq F p t.aU[i].bT K = .error u) : ct F (q.side bh) H.next none t.aU (List.replicate q.aJ.toNat []) (dD q kn bh H) = .error u := by
 rw [I.eq, List.drop_eq_getElem_cons hi, mB, h]
 dsimp only
 rw [h2, h3]; rfl
theorem yB (aJ : List (List cU)) (j : Nat) (c : List cU) : (dy aJ).set (j * 1) (.v (gZ c)) = dy (aJ.set j c) := by
 unfold dy; rw [List.map_set, Nat.mul_one]
theorem yC {j : Nat} (h : j < aJ.length) : (dy aJ)[j * 1]? = some (.v (gZ (aJ.getD j []))) := by
 unfold dy
 rw [Nat.mul_one, List.getElem?_map, List.getD_eq_getElem?_getD, List.getElem?_eq_getElem h]; rfl
theorem mJ (hF : ∀ k t H f H', F k t H = .ok (f, H') → H.more H') {x : Port} : ∀ {l : List bS} {H : Hp} {r : List cU × Hp}, cx F x l H = .ok r → H.more r.2
 | [], H, r, e => by cases e; exact Hp.more.refl _
 | v :: l, H, r, e => by
  unfold cx at e
  split at e
  ·cases e
  ·rename_i c hc
   split at e
   ·cases e
   ·split at e
    ·cases e
    ·rename_i r2 hr
     cases e
     have h9 := mJ hF hr
     exact (gb hF hc).trans h9
theorem iC (hF : ∀ k t H f H', F k t H = .ok (f, H') → H.more H') {x : Port} {l : List bS} {H : Hp} {r : List cU × Hp} (e : cq F x l H = .ok r) : H.more r.2 := by
 unfold cq at e
 split at e
 ·cases e
 ·exact mJ hF e
theorem sL.c1 (I : sL F q bh kn t H i aJ K) {K' : Hp} (h : K.more K') : K'.obj (H.next + 1) = some (lC kn q.aJ H.next [] bh) := by rw [h.2 _ (by have := I.nx; omega)]; exact I.o1
theorem sL.c2 (I : sL F q bh kn t H i aJ K) {K' : Hp} (h : K.more K') : K'.obj H.next = some (dy aJ) := by rw [h.2 _ (by have := I.nx; omega)]; exact I.o2
theorem sL.next (I : sL F q bh kn t H i aJ K) (hi : i < t.aU.length) {p : Port} (h : (q.side bh).find? (iR t.aU[i].num) = some p) (h2 : (ly (nJ t.aU i) t.aU[i].num || !lF aJ (q.side bh) p) = false) {c : List cU × Hp} (h3 : cq F p t.aU[i].bT K = .ok c) (hM : K.more c.2) :
  sL F q bh kn t H (i + 1) (aJ.set p.reg.toNat c.1) (c.2.set H.next (dy (aJ.set p.reg.toNat c.1))) := by
 have hnx := I.nx
 refine ⟨?_, by rw [List.length_set]; exact I.len, ?_, Hp.bq, Nat.le_trans hnx hM.1, (I.more.trans hM).set (Nat.le_refl _) _⟩
 ·rw [I.eq, List.drop_eq_getElem_cons hi, mB, h]
  dsimp only
  rw [h2, h3]
  have : nJ t.aU (i + 1) = some t.aU[i].num := by
   show some ((t.aU.getD i (.mk 0 [])).num) = _
   rw [List.getD_eq_getElem?_getD, List.getElem?_eq_getElem hi]; rfl
  rw [this]; rfl
 ·rw [Hp.rG (by omega)]; exact I.c1 hM
theorem sL.end_ (I : sL F q bh kn t H i aJ K) (hi : t.aU.length ≤ i) : ct F (q.side bh) H.next none t.aU (List.replicate q.aJ.toNat []) (dD q kn bh H) = .ok (aJ, K) := by
 rw [I.eq, List.drop_of_length_le hi]
 cases nJ t.aU i <;> rfl
theorem ju {ps : List aj} {u : Unit} (hq : ps.getD kn cc = q) (h : ct F (q.side bh) H.next none t.aU (List.replicate q.aJ.toNat []) (dD q kn bh H) = .error u) : iI F ps bh (kn : Int) t H = .error u := by
 unfold iI
 rw [Int.toNat_natCast, hq]
 dsimp only
 rw [h]
theorem pO {ps : List aj} (hq : ps.getD kn cc = q) (h : ct F (q.side bh) H.next none t.aU (List.replicate q.aJ.toNat []) (dD q kn bh H) = .ok (aJ, K)) (hr : t.rest.all (lZ (q.side bh)) = false) : iI F ps bh (kn : Int) t H = .error () := by
 unfold iI
 rw [Int.toNat_natCast, hq]
 dsimp only
 rw [h]
 dsimp only
 rw [hr]; rfl
theorem yz {ps : List aj} (hq : ps.getD kn cc = q) (h : ct F (q.side bh) H.next none t.aU (List.replicate q.aJ.toNat []) (dD q kn bh H) = .ok (aJ, K)) (hr : t.rest.all (lZ (q.side bh)) = true) : iI F ps bh (kn : Int) t H = .ok (.mk H.next kn aJ t.rest (!bh), K.set (H.next + 1) (lC (kn : Int) q.aJ H.next t.rest bh)) := by
 unfold iI
 rw [Int.toNat_natCast, hq]
 dsimp only
 rw [h]
 dsimp only
 rw [if_pos hr]
theorem CE {α : Type} {p : α → Bool} {l : List α} {i : Nat} (hi : i < l.length) (h : p l[i] = false) : l.all p = false := by
 rw [List.all_eq_false]
 exact ⟨l[i], List.getElem_mem hi, by simp [h]⟩
end
theorem mD {D : Nat → Prop} : bC D mE := .tup _ (ag.cons .nilp (ag.cons (.bool _) ag.nil))
theorem AX (ps : List aj) (hP : iE ps) (bh : Bool) (F : ns) (hFm : ∀ k t H f H', F k t H = .ok (f, H') → H.more H') (t : Tree) (hln : t.FG) (hvb : ∀ y ∈ t.aU, ∀ v ∈ y.bT, v.s.length ≤ 9223372036854775807 ∧ ∀ u ∈ v.m, u.dj) (hF : ∀ y ∈ t.aU, ∀ v ∈ y.bT, ∀ u ∈ v.m, Eo Tryz.prog 42 ps bh F u)
  (kn : Nat) (q : aj) (hq : ps[kn]? = some q) (H : Hp) : jX Tryz.prog 42 [lx ps bh, .int .i64 kn, .agg t.cells] H mE (zD vX (iI F ps bh kn t H)) := by
 have hqm := List.mem_of_getElem? hq
 have hqd : ps.getD kn cc = q := by rw [List.getD_eq_getElem?_getD, hq]; rfl
 have hb : q.ins.length ≤ 1000000 ∧ q.outs.length ≤ 1000000 := by have := hP.sides q hqm; omega
 have hsl : (q.side bh).length ≤ 1000000 := by unfold aj.side; split <;> omega
 have hr0 := (hP.aJ q hqm).1
 have hr1 : q.aJ ≤ 100000 := by have := (hP.aJ q hqm).2; omega
 have hside : ∀ x ∈ q.side bh, 0 ≤ x.reg ∧ x.reg < q.aJ ∧ x.part < (ps.length : Int) := fun x hx => hP.bc q hqm x (by unfold aj.side at hx; cases bh <;> simp_all)
 have hls := hln.s
 have hlr := hln.r
 refine cT.nc Tryz.func42 rfl rfl (aF rfl) mD (aC.seq (aC.region (aB.run II 4 rfl (aB.nil (aC.seq (aC.region (aB.run II 5 rfl (aB.c1 rfl (aG (aF rfl) ry rfl (rL ps bh kn q hq hb)) (aB.run II 1 rfl (aB.nil (aC.seq (aC.region (aB.run II 5 rfl (aB.c2 rfl (cK (aF rfl) Bf rfl rfl (wR ps bh kn q hq hr0 hr1 H)) (aB.run II 1 rfl (aB.nil (aC.seq (aC.seq (aC.region ?_)))))))))))))))))))
 refine aB.run II 4 rfl (aB.nil (aC.blk (aC.aK (Kept.aI [.s 34, .h, .s 3, .b 3, .s 5, .b 5, .s 8, .s 9, .s 32, .s 33] rfl (by decide) (Kept.now (aC.aX (fun ((i, aJ, K) : Nat × List (List cU) × Hp) => [(.s 34, .sv (.v (.int .i64 (i : Int)))), (.h, .hp K)]) _ (fun ((i, aJ, K) : Nat × List (List cU) × Hp) => sL F q bh kn t H i aJ K) (fun ((i, aJ, K) : Nat × List (List cU) × Hp) => t.aU.length - i) (0, _, _) rfl (sL.begin hr1) ?_))))))
 rintro ⟨i, aJ, K⟩ hI
 dsimp only at hI
 have hpr : ∀ y ∈ q.side bh, 0 ≤ y.reg ∧ y.reg < (aJ.length : Int) := fun y hy => by have := hside y hy; have := hI.len; omega
 refine aC.seq (aC.region (aB.run II 1 rfl (aB.nil (aC.seq (aC.cond rfl (fun hc1 => ?_) (fun hc1 => ?_))))))
 ·have hi := ch hc1
  refine aC.skip (aC.seq (aC.blk (aC.seq (aC.region (aB.run II 1 rfl (aB.c1 rfl (aH (aF rfl) dX rfl rfl (Int.natCast_nonneg _) (dF Slot.bK hi) rfl) (aB.run II 4 rfl (aB.nil (aC.seq (aC.region (aB.run II 3 rfl ?_)))))))))))
  cases hp1 : nN (t.aU[i]'hi).num (q.side bh) with
  | ok x1 => 
   refine aB.c1 rfl (aG (aF rfl) rj rfl (wN hsl hp1)) (aB.run II 6 rfl (aB.nil (aC.cE [.h, .s 3, .b 3, .s 5, .b 5, .s 8, .s 9, .s 11, .b 11, .s 12, .b 12, .s 32, .s 33, .s 34] (fun (_ : Unit) => []) (fun (_ : Unit) => (ly (nJ t.aU i) (t.aU[i]'hi).num || !lF aJ (q.side bh) x1) = false) rfl ?_ ?_)))
   ·refine aC.seq (aC.drawn mixed rfl (aD.run II 6 rfl (aD.tell (d := 51) rfl (fun hg2 => ?_) (fun hg2 => ?_))))
    ·refine aD.run II 4 rfl (aD.g1 rfl (aF rfl) rfl rfl (aH (aF rfl) dX rfl rfl (IL (sN hg2) (by omega)) (xw (sN hg2) hi hls) rfl) (aD.run II 8 rfl (aD.tell (d := 64) rfl (fun hg3 => ?_) (fun hg3 => ?_))))
     ·exact aD.run II 6 rfl (aD.nil (by kernel_rfl) (Kept.now (aC.ar rfl rfl (aC.seq (aC.region (aB.run II 2 rfl (aB.nil (aC.ret (iL.fin (fy.tN (ju hqd (hI.bad hi (dS hp1) (by rw [qh (sN hg2)]; simp only [Bool.or_eq_true]; exact .inl hg3))) rfl hI.more) ⟨.inr rfl, (aE.r2 rfl (.tmp rfl (.tmp rfl .nil))).cast rfl, rfl⟩)))))))))
     ·refine aD.run II 3 rfl (aD.g1 rfl (aF rfl) rfl rfl (ck (aF rfl) B4 rfl rfl (wX x1 (q.side bh) hsl aJ hpr (H.next + 1) H.next _ _ _ K (by have := hI.nx; omega) (by have := hI.nx; omega) (by rw [hI.len]; exact hI.o1) hI.o2)) ?_)
      refine aD.run II 2 rfl (aD.nil (by kernel_rfl) (Kept.now (aC.cond rfl (fun hc4 => ?_) (fun hc4 => ?_))))
      ·exact aC.seq (aC.region (aB.run II 2 rfl (aB.nil (aC.ret (iL.fin (fy.tN (ju hqd (hI.bad hi (dS hp1) (by simp only [Bool.or_eq_true]; exact .inr hc4))) rfl hI.more) ⟨.inr rfl, (aE.r2 rfl (.tmp rfl (.tmp rfl .nil))).cast rfl, rfl⟩)))))
      ·exact aC.aK (Kept.aI [.h, .s 3, .b 3, .s 5, .b 5, .s 8, .s 9, .s 11, .b 11, .s 12, .b 12, .s 32, .s 33, .s 34] rfl (by decide) (Kept.now (aC.skip (⟨(), by rw [qh (sN hg2)]; exact Bool.or_eq_false_iff.2 ⟨hg3, hc4⟩, rfl⟩))))
    ·refine aD.run II 16 rfl (aD.g1 rfl (aF rfl) rfl rfl (ck (aF rfl) B4 rfl rfl (wX x1 (q.side bh) hsl aJ hpr (H.next + 1) H.next _ _ _ K (by have := hI.nx; omega) (by have := hI.nx; omega) (by rw [hI.len]; exact hI.o1) hI.o2)) ?_)
     refine aD.run II 2 rfl (aD.nil (by kernel_rfl) (Kept.now (aC.cond rfl (fun hc5 => ?_) (fun hc5 => ?_))))
     ·exact aC.seq (aC.region (aB.run II 2 rfl (aB.nil (aC.ret (iL.fin (fy.tN (ju hqd (hI.bad hi (dS hp1) (by simp only [Bool.or_eq_true]; exact .inr hc5))) rfl hI.more) ⟨.inr rfl, (aE.r2 rfl (.tmp rfl (.tmp rfl .nil))).cast rfl, rfl⟩)))))
     ·exact aC.aK (Kept.aI [.h, .s 3, .b 3, .s 5, .b 5, .s 8, .s 9, .s 11, .b 11, .s 12, .b 12, .s 32, .s 33, .s 34] rfl (by decide) (Kept.now (aC.skip (⟨(), by have : i = 0 := KH hg2; subst this; exact Bool.or_eq_false_iff.2 ⟨rfl, hc5⟩, rfl⟩))))
   ·rintro _ hJn
    refine aC.seq (aC.region (aB.run II 4 rfl ?_))
    cases hp2 : cq F x1 (t.aU[i]'hi).bT K with
    | ok x2 => 
     refine aB.c2 rfl (cK (aF rfl) B3 rfl rfl (jX.Di (wW ps bh F hFm x1 (t.aU[i]'hi).bT (hside _ (List.mem_of_find?_eq_some (dS hp1))).2.2 (hln.v _ (List.getElem_mem hi)) (hvb _ (List.getElem_mem hi)) (hF _ (List.getElem_mem hi)) K) hp2)) ?_
     refine aB.run II 5 rfl (aB.nil (aC.seq (aC.seq (aC.region (aB.run II 2 rfl (aB.nil (aC.aZ rfl (congrArg not rfl) (aC.skip (aC.drawn mixed rfl (aD.run II 3 rfl (aD.c1 rfl (bJ (aF rfl) jO rfl rfl (hI.c1 (iC hFm hp2)) rfl) (aD.run II 3 rfl (aD.c1 rfl (bU (aF rfl) lA rfl rfl (hside _ (List.mem_of_find?_eq_some (dS hp1))).1 (by have := hside _ (List.mem_of_find?_eq_some (dS hp1)); omega)) ?_)))))))))))))
     refine aD.c1 rfl (rW kv rfl rfl (hI.c2 (iC hFm hp2)) rfl rfl (yC (by have := hside _ (List.mem_of_find?_eq_some (dS hp1)); have := hI.len; omega))) ?_
     exact aD.nil (by kernel_rfl) (Kept.now (aC.region (aB.run II 2 rfl (aB.kept (Kept.nR rfl (congrArg (Hp.set _ _) (yB _ _ _)) (Kept.aY 34 rfl (inc (by omega)) (Kept.aI [.s 34, .h, .s 3, .b 3, .s 5, .b 5, .s 8, .s 9, .s 32, .s 33] rfl (by decide) (Kept.now ⟨(i + 1, _, _), by dsimp only; omega, hI.next hi (dS hp1) hJn hp2 (iC hFm hp2), rfl⟩))))))))
    | error e2 => 
     refine aB.c1 rfl (ck (aF rfl) B3 rfl rfl (jX.tN (wW ps bh F hFm x1 (t.aU[i]'hi).bT (hside _ (List.mem_of_find?_eq_some (dS hp1))).2.2 (hln.v _ (List.getElem_mem hi)) (hvb _ (List.getElem_mem hi)) (hF _ (List.getElem_mem hi)) K) hp2)) ?_
     exact aB.run II 5 rfl (aB.nil (aC.seq (aC.seq (aC.region (aB.run II 2 rfl (aB.nil (aC.ar rfl (congrArg not rfl) (aC.seq (aC.region (aB.run II 2 rfl (aB.nil (aC.ret (iL.fin (fy.tN (ju hqd (hI.Dm hi (dS hp1) hJn hp2)) rfl hI.more) ⟨.inr rfl, (aE.r2 rfl (.tmp rfl (.tmp rfl .nil))).cast rfl, rfl⟩)))))))))))))
  | error e1 => 
   refine aB.c1 rfl (aG (aF rfl) rj rfl (wO hsl hp1)) (aB.run II 6 rfl (aB.nil (aC.cE [.h, .s 3, .b 3, .s 5, .b 5, .s 8, .s 9, .s 11, .b 11, .s 12, .b 12, .s 32, .s 33, .s 34] (fun (_ : Unit) => []) (fun _ => False) rfl ?_ ?_)))
   ·exact aC.seq (aC.drawn mixed rfl (aD.run II 25 rfl (aD.nil (by kernel_rfl) (Kept.now (aC.ar rfl rfl (aC.seq (aC.region (aB.run II 2 rfl (aB.nil (aC.ret (iL.fin (fy.tN (ju hqd (hI.Gs hi (mH hp1))) rfl hI.more) ⟨.inr rfl, (aE.r2 rfl (.tmp rfl (.tmp rfl .nil))).cast rfl, rfl⟩)))))))))))
   ·exact fun _ hF => hF.elim
 ·have hi := cj hc1
  refine aC.exit (aC.seq (aC.seq (aC.region (aB.run II 4 rfl (aB.nil (aC.blk (aC.aK (Kept.aI [.s 93, .h, .s 5, .b 5, .s 8, .s 9, .s 91, .s 92] rfl (by decide) (Kept.now (aC.aX (fun (j : Nat) => [(.s 93, .sv (.v (.int .i64 (j : Int))))]) _ (fun (j : Nat) => (t.rest.drop j).all (lZ (q.side bh)) = t.rest.all (lZ (q.side bh))) (fun (j : Nat) => t.rest.length - j) 0 rfl rfl ?_))))))))))
  rintro j hJ
  refine aC.seq (aC.region (aB.run II 1 rfl (aB.nil (aC.seq (aC.cond rfl (fun hc6 => ?_) (fun hc6 => ?_))))))
  ·have hj := ch hc6
   refine aC.skip (aC.seq (aC.blk (aC.seq (aC.region (aB.c1 rfl (aH (aF rfl) lB rfl rfl (Int.natCast_nonneg _) (bz hj) rfl) (aB.run II 3 rfl (aB.nil (aC.seq (aC.region (aB.run II 3 rfl ?_))))))))))
   cases hp3 : nN (t.rest[j]'hj).num (q.side bh) with
   | ok x3 => 
    exact aB.c1 rfl (aG (aF rfl) rj rfl (wN hsl hp3)) (aB.run II 6 rfl (aB.nil (aC.seq (aC.region (aB.run II 6 rfl (aB.nil (aC.ar rfl rfl (aC.seq (aC.region (aB.run II 2 rfl (aB.nil (aC.ret (iL.fin (fy.tN (pO hqd (hI.end_ hi) (CE hj (by unfold lZ; rw [dS hp3]; rfl))) rfl hI.more) ⟨.inr rfl, (aE.r2 rfl (.tmp rfl (.tmp rfl .nil))).cast rfl, rfl⟩)))))))))))))
   | error e3 => 
    refine aB.c1 rfl (aG (aF rfl) rj rfl (wO hsl hp3)) (aB.run II 6 rfl (aB.nil (aC.seq (aC.region (aB.run II 3 rfl (aB.g1 rfl (aF rfl) rfl rfl (aG (aF rfl) B2 rfl (sy _)) (aB.run II 2 rfl (aB.nil (aC.cond rfl (fun hc7 => ?_) (fun hc7 => ?_))))))))))
    ·exact aC.seq (aC.region (aB.run II 2 rfl (aB.nil (aC.ret (iL.fin (fy.tN (pO hqd (hI.end_ hi) (CE hj (by unfold lZ; rw [mH hp3]; simpa using hc7))) rfl hI.more) ⟨.inr rfl, (aE.r2 rfl (.tmp rfl (.tmp rfl .nil))).cast rfl, rfl⟩)))))
    ·exact aC.skip (aC.region (aB.run II 2 rfl (aB.kept (Kept.aY 93 rfl (inc (by omega)) (Kept.aI [.s 93, .h, .s 5, .b 5, .s 8, .s 9, .s 91, .s 92] rfl (by decide) (Kept.now ⟨j + 1, by omega, by rw [← hJ, List.drop_eq_getElem_cons hj, List.all_cons, show lZ (q.side bh) t.rest[j] = true from (by unfold lZ; rw [mH hp3]; simpa using hc7)]; rfl, rfl⟩))))))
  ·have hj := cj hc6
   refine aC.exit (aC.seq (aC.region (aB.run II 3 rfl (aB.c1 rfl (aG (aF rfl) v8 rfl (ki _ (by have := hln.r; omega))) ?_))))
   exact aB.run II 2 rfl (aB.c1 rfl (rW vH rfl rfl hI.o1 rfl rfl rfl) (aB.nil (aC.seq (aC.region (aB.run II 3 rfl (aB.nil (aC.ret (iL.fin (fy.Di (yz hqd (hI.end_ hi) (by rw [← hJ, List.drop_of_length_le hj]; rfl)) rfl) ⟨.inr rfl, (aE.r2 rfl (.tmp rfl (.tmp rfl .nil))).cast rfl, rfl⟩))))))))
theorem pC (ps : List aj) (bh : Bool) : ∀ (n : Nat) k t H f H', pD ps bh n k t H = .ok (f, H') → H.more H'
 | 0, k, t, H, f, H', e => by cases e
 | n + 1, k, t, H, f, H', e => by
  have hF := pC ps bh n
  have go : ∀ {bc : List Port} {rid : Nat}, H.next ≤ rid → ∀ (l : List Slot) (last : Option Int) (aJ : List (List cU)) (K : Hp) (r : List (List cU) × Hp), H.more K → ct (pD ps bh n) bc rid last l aJ K = .ok r → H.more r.2 := by
   intro bc rid hr l
   induction l with
   | nil => intro last aJ K r hK e; rw [ct] at e; cases e; exact hK
   | cons y l ih =>
    intro last aJ K r hK e
    rw [mB] at e
    split at e
    ·cases e
    ·split at e
     ·cases e
     ·split at e
      ·cases e
      ·rename_i c hc
       exact ih _ _ _ _ ((hK.trans (iC hF hc)).set hr _) e
  have e : iI (pD ps bh n) ps bh k t H = .ok (f, H') := e
  unfold iI at e
  dsimp only at e
  split at e
  ·cases e
  ·rename_i r hr
   split at e
   ·have h1 := go (Nat.le_refl _) _ _ _ _ _ (((Hp.more.refl H).new _).new _) hr
    injection e with e
    injection e with e1 e2
    rw [← e2]
    exact h1.set (Nat.le_succ _) _
   ·cases e
theorem wV (ps : List aj) (hP : iE ps) (bh : Bool) : ∀ (n : Nat) (t : Tree), SizeOf.sizeOf t < n → t.lean → t.dj → Eo Tryz.prog 42 ps bh (pD ps bh n) t
 | 0, t, h, _, _ => by omega
 | n + 1, t, h, hl, hb => by
  intro k hk0 hk H
  obtain ⟨kn, rfl⟩ : ∃ kn : Nat, k = kn := ⟨k.toNat, by omega⟩
  have hkn : kn < ps.length := by omega
  exact AX ps hP bh (pD ps bh n) (pC ps bh n) t hl.here (fun y hy v hv => ⟨hb.here.vs y hy v hv, fun u hu => hb.sub hu hv hy⟩)
   (fun y hy v hv u hu => wV ps hP bh n u (by have := Tree.sub_lt hu hv hy; omega) (hl.sub hu hv hy) (hb.sub hu hv hy)) kn ps[kn] (List.getElem?_eq_getElem hkn) H
noncomputable def loadT (ps : List aj) (bh : Bool) (t : Tree) (H : Hp) : Except Unit (Fm × Hp) := pD ps bh (SizeOf.sizeOf t + 1) 0 t H
theorem GS (ps : List aj) (hP : iE ps) (h0 : 0 < ps.length) (bh : Bool) (t : Tree) (hl : t.lean) (hb : t.dj) (H : Hp) : jX Tryz.prog 25 [cS ps, .bool bh, .agg t.cells] H mE (zD vX (loadT ps bh t H)) := by
 have hL := wV ps hP bh _ t (Nat.lt_succ_self _) hl hb 0 (Int.le_refl _) (by omega) H
 have e0 : cS ps = .agg [.sl (ps.map aj.av)] := rfl
 refine cT.nc Tryz.func25 rfl rfl (aF rfl) mD (aC.seq (aC.region (aB.run II 4 rfl (aB.nil (aC.seq (aC.region (aB.run II 4 rfl ?_)))))))
 cases hp1 : loadT ps bh t H with
 | ok x1 => 
  exact aB.c2 rfl (cK (aF rfl) rp rfl rfl (jX.Di hL hp1)) (aB.run II 4 rfl (aB.nil (aC.ret (iL.fin (fy.Di rfl rfl) ⟨.inr rfl, (aE.r2 rfl (.tmp rfl (.tmp rfl .nil))).cast rfl, rfl⟩))))
 | error e1 => 
  exact aB.c1 rfl (ck (aF rfl) rp rfl rfl (jX.tN hL hp1)) (aB.run II 4 rfl (aB.nil (aC.ret (iL.fin (fy.tN rfl rfl (Hp.more.refl H)) ⟨.inr rfl, (aE.r2 rfl (.tmp rfl (.tmp rfl .nil))).cast rfl, rfl⟩))))
/- Plain laws: how great the parts of a migration are; those ahead of the steps stay. No condition. -/
theorem sV (p : aj) (x : aS) : (aP p x).ins = p.ins := by
 unfold aP
 dsimp only
 repeat' split
 all_goals rfl
theorem rF (p : aj) (x : aS) : p.aJ ≤ (aP p x).aJ ∧ (aP p x).aJ ≤ p.aJ + 2 := by
 unfold aP
 dsimp only
 repeat' split
 all_goals (dsimp only; omega)
structure Stepped (w w' : gj) (m : aT) (k : Nat) (p p' : aj) : Prop where
 nm : w.names[k]? = some m.name
 nm' : w'.names[k]? = some m.name
 fit : Fit w.names p m
 at_ : w.all[k]? = some p
 ins : p'.ins = p.ins
 rl : p.aJ ≤ p'.aJ
 ru : p'.aJ ≤ p.aJ + 2
 all : w'.all = w.all.set k p' ∨ ∃ (y : Port) (nm : au), y ∈ p.outs ∧ w'.all = w.all.set k p' ++ [cN { cc with name := nm, born := true, aJ := 1, ins := [{ y with reg := 0 }], outs := [{ y with reg := 0 }] }]
theorem Inv.wF {s t : aN} {x : aS} {m : aT} {at_ : Nat} {w : gj} (I : Inv s w) (A : cH s x t m at_) : ∃ k p p', Stepped w (w.step x) m k p p' := by
 have hm : m ∈ s.msgs := List.mem_of_getElem? A.eq
 obtain ⟨k, p, k1, k2, hF⟩ := I.fwd m hm
 have hne : m.name ≠ [] := gx (A.fD.nm m hm)
 have hk : k < w.all.length := (List.getElem?_eq_some_iff.1 k2).1
 have hkn : k < w.names.length := (List.getElem?_eq_some_iff.1 k1).1
 have hix : eA w.names x.msg = k := iZ (by rw [← A.nm]; exact k1) fun j hj => I.uniq j k _ hj (by rw [← A.nm]; exact k1) (by rw [← A.nm]; exact hne)
 have hgd : w.all.getD k cc = p := by rw [List.getD_eq_getElem?_getD, k2]; rfl
 by_cases h6 : x.kind = 6
 ·have hhas : m.eI x.field = true := by have := A.has; simpa [aS.bn, h6] using this
  have hh := ek hhas
  obtain ⟨q1, q2, q3⟩ := fB hF.outs ⟨_, hh.1, hh.2⟩
  let wp : aj := cN { cc with name := x.dest, born := true, aJ := 1, ins := [{ aO p.outs x.field with reg := 0 }], outs := [{ aO p.outs x.field with reg := 0 }] }
  let g : Port := ⟨{ dt with name := x.also, num := x.num, ty := 15, ref := x.dest }, p.aJ, w.all.length⟩
  let p' : aj := { p with ops := p.ops ++ [{ j7 with kind := 4, a := (aO p.outs x.field).reg, b := p.aJ, part := w.all.length }], aJ := p.aJ + 1, outs := bY (aV p.outs x.field) g }
  have hst : w.step x = ⟨(w.all ++ [wp]).set k (cN p'), w.names ++ [x.dest]⟩ := by
   unfold gj.step
   simp only [hix, h6, if_true, bX, hgd, show ¬ (6 : Int) = 7 by decide, if_false]
   congr 1
   rw [List.getD_eq_getElem?_getD, List.getElem?_set_self (by simp; omega)]
   simp only [Option.getD_some, List.set_set]
   rfl
  refine ⟨k, p, cN p', k1, ?_, hF, k2, rfl, ?_, ?_, .inr ⟨_, x.dest, q1, ?_⟩⟩
  ·rw [hst]; show (w.names ++ [x.dest])[k]? = _
   rw [List.getElem?_append_left hkn]; exact k1
  ·show p.aJ ≤ p.aJ + 1; omega
  ·show p.aJ + 1 ≤ p.aJ + 2; omega
  ·rw [hst]; show (w.all ++ [wp]).set k (cN p') = _
   rw [List.set_append, if_pos hk]
 ·by_cases h7 : x.kind = 7
  ·have hhas : m.eI x.field = true := by have := A.has; simpa [aS.bn, h7] using this
   have hh := ek hhas
   obtain ⟨q1, q2, q3⟩ := fB hF.outs ⟨_, hh.1, hh.2⟩
   have q2 : (aO p.outs x.field).f = m.aQ x.field := q2
   obtain ⟨m2, g, j2, B⟩ := A.boxed h7
   obtain ⟨j, hj1, hj2⟩ := (hF.part _ q1).1 (by rw [q2]; exact B.ty)
   rw [q2] at hj2
   have hpart : (aO p.outs x.field).part.toNat = j := by rw [hj1]; simp
   have hkk : k ≠ j := fun e => by
    rw [e, hj2] at k1
    injection k1 with k1
    exact B.ne k1
   obtain ⟨p2, hg2⟩ : ∃ p2, w.all.getD j cc = p2 := ⟨_, rfl⟩
   let g' : Port := { (p2.outs.headD gQ) with reg := p.aJ }
   let p' : aj := { p with ops := p.ops ++ [{ j7 with kind := 5, a := (aO p.outs x.field).reg, b := p.aJ, part := (aO p.outs x.field).part }], aJ := p.aJ + 1, outs := bY (aV p.outs x.field) g' }
   have hst : w.step x = ⟨w.all.set k (cN p'), w.names.set j []⟩ := by
    unfold gj.step
    simp only [hix, h7, if_true, if_false, bX, hgd, hpart, hg2, show ¬ (7 : Int) = 6 by decide]
    congr 1
    rw [List.getD_eq_getElem?_getD, List.getElem?_set_self hk]
    simp only [Option.getD_some, List.set_set]
    rfl
   refine ⟨k, p, cN p', k1, ?_, hF, k2, rfl, ?_, ?_, .inl ?_⟩
   ·rw [hst]; show (w.names.set j [])[k]? = _
    rw [List.getElem?_set_ne (fun q => hkk q.symm)]; exact k1
   ·show p.aJ ≤ p.aJ + 1; omega
   ·show p.aJ + 1 ≤ p.aJ + 2; omega
   ·rw [hst]
  ·have hst : w.step x = ⟨w.all.set k (cN (aP p x)), w.names⟩ := by
    unfold gj.step
    simp only [hix, h6, h7, if_false, bX, hgd]
    congr 1
    rw [List.getD_eq_getElem?_getD, List.getElem?_set_self hk]
    simp
   have hr := rF p x
   exact ⟨k, p, cN (aP p x), k1, by rw [hst]; exact k1, hF, k2, sV p x, hr.1, hr.2, .inl (by rw [hst])⟩
structure mu (w : gj) (n : Nat) : Prop where
 len : w.all.length ≤ 6 + n
 sides : ∀ p ∈ w.all, p.ins.length ≤ 10 ∧ p.outs.length ≤ 10
 aJ : ∀ p ∈ w.all, 0 ≤ p.aJ ∧ p.aJ ≤ 10 + 2 * (n : Int)
 bc : ∀ p ∈ w.all, ∀ x ∈ p.ins ++ p.outs, 0 ≤ x.reg ∧ x.reg < p.aJ ∧ x.part < w.all.length ∧ -1 ≤ x.part
theorem Fit.Is {names : List au} {p : aj} {m : aT} {t : aN} (h : Fit names p m) (ht : t.tL) (hm : m ∈ t.msgs) : p.outs.length ≤ 10 ∧ ∀ x ∈ p.outs, 0 ≤ x.reg ∧ x.reg < p.aJ ∧ x.part < names.length ∧ -1 ≤ x.part := by
 refine ⟨?_, fun x hx => ?_⟩
 ·have := ht.sm.f m hm
  rw [← h.outs, List.length_map] at this; exact this
 ·have hr := h.reg x hx
  have hp := h.part x hx
  by_cases e : x.f.ty = 15
  ·obtain ⟨j, h1, h2⟩ := hp.1 e
   have := (List.getElem?_eq_some_iff.1 h2).1
   omega
  ·have := hp.2 e
   omega
theorem Inv.live {t : aN} {w : gj} (I : Inv t w) {k : Nat} {n : au} (h : w.names[k]? = some n) (hn : n ≠ []) : ∃ m ∈ t.msgs, m.name = n ∧ ∃ p, w.all[k]? = some p ∧ Fit w.names p m := by
 obtain ⟨m, hm, e⟩ := I.back k n h hn
 obtain ⟨k', p, h1, h2, h3⟩ := I.fwd m hm
 have : k' = k := I.uniq k' k n (by rw [h1, e]) h hn
 subst this
 exact ⟨m, hm, e, p, h2, h3⟩
theorem mu.step {s t : aN} {x : aS} {m : aT} {at_ : Nat} {w : gj} {n : Nat} (B : mu w n) (I : Inv s w) (A : cH s x t m at_) (I' : Inv t (w.step x)) : mu (w.step x) (n + 1) := by
 obtain ⟨k, p, p', S⟩ := I.wF A
 have hne : m.name ≠ [] := gx (A.fD.nm m (List.mem_of_getElem? A.eq))
 have hk : k < w.all.length := (List.getElem?_eq_some_iff.1 S.at_).1
 have hpm : p ∈ w.all := List.mem_of_getElem? S.at_
 have hlen : w.all.length ≤ (w.step x).all.length ∧ (w.step x).all.length ≤ w.all.length + 1 := by
  rcases S.all with e | ⟨y, nm, _, e⟩ <;> rw [e] <;> simp
 have hmem : ∀ q ∈ (w.step x).all, q = p' ∨ q ∈ w.all ∨ ∃ (y : Port) (nm : au), y ∈ p.outs ∧ q = cN { cc with name := nm, born := true, aJ := 1, ins := [{ y with reg := 0 }], outs := [{ y with reg := 0 }] } := by
  intro q hq
  have hs : ∀ q ∈ w.all.set k p', q = p' ∨ q ∈ w.all := fun q hq => by
   rcases List.mem_or_eq_of_mem_set hq with h | h
   ·exact .inr h
   ·exact .inl h
  rcases S.all with e | ⟨y, nm, hy, e⟩
  ·rw [e] at hq
   rcases hs q hq with h | h
   ·exact .inl h
   ·exact .inr (.inl h)
  ·rw [e] at hq
   rcases List.mem_append.1 hq with hq | hq
   ·rcases hs q hq with h | h
    ·exact .inl h
    ·exact .inr (.inl h)
   ·exact .inr (.inr ⟨y, nm, hy, by simpa using hq⟩)
 obtain ⟨m', hm', e', p2, h2, F2⟩ := I'.live S.nm' hne
 have hp2 : p2 = p' := by
  have hk' : (w.step x).all[k]? = some p' := by
   rcases S.all with e | ⟨y, nm, _, e⟩
   ·rw [e, List.getElem?_set_self hk]
   ·rw [e, List.getElem?_append_left (by simpa using hk), List.getElem?_set_self hk]
  rw [hk'] at h2; cases h2; rfl
 subst hp2
 have g2 := F2.Is I'.ok hm'
 have hl' := I'.len
 have bp := B.aJ p hpm
 have hrl := S.rl
 have hru := S.ru
 have hB := B.len
 refine ⟨by omega, fun q hq => ?_, fun q hq => ?_, fun q hq z hz => ?_⟩
 ·rcases hmem q hq with rfl | h | ⟨y, nm, hy, rfl⟩
  ·exact ⟨by rw [S.ins]; exact (B.sides p hpm).1, g2.1⟩
  ·exact B.sides q h
  ·exact ⟨by show 1 ≤ 10; omega, by show 1 ≤ 10; omega⟩
 ·rcases hmem q hq with rfl | h | ⟨y, nm, hy, rfl⟩
  ·omega
  ·have := B.aJ q h; omega
  ·show (0 : Int) ≤ 1 ∧ (1 : Int) ≤ _; omega
 ·rcases hmem q hq with rfl | h | ⟨y, nm, hy, rfl⟩
  ·rcases List.mem_append.1 hz with hz | hz
   ·rw [S.ins] at hz
    have := B.bc p hpm z (List.mem_append_left _ hz)
    omega
   ·have := g2.2 z hz
    omega
  ·have := B.bc q h z hz
   omega
  ·have hz : z = { y with reg := 0 } := by
    have hz : z ∈ [({ y with reg := 0 } : Port)] ++ [{ y with reg := 0 }] := hz
    simpa using hz
   have := B.bc p hpm y (List.mem_append_right _ hy)
   subst hz
   show (0 : Int) ≤ 0 ∧ (0 : Int) < 1 ∧ y.part < _ ∧ -1 ≤ y.part
   omega
theorem mu.begin {s : aN} (hs : s.tL) : mu (jN s) 0 := by
 have hl : (jN s).all.length = s.msgs.length := by simp [jN, bk]
 have hm := hs.sm.m
 have hmem : ∀ p ∈ (jN s).all, ∃ m ∈ s.msgs, p.ins = bb s m ∧ p.outs = bb s m ∧ p.aJ = m.fields.length := fun p hp => by
  obtain ⟨m, h1, rfl⟩ := List.mem_map.1 hp
  exact ⟨m, h1, rfl, rfl, rfl⟩
 have hpl : ∀ m, (bb s m).length = m.fields.length := fun m => by simp [bb]
 refine ⟨by omega, fun p hp => ?_, fun p hp => ?_, fun p hp x hx => ?_⟩
 ·obtain ⟨m, h1, h2, h3, h4⟩ := hmem p hp
  have := hs.sm.f m h1
  rw [h2, h3, hpl]; omega
 ·obtain ⟨m, h1, h2, h3, h4⟩ := hmem p hp
  have := hs.sm.f m h1
  rw [h4]; omega
 ·obtain ⟨m, h1, h2, h3, h4⟩ := hmem p hp
  have hx : x ∈ bb s m := by
   rw [h2, h3] at hx
   rcases List.mem_append.1 hx with h | h <;> exact h
  obtain ⟨k, a1, a2, a3, a4⟩ := mU hx
  have hpt : x.part < s.msgs.length ∧ -1 ≤ x.part := by
   rw [a4]
   split
   ·rcases an (fun m : aT => m.name == x.f.ref) s.msgs 0 with ⟨h1, h2⟩ | ⟨i, hi, h1, h2⟩
    ·have : s.bH x.f.ref = -1 := h1
     omega
    ·have : s.bH x.f.ref = ((0 + i : Nat) : Int) := h1
     omega
   ·omega
  omega
theorem mO.begin (s : aN) : mO s (jN s) := ⟨fun k m h => ⟨cN { cc with name := m.name, ins := bb s m, outs := bb s m, aJ := m.fields.length }, by simp [jN, bk, h], rfl, Int.le_refl _⟩⟩
theorem mO.step {r s t : aN} {x : aS} {m : aT} {at_ : Nat} {w : gj} (B : mO r w) (I : Inv s w) (A : cH s x t m at_) : mO r (w.step x) := by
 obtain ⟨k, p, p', S⟩ := I.wF A
 have hk : k < w.all.length := (List.getElem?_eq_some_iff.1 S.at_).1
 refine ⟨fun i y hy => ?_⟩
 obtain ⟨q, h1, h2, h3⟩ := B.ins i y hy
 have hi : i < w.all.length := (List.getElem?_eq_some_iff.1 h1).1
 have hget : (w.step x).all[i]? = (w.all.set k p')[i]? := by
  rcases S.all with e | ⟨z, nm, _, e⟩
  ·rw [e]
  ·rw [e, List.getElem?_append_left (by simpa using hi)]
 rw [hget]
 by_cases e : i = k
 ·subst e
  rw [S.at_] at h1; cases h1
  exact ⟨p', List.getElem?_set_self hk, by rw [S.ins]; exact h2, Int.le_trans h3 S.rl⟩
 ·exact ⟨q, by rw [List.getElem?_set_ne (fun h => e h.symm)]; exact h1, h2, h3⟩
theorem qq : ∀ {l : List aS} {r s : aN} {acc L : List aN} {w : gj} {n : Nat}, Inv s w → mu w n → mO r w → aN.eK l s acc = .ok L → mu (l.foldl gj.step w) (n + l.length) ∧ mO r (l.foldl gj.step w)
 | [], r, s, acc, L, w, n, I, B, C, h => ⟨B, C⟩
 | x :: l, r, s, acc, L, w, n, I, B, C, h => by
  unfold aN.eK at h
  cases e : s.apply x with
  | error k => rw [e] at h; cases h
  | ok t =>
   rw [e] at h
   have I' := I.step e
   obtain ⟨m, at_, A⟩ := jV e
   have := qq I' (B.step I A I') (C.step I A) h
   have e2 : n + (x :: l).length = n + 1 + l.length := by simp; omega
   rw [e2]; exact this
theorem x9 {s : aN} {l : List aS} {L : List aN} (h : s.all l = .ok L) : mu (l.foldl gj.step (jN s)) l.length ∧ mO s (l.foldl gj.step (jN s)) := by
 unfold aN.all at h
 split at h
 ·cases h
 rename_i h1
 split at h
 ·cases h
 have hs := aN.jL (by simpa using h1)
 have := qq (Inv.begin hs) (mu.begin hs) (mO.begin s) h
 simpa using this
/- Plain laws: parts stand for messages; their ports lie by rising numbers. No condition. -/
theorem mu.parts {w : gj} {n : Nat} (B : mu w n) (hn : n ≤ 40) : iE w.all := by
 have hl := B.len
 refine ⟨by omega, fun q hq => ?_, fun q hq => ?_, fun q hq x hx => ?_⟩
 ·have := B.sides q hq; omega
 ·have := B.aJ q hq; omega
 ·have := B.bc q hq x hx; omega
section
variable {ps : List aj} {bh : Bool} {s : aN} {St : Nat → aT → Prop} {k : Nat} {m : aT} {q : aj}
end
/- Plain laws: just the values of a message are loaded; what is loaded is that value. No condition. -/
section
variable {ps : List aj} {bh : Bool} {s : aN} {St : Nat → aT → Prop} {k : Nat} {m : aT} {q : aj} {n : Nat}
end
/- Plain laws: just the values of a message are loaded (the slots, and all of it). No condition. -/
theorem nE : ∀ n, dK (List.replicate n []) = 0
 | 0 => rfl
 | n + 1 => by rw [List.replicate_succ, dK, eD, nE n]
theorem nD : ∀ n, dJ (List.replicate n []) = 0
 | 0 => rfl
 | n + 1 => by rw [List.replicate_succ, dJ, eC, nD n]; rfl
section
variable {ps : List aj} {bh : Bool} {s : aN} {St : Nat → aT → Prop} {k : Nat} {m : aT} {q : aj} {n : Nat}
end
/- the example of layer 36 -/
theorem Hi : ab Tryz.prog 25 = true := by kernel_rfl
def JA : aN := ⟨[], [⟨[77], [⟨[97], 1, 1, [], false, false, []⟩], []⟩]⟩
def Hq : Tree := .mk [.mk 1 [.mk 5 [] []]] []
def Hs : List aj := lower JA []
theorem xQ : JA.all [] = .ok [JA] := by kernel_rfl
theorem Ec : JA.dj := ⟨by decide, by decide⟩
theorem Hr : iE Hs := mu.parts (x9 xQ).1 (by decide)
theorem Ed : 0 < Hs.length := by decide
theorem Bh : Hq.lean := by
 refine Tree.fk.mk ⟨by decide, by decide, fun x hx => ?_⟩ fun x hx v hv u hu => ?_
 ·cases List.mem_singleton.1 hx; decide
 ·cases List.mem_singleton.1 hx
  cases List.mem_singleton.1 hv
  cases hu
theorem Ea : Hq.dj := by
 have h1 : ∀ x ∈ Hq.aU, ∀ v ∈ x.bT, v = .mk 5 [] [] := fun x hx v hv => by
  cases List.mem_singleton.1 hx
  exact List.mem_singleton.1 hv
 refine Tree.fk.mk ⟨by decide, by decide, fun x hx => ?_, fun x hx v hv => ?_, fun x hx v hv => ?_, fun x hx v hv => ?_, fun r hr => (List.not_mem_nil hr).elim, fun r hr => (List.not_mem_nil hr).elim⟩ fun x hx v hv u hu => ?_
 ·cases List.mem_singleton.1 hx; decide
 ·rw [h1 x hx v hv]; decide
 ·rw [h1 x hx v hv]; decide
 ·rw [h1 x hx v hv]; decide
 ·rw [h1 x hx v hv] at hu; cases hu
def Ht : AV := .agg [.sl [], .sl [.agg [.str [77], .sl [.agg [.str [97], .int .i64 1, .int .i64 1, .str [], .bool false, .bool false, .str []]], .sl []]]]
def Ho : AV := .agg [.sl [.agg [.int .i64 1, .sl [.agg [.int .u64 5, .str [], .sl []]]]], .sl []]
theorem Eb : AV.agg Hq.cells = Ho := by
 simp [Tree.cells, Hq, Tree.aU, Tree.rest, Slot.av, bS.av, iy, fq, Ho]
def KS (H : Hp) : Fm := .mk H.next 0 [[.mk 5 [] none]] [] true
def IB (H : Hp) : Hp := ((dD (Hs.headD cc) 0 false H).set H.next (dy [[.mk 5 [] none]])).set (H.next + 1) (lC 0 1 H.next [] false)
theorem KR (H : Hp) : loadT Hs false Hq H = .ok (KS H, IB H) := by kernel_rfl
theorem yF : Pure Tryz.prog 24 [Ht, .sl []] (.tup [cS Hs, .int .i64 0]) := oT (s := JA) (l := []) Ec (fun x hx => (List.not_mem_nil hx).elim) (by decide) xQ
theorem AR (H : Hp) : cT Tryz.prog 25 [cS Hs, .bool false, Ho] H (.tup [.op (H.next + 1) 0, .bool true]) (IB H) := by
 have h := jX.Di (GS Hs Hr Ed false Hq Bh Ea H) (KR H)
 rw [Eb] at h
 exact h
theorem Bj (H : Hp) : H.more (IB H) := ((((Hp.more.refl H).new _).new _).set (Nat.le_refl _) _).set (Nat.le_succ _) _
theorem vc (H : Hp) : (IB H).obj (H.next + 1) = some (lC 0 1 H.next [] false) := Hp.bq
theorem Bi (H : Hp) : (IB H).obj H.next = some (dy [[.mk 5 [] none]]) := by
 unfold IB; rw [Hp.rG (by omega)]; exact Hp.bq
theorem o5 : Pure Tryz.prog 7 [] (.bool true) := by
 have e0 : Ht = Ht := rfl
 refine fun H => (cT.kM Tryz.func7 rfl rfl (Nat.zero_le _) (.bool _) (aC.seq (aC.region (aB.run II 1 rfl (aB.nil (aC.seq (aC.region (aB.run II 7 rfl (aB.nil (aC.seq (aC.region (aB.run II 1 rfl (aB.c1 rfl (aG (aF rfl) Bc rfl yF) (aB.run II 6 rfl (aB.nil (aC.seq (aC.region (aB.run II 6 rfl ?_))))))))))))))))))
 refine aB.c2 rfl (cK (aF rfl) Hi rfl rfl (AR H)) (aB.run II 5 rfl (aB.nil (aC.seq (aC.region (aB.run II 3 rfl (aB.g1 rfl (aF rfl) rfl rfl (A4 (aF rfl) oV rfl rfl) (aB.run II 5 rfl (aB.g1 rfl (aF rfl) rfl rfl (bJ (aF rfl) jO rfl rfl (vc H) rfl) (aB.run II 7 rfl (aB.g1 rfl (aF rfl) rfl rfl (bJ (aF rfl) jO rfl rfl (vc H) rfl) (aB.g1 rfl (aF rfl) rfl rfl (bU (aF rfl) lA rfl rfl (by decide) (by decide)) (aB.g1 rfl (aF rfl) rfl rfl (bJ (aF rfl) kv rfl rfl (Bi H) rfl) (aB.run II 7 rfl ?_)))))))))))))
 exact aB.g1 rfl (aF rfl) rfl rfl (bJ (aF rfl) jO rfl rfl (vc H) rfl) (aB.g1 rfl (aF rfl) rfl rfl (bU (aF rfl) lA rfl rfl (by decide) (by decide)) (aB.g1 rfl (aF rfl) rfl rfl (bJ (aF rfl) kv rfl rfl (Bi H) rfl) (aB.g1 rfl (aF rfl) rfl rfl (aH (aF rfl) vT rfl rfl (by decide) rfl rfl) (aB.run II 5 rfl (aB.nil (aC.ret (⟨.inr rfl, (aE.r1 rfl (.tmp rfl .nil)).cast rfl, ⟨_, rfl, Bj H⟩⟩)))))))
/- ports that are the same -/
theorem tl : Tryz.prog.eqGuardType Tryz.prog.depth 96 = false := by kernel_rfl
theorem tQ (a b : Port) (w : World) : (binOp .neq 96 (.agg #[.string ⟨a.f.name.toArray⟩, .int .i64 a.f.num, .int .i64 a.f.ty, .string ⟨a.f.ref.toArray⟩, .bool a.f.rep, .bool a.f.loose, .string ⟨a.f.one.toArray⟩, .int .i64 a.reg, .int .i64 a.part]) (.agg #[.string ⟨b.f.name.toArray⟩, .int .i64 b.f.num, .int .i64 b.f.ty, .string ⟨b.f.ref.toArray⟩, .bool b.f.rep, .bool b.f.loose, .string ⟨b.f.one.toArray⟩, .int .i64 b.reg, .int .i64 b.part])).run Tryz.prog w = .ok (.bool (!decide (a = b))) w := by
 obtain ⟨⟨a0, a1, a2, a3, a4, a5, a6⟩, a7, a8⟩ := a
 obtain ⟨⟨b0, b1, b2, b3, b4, b5, b6⟩, b7, b8⟩ := b
 go_simp
 by_cases h0 : a0 = b0
 ·by_cases h1 : a1 = b1
  ·by_cases h2 : a2 = b2
   ·by_cases h3 : a3 = b3
    ·by_cases h4 : a4 = b4
     ·by_cases h5 : a5 = b5
      ·by_cases h6 : a6 = b6
       ·by_cases h7 : a7 = b7
        ·by_cases h8 : a8 = b8
         ·simp [h0, h1, h2, h3, h4, h5, h6, h7, h8, Int.natCast_inj]
         ·simp [h0, h1, h2, h3, h4, h5, h6, h7, h8, Int.natCast_inj]
        ·simp [h0, h1, h2, h3, h4, h5, h6, h7, Int.natCast_inj]
       ·simp [h0, h1, h2, h3, h4, h5, h6, Int.natCast_inj]
      ·simp [h0, h1, h2, h3, h4, h5, Int.natCast_inj]
     ·simp [h0, h1, h2, h3, h4, Int.natCast_inj]
    ·simp [h0, h1, h2, h3, Int.natCast_inj]
   ·simp [h0, h1, h2, Int.natCast_inj]
  ·simp [h0, h1, Int.natCast_inj]
 ·simp [h0, Int.natCast_inj]
theorem uP {G : Gh} {v : Value} {t : Port} (h : V G v (.agg t.cells)) : v = (.agg #[.string ⟨t.f.name.toArray⟩, .int .i64 t.f.num, .int .i64 t.f.ty, .string ⟨t.f.ref.toArray⟩, .bool t.f.rep, .bool t.f.loose, .string ⟨t.f.one.toArray⟩, .int .i64 t.reg, .int .i64 t.part]) := by
 unfold Port.cells at h
 cases h with
 | agg vs cs hl hf hv =>
  obtain ⟨l⟩ := vs
  match l, hl with
  | [x0, x1, x2, x3, x4, x5, x6, x7, x8], _ =>
   have h0 : V G x0 (.str t.f.name) := hv 0 _ rfl
   cases h0
   have h1 : V G x1 (.int .i64 t.f.num) := hv 1 _ rfl
   cases h1
   have h2 : V G x2 (.int .i64 t.f.ty) := hv 2 _ rfl
   cases h2
   have h3 : V G x3 (.str t.f.ref) := hv 3 _ rfl
   cases h3
   have h4 : V G x4 (.bool t.f.rep) := hv 4 _ rfl
   cases h4
   have h5 : V G x5 (.bool t.f.loose) := hv 5 _ rfl
   cases h5
   have h6 : V G x6 (.str t.f.one) := hv 6 _ rfl
   cases h6
   have h7 : V G x7 (.int .i64 t.reg) := hv 7 _ rfl
   cases h7
   have h8 : V G x8 (.int .i64 t.part) := hv 8 _ rfl
   cases h8
   rfl
theorem A3 {N : Nat} {s : St} {d : Nat} {ty : TypeId} {pos : String} {af : Array Edge} {g : Option (Nat × Bool)} {t2 : TypeId} {x y : Operand} {u v : AV} (a b : Port) (hN : d < N) (hx : cW x s = some u) (hy : cW y s = some v) (hu : u = .agg a.cells) (hv : v = .agg b.cells) :
  aa Tryz.prog N ⟨some d, .binOp .neq 96 x y t2, ty, pos, af, g⟩ s (rd x ++ rd y) [(.s d, .sv (.v (.bool (!decide (a = b)))))] := by
 subst hu hv
 exact aa.val rfl hN fun E G L c w tt hr hR => by
  refine ⟨.bool (!decide (a = b)), ?_, .bool _⟩
  have h1 := uP (aR hr hR.left hx)
  have h2 := uP (aR hr hR.right hy)
  have hgd := run_eqGuard_agg (P := Tryz.prog) w .neq 96 x y #[.string ⟨a.f.name.toArray⟩, .int .i64 a.f.num, .int .i64 a.f.ty, .string ⟨a.f.ref.toArray⟩, .bool a.f.rep, .bool a.f.loose, .string ⟨a.f.one.toArray⟩, .int .i64 a.reg, .int .i64 a.part] #[.string ⟨b.f.name.toArray⟩, .int .i64 b.f.num, .int .i64 b.f.ty, .string ⟨b.f.ref.toArray⟩, .bool b.f.rep, .bool b.f.loose, .string ⟨b.f.one.toArray⟩, .int .i64 b.reg, .int .i64 b.part] tl
  simp only [execOp, Sem.run_bind, h1, h2, hgd, Result.andThen_ok, tQ, Sem.run_pure]
theorem sh (l : List Port) (hl : l.length ≤ 1000000) : Pure Tryz.prog 11 [.sl (l.map Port.av), .sl (l.map Port.av)] (.bool true) := by
 refine Pure.aL Tryz.func11 rfl rfl (aF rfl) fun H => (aC.seq (aC.region (aB.run II 1 rfl (aB.nil (aC.seq (aC.seq (aC.region (aB.run II 5 rfl (aB.nil (aC.aZ rfl (by simp) (aC.skip (aC.seq (aC.seq (aC.region (aB.run II 1 rfl (aB.nil (aC.blk (aC.aK (Kept.aI [.s 5, .h, .s 0, .s 1] rfl (by decide) (Kept.now (aC.aX (fun (i : Nat) => [(.s 5, .sv (.v (.int .i64 (i : Int))))]) _ (fun (i : Nat) => True) (fun (i : Nat) => l.length - i) 0 rfl trivial ?_)))))))))))))))))))))
 rintro i hI
 refine aC.seq (aC.seq (aC.region (aB.run II 4 rfl (aB.nil (aC.cond rfl (fun hc1 => ?_) (fun hc1 => ?_))))))
 ·have hi := ch hc1
  refine aC.skip (aC.seq (aC.blk (aC.seq (aC.drawn mixed rfl (aD.run II 2 rfl (aD.c1 rfl (aH (aF rfl) cG rfl rfl (Int.natCast_nonneg _) (bz hi) rfl) (aD.run II 3 rfl (aD.c1 rfl (aH (aF rfl) cG rfl rfl (Int.natCast_nonneg _) (bz hi) rfl) (aD.run II 1 rfl (aD.c1 rfl (A3  (aF rfl) rfl rfl (a := (l[i]'hi)) (b := (l[i]'hi)) rfl rfl) (aD.nil (by kernel_rfl) (Kept.now (aC.aZ rfl (by simp) (aC.skip (aC.region (aB.run II 3 rfl ?_))))))))))))))))
  exact aB.kept (Kept.aY 5 rfl (inc (by omega)) (Kept.aI [.s 5, .h, .s 0, .s 1] rfl (by decide) (Kept.now ⟨i + 1, by omega, trivial, rfl⟩)))
 ·have hi := cj hc1
  exact aC.exit (aC.seq (aC.region (aB.run II 1 rfl (aB.nil (aC.ret ⟨.inr rfl, (aE.r1 rfl (.tmp rfl .nil)).cast rfl, rfl⟩)))))
end Go.Proofs.YtlijgcifhhcfaaaGreatDoor.X
