/- ports sorted where they lie -/
import Derived.Test.YtlijgcifhhcfaaaGreatDoorZCI
import Derived.Test.YtlijgcifhhcfaaaGreatDoorZCH
import Derived.Test.YtlijgcifhhcfaaaGreatDoorZCC
set_option linter.unusedVariables false
set_option linter.unusedSimpArgs false
set_option linter.unusedSectionVars false
set_option maxRecDepth 100000
namespace Go.Proofs.YtlijgcifhhcfaaaGreatDoor.X
open Go Go.RowKit Go.Proofs
theorem yM : aa Tryz.prog 140 = true := by kernel_rfl
theorem C3 : aa Tryz.prog 95 = true := by kernel_rfl
theorem C2 : aa Tryz.prog 96 = true := by kernel_rfl
theorem xd (n : Nat) (hn : n ≤ 12) : Pure Tryz.prog 96 [.int .u64 (IntKind.u64.wrap (n : Int))] (.int .i64 (IW n)) := by
 rw [Kh n hn]; exact HM n hn
def m7 (x y : Port) : Bool := decide (uo x.f.num y.f.num < 0)
def gD (ys : List Port) (j : Nat) : Port := ys.getD j hZ
def sG (ys : List Port) (j : Nat) : List Port := (ys.set (j + 1) (gD ys j)).set j (gD ys (j + 1))
def fR : Nat → List Port → List Port
 | 0, ys => ys
 | j + 1, ys => if m7 (gD ys (j + 1)) (gD ys j) then fR j (sG ys j) else ys
def jE : Nat → Nat → List Port → List Port
 | 0, _, ys => ys
 | k + 1, i, ys => jE k (i + 1) (fR i ys)
def cW (xs : List Port) : List Port := jE (xs.length - 1) 1 xs
theorem sF (ys : List Port) (j : Nat) : (sG ys j).length = ys.length := by unfold sG; simp
theorem pA : ∀ (j : Nat) (ys : List Port), (fR j ys).length = ys.length
 | 0, ys => rfl
 | j + 1, ys => by
  unfold fR
  split
  ·rw [pA j, sF]
  ·rfl
theorem pR {ys : List Port} : ∀ e ∈ ys.map Port.av, e.cells.length = 9 := fun e he => by
 obtain ⟨p, _, rfl⟩ := List.mem_map.1 he; rfl
theorem HX {ys : List Port} {i : Nat} {p : Port} : ∀ e ∈ (ys.map Port.av).set i (.agg p.cells), e.cells.length = 9 := fun e he => by
 rcases List.mem_or_eq_of_mem_set he with h | rfl
 ·exact pR e h
 ·rfl
theorem yb {ys : List Port} {j : Nat} (h : j < ys.length) : (ys.map Port.av)[j]? = some (.agg (gD ys j).cells) := by
 unfold gD
 rw [List.getElem?_map, List.getD_eq_getElem?_getD, List.getElem?_eq_getElem h]; rfl
theorem wj {j : Nat} (h : 0 < j) (h2 : j ≤ 1000) : IntKind.i64.wrap ((j : Int) - 1) = ((j - 1 : Nat) : Int) := by
 rw [eL (by omega) (by omega)]; omega
theorem tT {j : Nat} (h : decide ((j : Int) > 0) = true) : 0 < j := by have := of_decide_eq_true h; omega
theorem Lb {j : Nat} (h : decide ((j : Int) > 0) = false) : j = 0 := by have := of_decide_eq_false h; omega
theorem q9 {ys : List Port} {j : Nat} (h : j < ys.length) : (ys.map Port.av)[((j : Nat) : Int).toNat]? = some (.agg (gD ys j).cells) := by rw [Int.toNat_natCast]; exact yb h
theorem vH {ys : List Port} {j : Nat} (h0 : 0 < j) (h : j < ys.length) (h2 : ys.length ≤ 1000) : (ys.map Port.av)[(IntKind.i64.wrap ((j : Int) - 1)).toNat]? = some (.agg (gD ys (j - 1)).cells) := by
 rw [wj h0 (by omega), Int.toNat_natCast]; exact yb (by omega)
theorem Gv {zs : List Port} {j : Nat} (h0 : 0 < j) (h2 : j ≤ 1000) : (((zs.map Port.av).set (((j : Nat) : Int).toNat) (.agg (gD zs (j - 1)).cells)).set (IntKind.i64.wrap ((j : Int) - 1)).toNat (.agg (gD zs j).cells)) = (sG zs (j - 1)).map Port.av := by
 rw [wj h0 h2, Int.toNat_natCast, Int.toNat_natCast]
 unfold sG
 rw [List.map_set, List.map_set, show j - 1 + 1 = j by omega]; rfl
theorem Dw {j : Nat} {zs : List Port} (h : 0 < j) (hl : m7 (gD zs j) (gD zs (j - 1)) = true) : fR j zs = fR (j - 1) (sG zs (j - 1)) := by
 obtain ⟨k, rfl⟩ : ∃ k, j = k + 1 := ⟨j - 1, by omega⟩
 have hl' : m7 (gD zs (k + 1)) (gD zs k) = true := hl
 rw [fR, if_pos hl']; rfl
theorem Du {j : Nat} {zs : List Port} (h : 0 < j) (hl : m7 (gD zs j) (gD zs (j - 1)) = false) : fR j zs = zs := by
 obtain ⟨k, rfl⟩ : ∃ k, j = k + 1 := ⟨j - 1, by omega⟩
 have hl' : m7 (gD zs (k + 1)) (gD zs k) = false := hl
 rw [fR, hl']; rfl
theorem x4 {n i : Nat} {ys : List Port} (h : i < n) : jE (n - i) i ys = jE (n - (i + 1)) (i + 1) (fR i ys) := by
 rw [show n - i = (n - (i + 1)) + 1 by omega]; rfl
theorem As {n i : Nat} {ys : List Port} (h : n ≤ i) : jE (n - i) i ys = ys := by
 rw [show n - i = 0 by omega]; rfl
theorem LM {v w : CV} {rest : List (aM × CV)} {H : Hp} {id : Nat} {A B : List Hc} {C D : List AV} (hv : v = w) (h : C = D) : ((aM.s 9, v) :: (aM.h, CV.hp (((H.set id A).set id B).set id (bC C))) :: rest) = [(aM.s 9, w), (aM.h, CV.hp (H.set id (bC D)))] ++ rest := by rw [Hp.set_set, Hp.set_set, h, hv]; rfl
theorem Ek (xs : List Port) (hx : xs.length ≤ 12) (H : Hp) (id : Nat) : cc Tryz.prog 140 [.os id xs.length 9, .int .i64 0, .int .i64 xs.length, .fn 53 []] (H.set id (bC (xs.map Port.av))) (.tup []) (H.set id (bC ((cW xs).map Port.av))) := by
 refine cc.aL Tryz.func140 rfl rfl (aF rfl) (aC.seq (aC.region (aB.run II 3 rfl (aB.nil (aC.blk (aC.aK (Kept.aJ [.s 8, .h, .s 0, .s 1, .s 2, .s 3] rfl (by decide) (Kept.now (aC.aX (fun ((i, ys) : Nat × List Port) => [(.s 8, .sv (.v (.int .i64 (i : Int)))), (.h, .hp (H.set id (bC (ys.map Port.av))))]) _ (fun ((i, ys) : Nat × List Port) => jE (xs.length - i) i ys = cW xs ∧ ys.length = xs.length ∧ 1 ≤ i) (fun ((i, ys) : Nat × List Port) => xs.length - i) (1, xs) rfl ⟨rfl, rfl, Nat.le_refl _⟩ ?_)))))))))
 rintro ⟨i, ys⟩ hI
 refine aC.seq (aC.seq (aC.region (aB.run II 3 rfl (aB.nil (aC.cond rfl (fun hc1 => ?_) (fun hc1 => ?_))))))
 ·have hi := Jy hc1
  refine aC.skip (aC.seq (aC.blk (aC.seq (aC.region (aB.run II 2 rfl (aB.nil (aC.blk (aC.aK (Kept.aJ [.s 9, .h, .s 0, .s 1, .s 2, .s 3, .s 8] rfl (by decide) (Kept.now (aC.aX (fun ((j, zs) : Nat × List Port) => [(.s 9, .sv (.v (.int .i64 (j : Int)))), (.h, .hp (H.set id (bC (zs.map Port.av))))]) _ (fun ((j, zs) : Nat × List Port) => fR j zs = fR i ys ∧ zs.length = xs.length ∧ j < xs.length) (fun ((j, zs) : Nat × List Port) => j) (i, ys) rfl ⟨rfl, hI.2.1, hi⟩ ?_)))))))))))
  rintro ⟨j, zs⟩ hJ
  dsimp only at hI hJ
  refine aC.seq (aC.seq (aC.drawn mixed rfl (aD.run II 4 rfl (aD.tell (d := 21) rfl (fun hg2 => ?_) (fun hg2 => ?_)))))
  ·refine aD.run II 3 rfl (aD.g1 rfl (aF rfl) rfl rfl (bV (aF rfl) c9 rfl rfl (Int.natCast_nonneg _) (by have := hJ.2.2; omega)) ?_)
   refine aD.g1 rfl (aF rfl) rfl rfl (ja (aF rfl) iF rfl rfl Hp.bk pR rfl (q9 (by rw [hJ.2.1]; exact hJ.2.2))) ?_
   refine aD.run II 3 rfl (aD.g1 rfl (aF rfl) rfl rfl (bV (aF rfl) c9 rfl rfl (by rw [wj (tT hg2) (by have := hJ.2.2; omega)]; omega) (by rw [wj (tT hg2) (by have := hJ.2.2; omega)]; have := hJ.2.2; omega)) ?_)
   refine aD.g1 rfl (aF rfl) rfl rfl (ja (aF rfl) iF rfl rfl Hp.bk pR rfl (vH (tT hg2) (by rw [hJ.2.1]; exact hJ.2.2) (by rw [hJ.2.1]; omega))) ?_
   refine aD.g1 rfl (aF rfl) rfl rfl (mX (aF rfl) (by kernel_rfl) rfl rfl (HU (gD zs j) (gD zs (j - 1)))) (aD.run II 2 rfl (aD.nil (by kernel_rfl) (Kept.now (aC.cond rfl (fun hc3 => ?_) (fun hc3 => ?_)))))
   ·refine aC.skip (aC.seq (aC.blk (aC.drawn mixed rfl (aD.run II 8 rfl (aD.c1 rfl (bV (aF rfl) c9 rfl rfl (by rw [wj (tT hg2) (by have := hJ.2.2; omega)]; omega) (by rw [wj (tT hg2) (by have := hJ.2.2; omega)]; have := hJ.2.2; omega)) ?_)))))
    refine aD.c1 rfl (ja (aF rfl) iF rfl rfl Hp.bk pR rfl (vH (tT hg2) (by rw [hJ.2.1]; exact hJ.2.2) (by rw [hJ.2.1]; omega))) ?_
    refine aD.run II 2 rfl (aD.c1 rfl (bV (aF rfl) c9 rfl rfl (Int.natCast_nonneg _) (by have := hJ.2.2; omega)) ?_)
    refine aD.c1 rfl (ja (aF rfl) iF rfl rfl Hp.bk pR rfl (q9 (by rw [hJ.2.1]; exact hJ.2.2))) ?_
    refine aD.c1 rfl (bV (aF rfl) c9 rfl rfl (Int.natCast_nonneg _) (by have := hJ.2.2; omega)) ?_
    refine aD.c1 rfl (lW iF rfl rfl Hp.bk rfl pR rfl (by rw [List.length_map, Int.toNat_natCast, hJ.2.1]; exact hJ.2.2) rfl) ?_
    refine aD.c1 rfl (bV (aF rfl) c9 rfl rfl (by rw [wj (tT hg2) (by have := hJ.2.2; omega)]; omega) (by rw [wj (tT hg2) (by have := hJ.2.2; omega)]; have := hJ.2.2; omega)) ?_
    refine aD.c1 rfl (lW iF rfl rfl Hp.bk rfl HX rfl (by rw [List.length_set, List.length_map, wj (tT hg2) (by have := hJ.2.2; omega), Int.toNat_natCast, hJ.2.1]; have := hJ.2.2; omega) rfl) ?_
    exact aD.nil (by kernel_rfl) (Kept.now (aC.region (aB.run II 3 rfl (aB.kept (Kept.aJ [.s 9, .h, .s 0, .s 1, .s 2, .s 3, .s 8] rfl (by decide) (Kept.now (⟨(j - 1, sG zs (j - 1)), by have := tT hg2; dsimp only; omega, ⟨(Dw (tT hg2) hc3).symm.trans hJ.1, (sF _ _).trans hJ.2.1, by have := hJ.2.2; omega⟩, LM (by rw [wj (tT hg2) (by have := hJ.2.2; omega)]) (Gv (tT hg2) (by have := hJ.2.2; omega))⟩)))))))
   ·exact aC.exit (aC.region (aB.run II 3 rfl (aB.kept (Kept.aY 8 rfl (inc (by omega)) (Kept.aJ [.s 8, .h, .s 0, .s 1, .s 2, .s 3] rfl (by decide) (Kept.now (⟨(i + 1, zs), by dsimp only; omega, ⟨(by rw [← (Du (tT hg2) hc3 : fR j zs = zs), hJ.1, ← x4 hi]; exact hI.1), hJ.2.1, by omega⟩, rfl⟩)))))))
  ·exact aD.run II 13 rfl (aD.nil (by kernel_rfl) (Kept.now (aC.aZ rfl rfl (aC.exit (aC.region (aB.run II 3 rfl (aB.kept (Kept.aY 8 rfl (inc (by omega)) (Kept.aJ [.s 8, .h, .s 0, .s 1, .s 2, .s 3] rfl (by decide) (Kept.now (⟨(i + 1, zs), by dsimp only; omega, ⟨(by have e : fR j zs = zs := (by rw [Lb hg2]; rfl); rw [← e, hJ.1, ← x4 hi]; exact hI.1), hJ.2.1, by omega⟩, rfl⟩)))))))))))
 ·have hi := CT hc1
  exact aC.exit ⟨.inl rfl, (aE.r0 rfl ).cast rfl, (by dsimp only at hI; rw [← hI.1, As hi]; rfl)⟩
theorem Jk (xs : List Port) (hx : xs.length ≤ 12) (H : Hp) (id : Nat) (m : Int) : cc Tryz.prog 95 [.os id xs.length 9, .int .i64 0, .int .i64 xs.length, .int .i64 m, .fn 53 []] (H.set id (bC (xs.map Port.av))) (.tup []) (H.set id (bC ((cW xs).map Port.av))) := by
 refine cc.aL Tryz.func95 rfl rfl (aF rfl) (aC.seq (aC.region (aB.run II 1 rfl (aB.nil (aC.seq (aC.region (aB.run II 1 rfl (aB.nil (aC.blk (aC.aK (Kept.aJ [.h, .s 0, .s 1, .s 2, .s 3, .s 4, .s 10, .s 11] rfl (by decide) (Kept.now (aC.aX (fun (u : Unit) => []) _ (fun (u : Unit) => True) (fun (u : Unit) => 0) () rfl trivial ?_)))))))))))))
 rintro u hu
 refine aC.blk (aC.seq (aC.region (aB.run II 4 rfl (aB.nil (aC.seq (aC.seq (aC.region (aB.run II 2 rfl (aB.nil (aC.az rfl (decide_eq_true (by rw [eL (by omega) (by omega)]; omega)) ?_))))))))))
 exact aC.seq (aC.region (aB.run II 4 rfl (aB.c2 rfl (cO (aF rfl) yM rfl rfl (Ek xs hx H id)) (aB.nil (aC.ret ⟨.inr rfl, (aE.r0 rfl ).cast rfl, rfl⟩)))))
theorem Eb (xs : List Port) (hx : xs.length ≤ 12) (H : Hp) (id : Nat) : cc Tryz.prog 52 [.os id xs.length 9, .fn 53 []] (H.set id (bC (xs.map Port.av))) (.tup []) (H.set id (bC ((cW xs).map Port.av))) := by
 exact cc.aL Tryz.func52 rfl rfl (aF rfl) (aC.seq (aC.region (aB.run II 3 rfl (aB.nil (aC.region (aB.run II 4 rfl (aB.c1 rfl (aG (aF rfl) C2 rfl (xd xs.length hx)) (aB.run II 1 rfl (aB.c2 rfl (cO (aF rfl) C3 rfl rfl (Jk xs hx H id _)) (aB.nil ⟨.inl rfl, (aE.r0 rfl ).cast rfl, rfl⟩))))))))))
/- ports by rising numbers -/
theorem Cc : aa Tryz.prog 52 = true := by kernel_rfl
theorem uh : fo Tryz.prog 51 1 = some 1 := by kernel_rfl
theorem ug : fo Tryz.prog 96 1 = some 7 := by kernel_rfl
theorem wP : lk Tryz.prog 42 = some (false, 1) := by kernel_rfl
theorem Gk : Tryz.prog.underlying 86 = some (TypeDesc.slice 88) := Tryz.underlying86
theorem Ec (xs : List Port) (hx : xs.length ≤ 12) (H : Hp) (id : Nat) (h : H.obj id = some (bC (xs.map Port.av))) : cc Tryz.prog 52 [.os id xs.length 9, .fn 53 []] H (.tup []) (H.set id (bC ((cW xs).map Port.av))) := by
 have := Eb xs hx H id
 rwa [Hp.Aw h] at this
def en (l : AV) (p : AV) (H : Hp) : Hp := (H.new [.v l]).new [.v p]
theorem Hk (pid n fid off : Nat) (H : Hp) : cc Tryz.prog 34 [.os pid n 9, .op fid off] H (.fn 51 [.op H.next 0, .op (H.next + 1) 0]) (en (.os pid n 9) (.op fid off) H) := by
 exact cc.aL Tryz.func34 rfl rfl (aF rfl) (aC.seq (aC.region (aB.run II 3 rfl (aB.kept (Kept.qi 2 rfl rfl (Kept.op 2 rfl rfl (Kept.cls 2 rfl rfl rfl rfl (Kept.qi 3 rfl rfl (Kept.op 3 rfl rfl (Kept.cls 3 rfl rfl rfl rfl (Kept.now (aC.seq (aC.region (aB.c1 rfl (lX (aF rfl) rfl) (aB.run II 1 rfl (aB.nil (aC.ret ⟨.inr rfl, (aE.r1 rfl (.tmp rfl .nil)).cast rfl, rfl⟩)))))))))))))))))
theorem Ej (xs : List AV) (fid off : Nat) (H : Hp) : cc Tryz.prog 34 [.sl xs, .op fid off] H (.fn 51 [.op H.next 0, .op (H.next + 1) 0]) (en (.sl xs) (.op fid off) H) := by
 exact cc.aL Tryz.func34 rfl rfl (aF rfl) (aC.seq (aC.region (aB.run II 3 rfl (aB.kept (Kept.qi 2 rfl rfl (Kept.op 2 rfl rfl (Kept.cls 2 rfl rfl rfl rfl (Kept.qi 3 rfl rfl (Kept.op 3 rfl rfl (Kept.cls 3 rfl rfl rfl rfl (Kept.now (aC.seq (aC.region (aB.c1 rfl (lX (aF rfl) rfl) (aB.run II 1 rfl (aB.nil (aC.ret ⟨.inr rfl, (aE.r1 rfl (.tmp rfl .nil)).cast rfl, rfl⟩)))))))))))))))))
theorem rE : ∀ (k i : Nat) (ys : List Port), (jE k i ys).length = ys.length
 | 0, _, _ => rfl
 | k + 1, i, ys => by rw [jE, rE k, pA]
theorem fw (xs : List Port) : (cW xs).length = xs.length := rE _ _ _
def Fm.row (f : Fm) (r : Int) : List cA := f.aI.getD r.toNat []
theorem vp {f : Fm} {r : Int} (h0 : 0 ≤ r) (h : r < f.aI.length) : vQ false 1 (((dT f.aI).map fun c => Sv.v (qn c)).drop (r.toNat * 1)) = some (.v (iJ (f.row r))) := by
 have hi : r.toNat < f.aI.length := by omega
 have := x7 hi
 rw [Int.toNat_natCast] at this
 rw [this]
 unfold Fm.row
 rw [List.getD_eq_getElem?_getD, List.getElem?_eq_getElem hi]; rfl
def Gg (f : Fm) (zs : List Port) (K : Nat → Hp) : List (List AV × Hp × Hp) :=
 (List.range zs.length).filterMap fun i => if f.row (gD zs i).reg = [] then none else some ([(gD zs i).av, iJ (f.row (gD zs i).reg)], K i, K (i + 1))
theorem A7 {f : Fm} {zs : List Port} {K : Nat → Hp} {i : Nat} (hi : i < zs.length) (h : f.row (gD zs i).reg ≠ []) : ([(gD zs i).av, iJ (f.row (gD zs i).reg)], K i, K (i + 1)) ∈ Gg f zs K :=
 List.mem_filterMap.2 ⟨i, List.mem_range.2 hi, by rw [if_neg h]⟩
theorem Gy {l : List cA} (h : decide (((l.map cA.av).length : Int) > 0) = true) : l ≠ [] := fun e => by subst e; simp at h
theorem HA {l : List cA} (h : decide (((l.map cA.av).length : Int) > 0) = false) : l = [] := by
 cases l with
 | nil => rfl
 | cons a l => exact absurd h (by simp)
theorem kB {v : CV} {A B : Hp} {rest : List (aM × CV)} (h : A = B) : ((aM.s 10, v) :: (aM.h, CV.hp A) :: rest) = [(aM.s 10, v), (aM.h, CV.hp B)] ++ rest := by rw [h]; rfl
theorem FR (xs : List Port) (hx : xs.length ≤ 12) (f : Fm) (A B pid : Nat) (H0 : Hp) (K : Nat → Hp) (hp : H0.obj pid = some (bC (xs.map Port.av))) (hA0 : H0.obj A = some [.v (.os pid xs.length 9)]) (hK0 : K 0 = H0.set pid (bC ((cW xs).map Port.av)))
  (hA : ∀ i, i ≤ xs.length → (K i).obj A = some [.v (.os pid xs.length 9)]) (hB : ∀ i, i ≤ xs.length → (K i).obj B = some [.v f.ptr]) (hF : ∀ i, i ≤ xs.length → (K i).obj (f.r + 1) = some f.uY) (hR : ∀ i, i ≤ xs.length → (K i).obj f.r = some (dT f.aI))
  (hP : ∀ i, i ≤ xs.length → (K i).obj pid = some (bC ((cW xs).map Port.av))) (hreg : ∀ i, i < xs.length → 0 ≤ (gD (cW xs) i).reg ∧ (gD (cW xs) i).reg < f.aI.length) (hK : ∀ i, i < xs.length → f.row (gD (cW xs) i).reg = [] → K i = K (i + 1)) :
  kb Tryz.prog 51 [.op A 0, .op B 0] H0 (Gg f (cW xs) K) (K xs.length) := by
 refine kb.aL Tryz.func51 rfl rfl (gI rfl) rfl fun E l hY => (ar.seq (ar.region (aB.c1 rfl (bR (aF rfl) l8 rfl rfl hA0 rfl) (aB.c2 rfl (cO (aF rfl) Cc rfl rfl (Ec xs hx H0 pid hp)) (aB.nil (ar.seq (ar.region (aB.c1 rfl (bR (aF rfl) l8 rfl rfl (by rw [← hK0]; exact hA 0 (Nat.zero_le _)) rfl) ?_))))))))
 refine aB.run II 2 rfl (aB.nil (ar.blk (ar.aK (Kept.aJ [.s 10, .h, .s 0, .s 2, .s 8, .s 9] rfl (by decide) (Kept.now ?_)))))
 rw [← hK0]
 refine ar.aX (fun (i : Nat) => [(.s 10, .sv (.v (.int .i64 (i : Int)))), (.h, .hp (K i))]) _ (fun (i : Nat) => i ≤ xs.length) (fun (i : Nat) => xs.length - i) 0 rfl (Nat.zero_le _) ?_
 rintro i hI
 refine ar.seq (ar.region (aB.run II 1 rfl (aB.nil (ar.seq (ar.cond rfl (fun hc1 => ?_) (fun hc1 => ?_))))))
 ·have hi := Jy hc1
  refine ar.skip (ar.seq (ar.blk (ar.seq (ar.region (aB.c1 rfl (bV (aF rfl) c9 rfl rfl (Int.natCast_nonneg _) (by omega)) (aB.c1 rfl (ja (aF rfl) iF rfl rfl (hP i hI) pR rfl (q9 (by rw [fw]; exact hi))) ?_))))))
  refine aB.run II 2 rfl (aB.nil (ar.seq (ar.drawn mixed rfl (bQ.c1 rfl (bR (aF rfl) wP rfl rfl (hB i hI) rfl) (bQ.c1 rfl (oP (aF rfl) rfl) (bQ.c1 rfl (sf (aF rfl) uh rfl) (bQ.c1 rfl (bR (aF rfl) kO rfl rfl (hF i hI) rfl) (bQ.c1 rfl (sd (aF rfl) ug rfl) (bQ.c1 rfl (lY (aF rfl) kP rfl rfl rfl) (bQ.c1 rfl (bV (aF rfl) ld rfl rfl (hreg i hi).1 (hreg i hi).2) (bQ.c1 rfl (bR (aF rfl) l7 rfl rfl (hR i hI) (vp (hreg i hi).1 (hreg i hi).2)) ?_)))))))))))
  refine bQ.c1 rfl (mW (aF rfl) Gk rfl) (bQ.c1 rfl (db (aF rfl) rfl rfl rfl) (bQ.c1 rfl (eQ (aF rfl) rfl) (bQ.split (d := 24) rfl (fun hg2 => ?_) (fun hg2 => ?_))))
  ·refine bQ.g1 rfl (aF rfl) rfl hg2 (eQ (aF rfl) rfl) (bQ.g1 rfl (aF rfl) rfl hg2 (lY (aF rfl) iF rfl rfl rfl) (bQ.g1 rfl (aF rfl) rfl hg2 (bR (aF rfl) wP rfl rfl (hB i hI) rfl) (bQ.g1 rfl (aF rfl) rfl hg2 (oP (aF rfl) rfl) (bQ.g1 rfl (aF rfl) rfl hg2 (sf (aF rfl) uh rfl) (bQ.g1 rfl (aF rfl) rfl hg2 (bR (aF rfl) kO rfl rfl (hF i hI) rfl) (bQ.g1 rfl (aF rfl) rfl hg2 (sd (aF rfl) ug rfl) (bQ.g1 rfl (aF rfl) rfl hg2 (lY (aF rfl) kP rfl rfl rfl) (bQ.g1 rfl (aF rfl) rfl hg2 (bV (aF rfl) ld rfl rfl (hreg i hi).1 (hreg i hi).2) (bQ.g1 rfl (aF rfl) rfl hg2 (bR (aF rfl) l7 rfl rfl (hR i hI) (vp (hreg i hi).1 (hreg i hi).2)) (bQ.h2 rfl (aF rfl) rfl hg2 (B6 (aF rfl) rfl rfl rfl (hY _ (A7 (by rw [fw]; exact hi) (Gy hg2)))) ?_))))))))))
   exact bQ.g1 rfl (aF rfl) rfl hg2 (pW (aF rfl) rfl rfl) (bQ.c1 rfl (cf (aF rfl) rfl hg2 rfl) (bQ.nil (by kernel_rfl) (Kept.now (ar.aZ rfl rfl (ar.skip (ar.region (aB.run II 2 rfl (aB.kept (Kept.aY 10 rfl (inc (by omega)) (Kept.aJ [.s 10, .h, .s 0, .s 2, .s 8, .s 9] rfl (by decide) (Kept.now ⟨i + 1, by omega, by omega, rfl⟩)))))))))))
  ·iterate 12 (refine bQ.gw rfl rfl (aF rfl) (aF rfl) rfl hg2 ?_)
   exact bQ.c1 rfl (cg (aF rfl) rfl hg2 rfl) (bQ.nil (by kernel_rfl) (Kept.now (ar.aZ rfl rfl (ar.skip (ar.region (aB.run II 2 rfl (aB.kept (Kept.aY 10 rfl (inc (by omega)) (Kept.aJ [.s 10, .h, .s 0, .s 2, .s 8, .s 9] rfl (by decide) (Kept.now ⟨i + 1, by omega, by omega, kB (hK i hi (HA hg2))⟩))))))))))
 ·have hi := CT hc1
  refine ar.exit ?_
  have e : i = xs.length := Nat.le_antisymm hI hi
  subst e
  exact ⟨.inl rfl, rfl⟩
/- what is in registers, as a tree -/
def gy (rows : List AV) (H : Hp) : Hp := ((H.new (bC [])).del H.next).new (bC rows)
theorem uQ (l : List Port) (hl : l.length ≤ 1000000) (hne : l ≠ []) (H : Hp) : cc Tryz.prog 30 [.sl (l.map Port.av)] H (.os (H.next + 1) l.length 9) (gy (l.map Port.av) H) := by
 refine cc.aL Tryz.func30 rfl rfl (aF rfl) (aC.seq (aC.region (aB.run II 1 rfl (aB.nil (aC.seq (aC.seq (aC.region (aB.run II 1 rfl (aB.Cs (aF rfl) Tryz.underlying44 rfl (fun b hb => (aB.nil (aC.cond (b := b) rfl (fun hc1 => ?_) (fun hc1 => ?_)))))))))))))
 ·exact aC.seq (aC.region (aB.run II 1 rfl (aB.nil (aC.ret (absurd (List.map_eq_nil_iff.1 (hb hc1)) hne)))))
 ·refine aC.skip (aC.seq (aC.region (aB.c3 rfl (mV («as» := []) (aF rfl) dZ gS rfl rfl rfl (gI rfl) rfl rfl) (aB.run II 1 rfl (aB.c3 rfl (lZ (aF rfl) dZ gS rfl rfl Hp.bk (fun e he => by cases he) rfl rfl (bn Port.cells (fun _ => rfl) _) rfl (by rw [List.length_map]; omega) (by rw [List.length_map]; omega)) ?_)))))
  exact aB.run II 1 rfl (aB.nil (aC.ret ⟨.inr rfl, (aE.r1 rfl (.tmp rfl .nil)).cast (by rw [List.length_map, Nat.zero_add]; rfl), rfl⟩))
theorem BX (ps : List ak) (bh : Bool) (k : Nat) (q : ak) (hq : ps[k]? = some q) (hb : (q.side bh).length ≤ 1000000) (hne : q.side bh ≠ []) (H : Hp) : cc Tryz.prog 12 [cH ps, .bool bh, .int .i64 k] H (.os (H.next + 1) (q.side bh).length 9) (gy ((q.side bh).map Port.av) H) := by
 have e0 : cH ps = .agg [.sl (ps.map ak.av)] := rfl
 refine cc.aL Tryz.func12 rfl rfl (aF rfl) (aC.seq (aC.region (aB.run II 2 rfl (aB.nil (aC.seq (aC.seq (aC.region (aB.run II 1 rfl (aB.nil (aC.cond rfl (fun hc1 => ?_) (fun hc1 => ?_)))))))))))
 ·refine aC.seq (aC.region (aB.run II 3 rfl (aB.c1 rfl (aH (aF rfl) eN rfl rfl (Int.natCast_nonneg _) (pP hq) rfl) (aB.run II 2 rfl (aB.c2 rfl (cO (aF rfl) tC rfl rfl (uQ _ (by cases bh <;> first | exact hb | cases hc1) (by cases bh <;> first | exact hne | cases hc1) _)) ?_)))))
  exact aB.run II 1 rfl (aB.nil (aC.ret ⟨.inr rfl, (aE.r1 rfl (.tmp rfl .nil)).cast (by cases bh <;> first | rfl | cases hc1), (by cases bh <;> first | rfl | cases hc1)⟩))
 ·refine aC.skip (aC.seq (aC.region (aB.run II 3 rfl (aB.c1 rfl (aH (aF rfl) eN rfl rfl (Int.natCast_nonneg _) (pP hq) rfl) (aB.run II 2 rfl (aB.c2 rfl (cO (aF rfl) tC rfl rfl (uQ _ (by cases bh <;> first | exact hb | cases hc1) (by cases bh <;> first | exact hne | cases hc1) _)) ?_))))))
  exact aB.run II 1 rfl (aB.nil (aC.ret ⟨.inr rfl, (aE.r1 rfl (.tmp rfl .nil)).cast (by cases bh <;> first | rfl | cases hc1), (by cases bh <;> first | rfl | cases hc1)⟩))
/- Plain laws: the objects between the rounds of frame.Tree. No condition. -/
theorem DJ {K : Hp} {o : AV} {cs : List Hc} : (jW K o cs).obj K.next = some cs := by
 unfold jW; split <;> simp [Hp.new, Hp.set, Hp.del]
def lJ (TR : Fm → Tree) (c : cA) : bD := .mk c.n c.s (match c.f with | none => [] | some g => [TR g])
def lE (TR : Fm → Tree) (f : Fm) (x : Port) : Slot := .mk x.f.num ((f.row x.reg).map (lJ TR))
structure TK where
 H : Hp
 o : AV
 xs : List AV
def TK.step (T0 : Nat) (rest : AV) (TR : Fm → Tree) (f : Fm) (x : Port) (k : TK) : TK :=
 if f.row x.reg = [] then k else
  ⟨(jW k.H k.o (bC (k.xs ++ [(lE TR f x).av]))).set T0 [.v (.os k.H.next (k.xs.length + 1) 2), .v rest], .os k.H.next (k.xs.length + 1) 2, k.xs ++ [(lE TR f x).av]⟩
def yu (T0 : Nat) (rest : AV) (TR : Fm → Tree) (f : Fm) (zs : List Port) (k0 : TK) : Nat → TK
 | 0 => k0
 | i + 1 => (yu T0 rest TR f zs k0 i).step T0 rest TR f (gD zs i)
structure GK (n T0 : Nat) (rest : AV) (K0 : Hp) (k : TK) : Prop where
 nx : n ≤ k.H.next
 low : ∀ id, id < n → id ≠ T0 → k.H.obj id = K0.obj id
 t : k.H.obj T0 = some [.v k.o, .v rest]
 ops : fK k.H k.o 2 k.xs
 ne : ∀ id m e, k.o = .os id m e → n ≤ id
 es : ∀ e ∈ k.xs, e.cells.length = 2
theorem GK.step {n T0 : Nat} {rest : AV} {K0 : Hp} {k : TK} (h : GK n T0 rest K0 k) (hT : T0 < n) (TR : Fm → Tree) (f : Fm) (x : Port) : GK n T0 rest K0 (k.step T0 rest TR f x) := by
 unfold TK.step
 split
 ·exact h
 ·have hn := h.nx
  refine ⟨by show n ≤ (jW _ _ _).next; rw [kz]; omega, fun id h1 h2 => ?_, Hp.bk, .inr ⟨k.H.next, ?_, ?_⟩, fun id m e he => ?_, fun e he => ?_⟩
  ·show (Hp.set _ _ _).obj id = _
   simp only [Hp.set, if_neg h2]
   rw [k7 (by omega) (fun m e he => by have := h.ne id m e he; omega)]
   exact h.low id h1 h2
  ·show AV.os _ _ _ = AV.os _ _ _
   rw [List.length_append]; rfl
  ·show (Hp.set _ _ _).obj _ = _
   have : k.H.next ≠ T0 := by omega
   simp only [Hp.set, if_neg this]
   exact DJ
  ·cases he; exact hn
  ·rcases List.mem_append.1 he with h1 | h1
   ·exact h.es e h1
   ·simp only [List.mem_singleton] at h1
    subst h1
    unfold lE
    rw [Slot.au]; rfl
theorem GK.at {n T0 : Nat} {rest : AV} {K0 : Hp} {k0 : TK} (h : GK n T0 rest K0 k0) (hT : T0 < n) (TR : Fm → Tree) (f : Fm) (zs : List Port) : ∀ i, GK n T0 rest K0 (yu T0 rest TR f zs k0 i)
 | 0 => h
 | i + 1 => (GK.at h hT TR f zs i).step hT TR f _
theorem Ai {T0 : Nat} {rest : AV} {TR : Fm → Tree} {f : Fm} {zs : List Port} {k0 : TK} : ∀ i, i ≤ zs.length → (yu T0 rest TR f zs k0 i).xs = k0.xs ++ ((zs.take i).filterMap fun x => if f.row x.reg = [] then none else some (lE TR f x).av)
 | 0, _ => by simp [yu]
 | i + 1, h => by
  have hi : i < zs.length := by omega
  have ha : gD zs i = zs[i] := by unfold gD; rw [List.getD_eq_getElem?_getD, List.getElem?_eq_getElem hi]; rfl
  rw [yu, cq hi, List.filterMap_append, ← List.append_assoc, ← Ai (T0 := T0) (rest := rest) i (by omega), ha]
  unfold TK.step
  split
  ·rename_i hc; simp [hc]
  ·rename_i hc; simp [hc]
theorem Fm.At.mono {H H' : Hp} {f : Fm} (h : f.At H) (hs : ∀ id cs, H.obj id = some cs → H'.obj id = some cs) : f.At H' := by
 induction h with
 | mk f h1 h2 hb h3 ih => exact .mk f (hs _ _ h1) (hs _ _ h2) hb ih
def wb (K : Hp) (o : AV) (T0 : Nat) (cs : List Hc) : Hp := match o with | .os id _ _ => (K.del id).set T0 cs | _ => K.set T0 cs
theorem Kept.I7 {s : St} {Q : St → Prop} (T0 : Nat) {K : Hp} {o rest : AV} {xs : List AV} (hH : get s .h = some (.hp K)) (ht : K.obj T0 = some [.v o, .v rest]) (ho : fK K o 2 xs) (hne : ∀ id m e, o = .os id m e → id ≠ T0) (hes : ∀ e ∈ xs, e.cells.length = 2)
  (h : Kept ((.h, .hp (wb K o T0 [.v (.sl xs), .v rest])) :: s) Q) : Kept s Q := by
 rcases ho with ⟨rfl, rfl⟩ | ⟨id, rfl, ho⟩
 ·exact Kept.IQ T0 0 hH ht rfl h
 ·have hfl : (xs.flatMap AV.cells).length = xs.length * 2 := dA hes
  refine Kept.KG T0 0 (ys := xs) (esz := 2) (xs := xs.flatMap AV.cells) hH ht rfl ho (fun e => hne id _ _ rfl e.symm) hes (by rw [← hfl, List.take_length]) (Nat.le_refl _) ?_
  rw [List.take_length]
  exact fun E N a w ⟨G, L, hr⟩ => h E N a w ⟨G, L, hr.ext fun c => by simp only [get]; split <;> rfl⟩
theorem CX {K : Hp} {o : AV} {T0 : Nat} {cs : List Hc} : (wb K o T0 cs).obj T0 = some cs := by
 unfold wb; split <;> exact Hp.bk
theorem ud {K : Hp} {o : AV} {T0 id : Nat} {cs : List Hc} (h : id ≠ T0) (ho : ∀ m e, o ≠ .os id m e) : (wb K o T0 cs).obj id = K.obj id := by
 unfold wb
 split
 ·rename_i i m e
  have : id ≠ i := fun e2 => ho m e (by rw [e2])
  simp [Hp.set, Hp.del, h, this]
 ·simp [Hp.set, h]
/- Plain laws: the objects ahead of the loop of frame.Tree. No condition. -/
def bo (ps : List ak) (bh : Bool) (rest : AV) (H : Hp) : Hp := (((H.new [.v (.sl (ps.map ak.av))]).new [.v (.bool bh)]).new [.v (.sl []), .v (.sl [])]).new [.v .nsl, .v rest]
def dM (ps : List ak) (bh : Bool) (f : Fm) (side : List Port) (rest : AV) (H : Hp) : Hp := en (.os (H.next + 5) side.length 9) f.ptr (gy (side.map Port.av) (bo ps bh rest H))
def mz (ps : List ak) (bh : Bool) (f : Fm) (side : List Port) (rest : AV) (H : Hp) : Hp := (dM ps bh f side rest H).set (H.next + 5) (bC ((cW side).map Port.av))
def sD (TR : Fm → Tree) (f : Fm) (zs : List Port) : Tree := .mk (zs.filterMap fun x => if f.row x.reg = [] then none else some (lE TR f x)) f.rest
section
variable {ps : List ak} {bh : Bool} {f : Fm} {side : List Port} {rest : AV} {H : Hp}
theorem Kp : (dM ps bh f side rest H).obj H.next = some [.v (.sl (ps.map ak.av))] := by
 simp [dM, en, gy, bo, Hp.new, Hp.set, Hp.del, Nat.add_assoc]
theorem Kq : (dM ps bh f side rest H).obj (H.next + 1) = some [.v (.bool bh)] := by
 simp [dM, en, gy, bo, Hp.new, Hp.set, Hp.del]
theorem Ko : (dM ps bh f side rest H).obj (H.next + 2) = some [.v (.sl []), .v (.sl [])] := by
 simp [dM, en, gy, bo, Hp.new, Hp.set, Hp.del]
theorem Kn : (dM ps bh f side rest H).obj (H.next + 3) = some [.v .nsl, .v rest] := by
 simp [dM, en, gy, bo, Hp.new, Hp.set, Hp.del]
theorem Gt : (dM ps bh f side rest H).obj (H.next + 5) = some (bC (side.map Port.av)) := by
 simp [dM, en, gy, bo, Hp.new, Hp.set, Hp.del]
theorem J7 : (dM ps bh f side rest H).obj (H.next + 6) = some [.v (.os (H.next + 5) side.length 9)] := by
 simp [dM, en, gy, bo, Hp.new, Hp.set, Hp.del]
theorem Kr : (dM ps bh f side rest H).obj (H.next + 7) = some [.v f.ptr] := by
 simp [dM, en, gy, bo, Hp.new, Hp.set, Hp.del]
theorem Gu {id : Nat} (h : id < H.next) : (dM ps bh f side rest H).obj id = H.obj id := by
 have h0 : id ≠ H.next := by omega
 have h1 : id ≠ H.next + 1 := by omega
 have h2 : id ≠ H.next + 2 := by omega
 have h3 : id ≠ H.next + 3 := by omega
 have h4 : id ≠ H.next + 4 := by omega
 have h5 : id ≠ H.next + 5 := by omega
 have h6 : id ≠ H.next + 6 := by omega
 have h7 : id ≠ H.next + 7 := by omega
 simp [dM, en, gy, bo, Hp.new, Hp.set, Hp.del, h0, h1, h2, h3, h4, h5, h6, h7]
theorem va {id : Nat} (h : id ≠ H.next + 5) : (mz ps bh f side rest H).obj id = (dM ps bh f side rest H).obj id := by
 simp [mz, Hp.set, h]
theorem Km : GK (H.next + 8) (H.next + 3) rest (mz ps bh f side rest H) ⟨mz ps bh f side rest H, .nsl, []⟩ :=
 ⟨Nat.le_refl _, fun _ _ _ => rfl, (va (by omega)).trans Kn, .inl ⟨rfl, rfl⟩, fun _ _ _ e => (by cases e), fun e he => (by cases he)⟩
end
def eI (ps : List ak) (bh : Bool) (f : Fm) (side : List Port) (rest : AV) (TR : Fm → Tree) (H : Hp) (i : Nat) : TK :=
 yu (H.next + 3) rest TR f (cW side) ⟨mz ps bh f side rest H, .nsl, []⟩ i
theorem fk {ps : List ak} {bh : Bool} {f : Fm} {side : List Port} {rest : AV} {TR : Fm → Tree} {H : Hp} (i : Nat) : GK (H.next + 8) (H.next + 3) rest (mz ps bh f side rest H) (eI ps bh f side rest TR H i) := Km.at (by omega) TR f _ i
theorem kg {ps : List ak} {bh : Bool} {f : Fm} {side : List Port} {rest : AV} {TR : Fm → Tree} {H : Hp} (i : Nat) {id : Nat} (h : id < H.next) : (eI ps bh f side rest TR H i).H.obj id = H.obj id := by
 rw [(fk i).low id (by omega) (by omega), va (by omega), Gu h]
theorem jB {ps : List ak} {bh : Bool} {f : Fm} {side : List Port} {rest : AV} {TR : Fm → Tree} {H : Hp} (i : Nat) {id : Nat} (h : id < H.next + 8) (h3 : id ≠ H.next + 3) (h5 : id ≠ H.next + 5) : (eI ps bh f side rest TR H i).H.obj id = (dM ps bh f side rest H).obj id := by
 rw [(fk i).low id h h3, va h5]
theorem yt {ps : List ak} {bh : Bool} {f : Fm} {side : List Port} {rest : AV} {TR : Fm → Tree} {H : Hp} (i : Nat) : (eI ps bh f side rest TR H i).H.obj (H.next + 5) = some (bC ((cW side).map Port.av)) := by
 rw [(fk i).low _ (by omega) (by omega)]; exact Hp.bk
theorem FQ {ps : List ak} {bh : Bool} {f : Fm} {side : List Port} {rest : AV} {TR : Fm → Tree} {H : Hp} (hfin : H.fin) (h12 : side.length ≤ 12) (hA : f.At H) (hreg : ∀ i, i < side.length → 0 ≤ (gD (cW side) i).reg ∧ (gD (cW side) i).reg < f.aI.length) :
  kb Tryz.prog 51 [.op (H.next + 6) 0, .op (H.next + 7) 0] (dM ps bh f side rest H) (Gg f (cW side) fun i => (eI ps bh f side rest TR H i).H) (eI ps bh f side rest TR H side.length).H := by
 have o1 := hA.o1
 have o2 := hA.o2
 have lt : ∀ {id cs}, H.obj id = some cs → id < H.next := fun {id cs} e => by
  rcases Nat.lt_or_ge id H.next with q | q
  ·exact q
  ·rw [hfin id q] at e; cases e
 refine FR side h12 f (H.next + 6) (H.next + 7) (H.next + 5) _ (fun i => (eI ps bh f side rest TR H i).H) Gt J7 rfl (fun i _ => (jB i (by omega) (by omega) (by omega)).trans J7) (fun i _ => (jB i (by omega) (by omega) (by omega)).trans Kr)
  (fun i _ => (kg i (lt o1)).trans o1) (fun i _ => (kg i (lt o2)).trans o2) (fun i _ => yt i) hreg (fun i hi he => ?_)
 show (eI ps bh f side rest TR H i).H = ((eI ps bh f side rest TR H i).step (H.next + 3) rest TR f (gD (cW side) i)).H
 unfold TK.step
 rw [if_pos he]
/- what is in registers, as a tree -/
theorem wq : aa Tryz.prog 12 = true := by kernel_rfl
theorem Ck : aa Tryz.prog 15 = true := by kernel_rfl
theorem wi : aa Tryz.prog 33 = true := by kernel_rfl
theorem Cg : aa Tryz.prog 34 = true := by kernel_rfl
theorem CB : lk Tryz.prog 29 = some (false, 1) := by kernel_rfl
theorem wQ : lk Tryz.prog 30 = some (false, 1) := by kernel_rfl
theorem kR : lk Tryz.prog 32 = some (true, 2) := by kernel_rfl
theorem yC : lk Tryz.prog 4 = some (false, 1) := by kernel_rfl
theorem Ay : se Tryz.prog 29 = some (85, 2, 32) := by kernel_rfl
theorem Ax : se Tryz.prog 67 = some (32, 2, 48) := by kernel_rfl
theorem vm : se Tryz.prog 83 = some (82, 3, 48) := by kernel_rfl
theorem sK : A3 Tryz.prog 32 = some [(0, 1), (1, 1)] := by kernel_rfl
theorem xY : A3 Tryz.prog 85 = some [(0, 1), (1, 1)] := by kernel_rfl
theorem D9 : bf Tryz.prog 85 = some [AV.int IntKind.i64 (0), AV.sl []] := by kernel_rfl
theorem D7 : bf Tryz.prog 32 = some [AV.sl [], AV.sl []] := by kernel_rfl
theorem Gf : lx Tryz.prog 32 = some [.nsl, .nsl] := by kernel_rfl
theorem JX : lx Tryz.prog 85 = some [.int .i64 0, .nsl] := by kernel_rfl
theorem AB (o : Option Fm) : ib (.v (E2 o)) = some o.isNone := by cases o <;> rfl
theorem Bl (t : Tree) : c4 2 [t.av] = true := by rw [Tree.au]; rfl
def gp (TR : Fm → Tree) (row : List cA) (k : Nat) : List bD := (row.take k).map (lJ TR)
theorem nc {TR : Fm → Tree} {row : List cA} {k : Nat} (hk : k < row.length) : (gp TR row k).map bD.av ++ [(lJ TR row[k]).av] = (gp TR row (k + 1)).map bD.av := by
 unfold gp; rw [cq hk, List.map_append, List.map_append]; rfl
theorem vB {v : CV} {num : Sv} {rest : List (aM × CV)} {el esz : Nat} {A B : List AV} {b : AV} (h : A ++ [b] = B) : ((aM.s 37, v) :: (aM.b 10, CV.bx [num, .ow 160 (A ++ [b])]) :: (aM.t 160, CV.tk false el esz (A ++ [b])) :: rest) = [(aM.s 37, v), (aM.b 10, CV.bx [num, .ow 160 B]), (aM.t 160, CV.tk false el esz B)] ++ rest := by rw [h]; rfl
theorem xB {TR : Fm → Tree} {c : cA} {g : Fm} (h : c.f = some g) : (lJ TR c).av = .agg [.int .u64 (c.n : Int), .str c.s, .sl [(TR g).av]] := by unfold lJ; rw [h, bD.au]; rfl
theorem xC {TR : Fm → Tree} {c : cA} (h : c.f = none) : (lJ TR c).av = .agg [.int .u64 (c.n : Int), .str c.s, .sl []] := by unfold lJ; rw [h, bD.au]; rfl
theorem Ah {ps : List ak} {bh : Bool} {f : Fm} {side : List Port} {TR : Fm → Tree} {H : Hp} : AV.agg [.sl (eI ps bh f side (.sl (f.rest.map Rw.av)) TR H side.length).xs, .sl (f.rest.map Rw.av)] = (sD TR f (cW side)).av := by
 unfold eI
 rw [Ai _ (by rw [fw]; exact Nat.le_refl _), List.take_of_length_le (by rw [fw]; exact Nat.le_refl _), List.nil_append, Tree.au]
 show _ = AV.agg [.sl ((List.filterMap _ _).map Slot.av), _]
 rw [List.map_filterMap]
 congr 3
 congr 1
 funext x
 split <;> rfl
theorem B1 (ps : List ak) (bh : Bool) (f : Fm) (q : ak) (hq : ps[f.part]? = some q) (h12 : (q.side bh).length ≤ 12) (hne : q.side bh ≠ []) (hreg : ∀ i, i < (q.side bh).length → 0 ≤ (gD (cW (q.side bh)) i).reg ∧ (gD (cW (q.side bh)) i).reg < f.aI.length)
  (TR : Fm → Tree) (hrest : f.rest.length ≤ 1000000) (bj : ∀ l ∈ f.aI, l.length ≤ 1000000) (H : Hp) (hfin : H.fin) (hA : f.At H) (hsub : ∀ l ∈ f.aI, ∀ c ∈ l, ∀ g, c.f = some g → ∀ H', g.At H' → cc Tryz.prog 15 [cH ps, .bool bh, g.ptr] H' (TR g).av H') (K : TK) (hK : K = eI ps bh f (q.side bh) (.sl (f.rest.map Rw.av)) TR H (q.side bh).length) :
  cc Tryz.prog 15 [cH ps, .bool bh, f.ptr] H (sD TR f (cW (q.side bh))).av ((wb K.H K.o (H.next + 3) [.v (.sl K.xs), .v (.sl (f.rest.map Rw.av))]).set (H.next + 2) [.v (.sl K.xs), .v (.sl (f.rest.map Rw.av))]) := by
 have e0 : cH ps = .agg [.sl (ps.map ak.av)] := rfl
 subst hK
 refine cc.xr Tryz.func15 rfl rfl (gI rfl) (oJ.seq (aC.region (aB.run II 3 rfl (aB.kept (Kept.qi 3 rfl rfl (Kept.op 3 rfl rfl (Kept.cls 3 rfl rfl rfl rfl (Kept.qi 4 rfl rfl (Kept.op 4 rfl rfl (Kept.cls 4 rfl rfl rfl rfl (Kept.qi 6 rfl rfl (Kept.op 6 rfl rfl (Kept.cls 6 rfl rfl rfl rfl (Kept.now ⟨rfl, ?_⟩))))))))))))))
 have hlt : ∀ {id : Nat} {cs : List Hc}, H.obj id = some cs → id < H.next := fun {id cs} e => by
  rcases Nat.lt_or_ge id H.next with q | q
  ·exact q
  ·rw [hfin id q] at e; cases e
 have hAt : ∀ {K : Hp} {id : Nat} {cs : List Hc}, H.obj id = some cs → (∀ i, i < H.next → K.obj i = H.obj i) → K.obj id = some cs := fun {K id cs} e hl => (hl id (hlt e)).trans e
 have hlow3 : ∀ i, i < H.next → (((H.new [.v (.sl (ps.map ak.av))]).new [.v (.bool bh)]).new [.v (.sl []), .v (.sl [])]).obj i = H.obj i := fun i hi => by
  have h0 : i ≠ H.next := by omega
  have h1 : i ≠ H.next + 1 := by omega
  have h2 : i ≠ H.next + 2 := by omega
  simp [Hp.new, Hp.set, h0, h1, h2]
 have hlow4 : ∀ i, i < H.next → (bo ps bh (.sl (f.rest.map Rw.av)) H).obj i = H.obj i := fun i hi => by
  have h0 : i ≠ H.next := by omega
  have h1 : i ≠ H.next + 1 := by omega
  have h2 : i ≠ H.next + 2 := by omega
  have h3 : i ≠ H.next + 3 := by omega
  simp [bo, Hp.new, Hp.set, h0, h1, h2, h3]
 refine oJ.seq (aC.region (aB.run II 3 rfl (aB.c1 rfl (bR (aF rfl) wQ rfl rfl (hAt hA.o1 hlow3) rfl) (aB.c1 rfl (aG (aF rfl) wi rfl (lT f.rest hrest)) (aB.c1 rfl (fm (aF rfl) sK Gf rfl rfl) (aB.run II 2 rfl (aB.kept (Kept.qi 7 rfl rfl (Kept.op 7 rfl rfl (Kept.cls 7 rfl rfl rfl rfl (Kept.now ⟨rfl, (oJ.J9 (aC.drawn mixed rfl (aD.c1 rfl (bR (aF rfl) kQ rfl rfl (show (bo ps bh (.sl (f.rest.map Rw.av)) H).obj H.next = some [.v (.sl (ps.map ak.av))] by simp [bo, Hp.new, Hp.set, Nat.add_assoc]) rfl) ?_)))⟩)))))))))))
 refine aD.c1 rfl (bR (aF rfl) yC rfl rfl (show (bo ps bh (.sl (f.rest.map Rw.av)) H).obj (H.next + 1) = some [.v (.bool bh)] by simp [bo, Hp.new, Hp.set, Nat.add_assoc]) rfl) (aD.run II 3 rfl (aD.c1 rfl (bR (aF rfl) kP rfl rfl (hAt hA.o1 hlow4) rfl) (aD.c2 rfl (cO (aF rfl) wq rfl rfl (BX ps bh f.part q hq (by omega) hne _)) (aD.run II 1 rfl (aD.c2 rfl (cO (aF rfl) Cg rfl rfl (Hk _ _ _ _ _)) (aD.nil (by kernel_rfl) (Kept.aJ [.h, .s 3, .s 4, .s 6, .s 7, .s 28] rfl (by decide) (Kept.now ⟨rfl, (DU.range (H := dM ps bh f (q.side bh) (.sl (f.rest.map Rw.av)) H) (H2 := (eI ps bh f (q.side bh) (.sl (f.rest.map Rw.av)) TR H (q.side bh).length).H) (caps := [.op (H.next + 6) 0, .op (H.next + 7) 0]) (ps := [29, 30]) (fun _ => rfl) (fun _ => rfl) rfl rfl (by kernel_rfl) (FQ hfin h12 hA hreg) (by decide) (by decide) ?_ ?_ ?_)⟩))))))))
 ·intro y hy
  obtain ⟨i, _, hi⟩ := List.mem_filterMap.1 hy
  split at hi
  ·cases hi
  ·cases hi; rfl
 ·intro y hy
  obtain ⟨i, hi0, hi⟩ := List.mem_filterMap.1 hy
  split at hi
  ·cases hi
  rename_i hrw
  cases hi
  have hi1 : i < (q.side bh).length := by have := List.mem_range.1 hi0; rwa [fw] at this
  obtain ⟨x, hx⟩ : ∃ x, gD (cW (q.side bh)) i = x := ⟨_, rfl⟩
  obtain ⟨row, hrw0⟩ : ∃ row, f.row x.reg = row := ⟨_, rfl⟩
  have hxr := hreg i hi1
  rw [hx] at hrw hxr
  have hrm : row ∈ f.aI := by
   rw [← hrw0]; unfold Fm.row
   rw [List.getD_eq_getElem?_getD, List.getElem?_eq_getElem (show x.reg.toNat < f.aI.length by omega)]
   exact List.getElem_mem _
  have hrl := bj row hrm
  have KI := fk (ps := ps) (bh := bh) (f := f) (side := q.side bh) (rest := .sl (f.rest.map Rw.av)) (TR := TR) (H := H) i
  obtain ⟨k0, hk0⟩ : ∃ k0, eI ps bh f (q.side bh) (.sl (f.rest.map Rw.av)) TR H i = k0 := ⟨_, rfl⟩
  have hP0 : k0.H.obj H.next = some [.v (.sl (ps.map ak.av))] := by rw [← hk0]; exact (jB i (by omega) (by omega) (by omega)).trans Kp
  have hB0 : k0.H.obj (H.next + 1) = some [.v (.bool bh)] := by rw [← hk0]; exact (jB i (by omega) (by omega) (by omega)).trans Kq
  have hold : ∀ id cs, H.obj id = some cs → k0.H.obj id = some cs := fun id cs e => hAt e fun j hj => by rw [← hk0]; exact kg i hj
  rw [hk0] at KI
  have hxl : k0.xs.length ≤ 12 := by
   rw [← hk0]; unfold eI; rw [Ai i (by rw [fw]; omega)]
   have := List.length_filterMap_le (fun x => if f.row x.reg = [] then none else some (lE TR f x).av) ((cW (q.side bh)).take i)
   rw [List.length_take, fw] at this
   simp only [List.nil_append]; omega
  have hKn : (eI ps bh f (q.side bh) (.sl (f.rest.map Rw.av)) TR H (i + 1)).H = (jW k0.H k0.o (bC (k0.xs ++ [(lE TR f x).av]))).set (H.next + 3) [.v (.os k0.H.next (k0.xs.length + 1) 2), .v (.sl (f.rest.map Rw.av))] := by
   show ((eI ps bh f (q.side bh) (.sl (f.rest.map Rw.av)) TR H i).step _ _ _ _ _).H = _
   rw [hk0, hx]; unfold TK.step; rw [if_neg hrw]
  show tO _ _ _ _ _ _ [(gD (cW (q.side bh)) i).av, iJ (f.row (gD (cW (q.side bh)) i).reg)] (eI ps bh f (q.side bh) (.sl (f.rest.map Rw.av)) TR H i).H (eI ps bh f (q.side bh) (.sl (f.rest.map Rw.av)) TR H (i + 1)).H
  rw [hKn, hk0, hx, hrw0]
  intro E l
  refine ar.seq (ar.region (aB.run II 2 rfl (aB.nil (ar.region (aB.run II 1 rfl (aB.nil ⟨rfl, fun E' => (ar.blk (ar.seq (ar.region (aB.run II 3 rfl ?_))))⟩))))))
  refine aB.c1 rfl (fm (aF rfl) xY JX rfl rfl) (aB.run II 2 rfl (aB.kept (Kept.ph 10 1 160 82 3 rfl rfl rfl rfl (by decide) (Kept.now ?_))))
  iterate 2 (refine ar.seq ?_)
  refine ar.region (aB.run II 3 rfl (aB.nil (ar.blk (ar.aK (Kept.aJ [.s 37, .b 10, .t 160, .h, .s 3, .s 4, .s 6, .s 7, .s 10, .s 35, .s 36] rfl (by decide) (Kept.now (ar.aX (fun (k : Nat) => [(.s 37, .sv (.v (.int .i64 (k : Int)))), (.b 10, .bx [.v (.int .i64 x.f.num), .ow 160 ((gp TR row k).map bD.av)]), (.t 160, .tk false 82 3 ((gp TR row k).map bD.av))]) _ (fun (k : Nat) => True) (fun (k : Nat) => row.length - k) 0 rfl trivial ?_)))))))
  rintro k hK
  refine ar.seq (ar.region (aB.run II 1 rfl (aB.nil (ar.seq (ar.cond rfl (fun hc1 => ?_) (fun hc1 => ?_))))))
  ·have hk := dD hc1
   refine ar.skip (ar.seq (ar.blk (ar.seq (ar.region (aB.c1 rfl (aH (aF rfl) w8 rfl rfl (Int.natCast_nonneg _) (cF hk) rfl) (aB.run II 3 rfl (aB.nil (ar.seq (ar.region (aB.run II 7 rfl (aB.nil ?_)))))))))))
   iterate 2 (refine ar.seq ?_)
   refine ar.region (aB.run II 2 rfl (aB.c1 rfl (sb (aF rfl) nB rfl (AB _)) (aB.nil (ar.cond rfl (fun hc2 => ?_) (fun hc2 => ?_)))))
   ·obtain ⟨g, hg⟩ : ∃ g, (row[k]'hk).f = some g := by cases e : (row[k]'hk).f with | none => rw [e] at hc2; cases hc2 | some g => exact ⟨g, rfl⟩
    refine ar.region (aB.c1 rfl (bR (aF rfl) kQ rfl rfl hP0 rfl) (aB.c1 rfl (bR (aF rfl) yC rfl rfl hB0 rfl) (aB.run II 2 rfl (aB.c1 rfl (dJ (aF rfl) Ck rfl rfl (by rw [hg]; exact hsub row hrm _ (List.getElem_mem hk) g hg k0.H ((hA.o3 row hrm _ (List.getElem_mem hk) g hg).mono hold))) ?_))))
    refine aB.c1 rfl (Bb («as» := [_]) (aF rfl) Ax D7 rfl rfl (Bl _) (gI rfl)) (aB.run II 2 rfl (aB.nil (ar.region (aB.run II 4 rfl (aB.c3 rfl (aV (aF rfl) vm rfl rfl rfl rfl rfl (by simp only [List.length_map, gp, List.length_take, List.length_cons, List.length_nil]; omega) (by simp only [List.length_map, gp, List.length_take, List.length_cons, List.length_nil]; omega)) ?_)))))
    exact aB.run II 2 rfl (aB.nil (ar.region (aB.run II 2 rfl (aB.kept (Kept.aY 37 rfl (inc (by omega)) (Kept.aJ [.s 37, .b 10, .t 60, .h, .s 3, .s 4, .s 6, .s 7, .s 10, .s 35, .s 36] rfl (by decide) (Kept.gG 60 160 (by decide) rfl (Kept.now ⟨k + 1, by omega, trivial, vB (by rw [← nc hk, xB hg])⟩))))))))
   ·refine ar.skip (ar.region (aB.run II 4 rfl (aB.c3 rfl (aV (aF rfl) vm rfl rfl rfl rfl rfl (by simp only [List.length_map, gp, List.length_take, List.length_cons, List.length_nil]; omega) (by simp only [List.length_map, gp, List.length_take, List.length_cons, List.length_nil]; omega)) ?_)))
    exact aB.run II 2 rfl (aB.nil (ar.region (aB.run II 2 rfl (aB.kept (Kept.aY 37 rfl (inc (by omega)) (Kept.aJ [.s 37, .b 10, .t 60, .h, .s 3, .s 4, .s 6, .s 7, .s 10, .s 35, .s 36] rfl (by decide) (Kept.gG 60 160 (by decide) rfl (Kept.now ⟨k + 1, by omega, trivial, vB (by rw [← nc hk, xC (by cases e : (row[k]'hk).f with | none => rfl | some g => rw [e] at hc2; cases hc2)])⟩))))))))
  ·have hk := dE hc1
   refine ar.exit (ar.region (aB.run II 1 rfl (aB.c1 rfl (bR (aF rfl) CB rfl rfl KI.t rfl) (aB.run II 2 rfl (aB.c3 rfl (kK (aF rfl) Ay D9 rfl rfl KI.ops KI.es rfl rfl (List.cons_ne_nil _ _) rfl (by simp only [List.length_cons, List.length_nil]; omega) (by simp only [List.length_cons, List.length_nil]; omega)) ?_)))))
   refine aB.run II 1 rfl (aB.c1 rfl (sa CB rfl rfl (show (jW k0.H k0.o _).obj (H.next + 3) = some [.v k0.o, .v (.sl (f.rest.map Rw.av))] from (k7 (show H.next + 3 < k0.H.next by have := KI.nx; omega) (fun m e h1 => by have := KI.ne _ m e h1; omega)).trans KI.t) rfl rfl rfl) ?_)
   refine aB.nil ?_
   have hs : (lE TR f x).av = .agg [.int .i64 x.f.num, .sl ((gp TR row k).map bD.av)] := by
    unfold lE gp; rw [hrw0, List.take_of_length_le hk, Slot.au]; rfl
   exact ⟨rfl, by rw [hs]; rfl⟩
 ·refine aC.aK (Kept.I7 (H.next + 3) rfl ((fk _).t) ((fk _).ops) (fun id m e h1 h2 => by have := (fk _).ne id m e h1; omega) ((fk _).es) (Kept.now ?_))
  refine aC.seq (aC.region (aB.c1 rfl (bR (aF rfl) kR rfl rfl CX rfl) (aB.c1 rfl (s9 kR rfl rfl (show (wb (eI ps bh f (q.side bh) (.sl (f.rest.map Rw.av)) TR H (q.side bh).length).H (eI ps bh f (q.side bh) (.sl (f.rest.map Rw.av)) TR H (q.side bh).length).o (H.next + 3) [.v (.sl (eI ps bh f (q.side bh) (.sl (f.rest.map Rw.av)) TR H (q.side bh).length).xs), .v (.sl (f.rest.map Rw.av))]).obj (H.next + 2) = some [.v (.sl []), .v (.sl [])] from (ud (by omega) (fun m e h1 => by have := (fk _).ne _ m e h1; omega)).trans ((jB _ (by omega) (by omega) (by omega)).trans Ko)) rfl rfl rfl (gI rfl) rfl) ?_)))
  exact aB.nil (aC.ret ⟨.inr rfl, (aE.r1 rfl (.celo kR rfl rfl Hp.bk rfl rfl .nil)).cast (Ah), rfl⟩)
/- frame.Tree leaves the objects as they were; ports sorted are those ports. No condition. -/
theorem B0 (ps : List ak) (bh : Bool) (f : Fm) (q : ak) (hq : ps[f.part]? = some q) (h12 : (q.side bh).length ≤ 12) (hne : q.side bh ≠ []) (hreg : ∀ i, i < (q.side bh).length → 0 ≤ (gD (cW (q.side bh)) i).reg ∧ (gD (cW (q.side bh)) i).reg < f.aI.length)
  (TR : Fm → Tree) (hrest : f.rest.length ≤ 1000000) (bj : ∀ l ∈ f.aI, l.length ≤ 1000000) (H : Hp) (hA : f.At H) (hsub : ∀ l ∈ f.aI, ∀ c ∈ l, ∀ g, c.f = some g → ∀ H', g.At H' → cc Tryz.prog 15 [cH ps, .bool bh, g.ptr] H' (TR g).av H') :
  cc Tryz.prog 15 [cH ps, .bool bh, f.ptr] H (sD TR f (cW (q.side bh))).av H := by
 refine cc.fin fun hfin => (cc.drop (B1 ps bh f q hq h12 hne hreg TR hrest bj H hfin hA hsub _ rfl) (JW.refl H) (fun i hi => ?_) (Tree.lC _))
 have h2 : i ≠ H.next + 2 := by omega
 have KI := fk (ps := ps) (bh := bh) (f := f) (side := q.side bh) (rest := .sl (f.rest.map Rw.av)) (TR := TR) (H := H) (q.side bh).length
 simp only [Hp.set, if_neg h2]
 rw [ud (by omega) (fun m e h1 => by have := KI.ne _ m e h1; omega)]
 exact kg _ hi
theorem tL {ys : List Port} {j : Nat} (h : j < ys.length) : gD ys j ∈ ys := by
 unfold gD
 rw [List.getD_eq_getElem?_getD, List.getElem?_eq_getElem h]
 exact List.getElem_mem _
theorem Dn {ys : List Port} {j : Nat} (h : j + 1 < ys.length) : ∀ x ∈ sG ys j, x ∈ ys := fun x hx => by
 unfold sG at hx
 rcases List.mem_or_eq_of_mem_set hx with h1 | rfl
 ·rcases List.mem_or_eq_of_mem_set h1 with h2 | rfl
  ·exact h2
  ·exact tL (by omega)
 ·exact tL h
theorem tp : ∀ (j : Nat) (ys : List Port), j < ys.length → ∀ x ∈ fR j ys, x ∈ ys
 | 0, ys, _, x, hx => hx
 | j + 1, ys, h, x, hx => by
  unfold fR at hx
  split at hx
  ·exact Dn h x (tp j _ (by rw [sF]; omega) x hx)
  ·exact hx
theorem rD : ∀ (k i : Nat) (ys : List Port), i + k ≤ ys.length → ∀ x ∈ jE k i ys, x ∈ ys
 | 0, _, _, _, x, hx => hx
 | k + 1, i, ys, h, x, hx => by
  rw [jE] at hx
  exact tp i ys (by omega) x (rD k (i + 1) _ (by rw [pA]; omega) x hx)
theorem Ar {xs : List Port} : ∀ x ∈ cW xs, x ∈ xs := fun x hx => by
 cases xs with
 | nil => exact hx
 | cons a l => exact rD _ _ _ (by simp; omega) x hx
def lD (ps : List ak) (bh : Bool) : Nat → Fm → Tree
 | 0, _ => .mk [] []
 | n + 1, f => sD (lD ps bh n) f (cW ((ps.getD f.part cr).side bh))
/- no ports -/
theorem BL : Pure Tryz.prog 140 [.sl [], .int .i64 0, .int .i64 0, .fn 53 []] (.tup []) := by
 refine Pure.aL Tryz.func140 rfl rfl (aF rfl) fun H => (aC.seq (aC.region (aB.run II 3 rfl (aB.nil (aC.blk (aC.aK (Kept.aJ [.h, .s 0, .s 1, .s 2, .s 3, .s 8] rfl (by decide) (Kept.now (aC.aX (fun (u : Unit) => []) _ (fun (u : Unit) => True) (fun (u : Unit) => 0) () rfl trivial ?_)))))))))
 rintro u hu
 exact aC.seq (aC.seq (aC.region (aB.run II 3 rfl (aB.nil (aC.aZ rfl rfl (aC.exit ⟨.inl rfl, (aE.r0 rfl ).cast rfl, rfl⟩))))))
theorem HG (m : Int) : Pure Tryz.prog 95 [.sl [], .int .i64 0, .int .i64 0, .int .i64 m, .fn 53 []] (.tup []) := by
 refine Pure.aL Tryz.func95 rfl rfl (aF rfl) fun H => (aC.seq (aC.region (aB.run II 1 rfl (aB.nil (aC.seq (aC.region (aB.run II 1 rfl (aB.nil (aC.blk (aC.aK (Kept.aJ [.h, .s 0, .s 1, .s 2, .s 3, .s 4, .s 10, .s 11] rfl (by decide) (Kept.now (aC.aX (fun (u : Unit) => []) _ (fun (u : Unit) => True) (fun (u : Unit) => 0) () rfl trivial ?_)))))))))))))
 rintro u hu
 exact aC.blk (aC.seq (aC.region (aB.run II 4 rfl (aB.nil (aC.seq (aC.seq (aC.region (aB.run II 2 rfl (aB.nil (aC.az rfl rfl (aC.seq (aC.region (aB.run II 4 rfl (aB.c1 rfl (aG (aF rfl) yM rfl BL) (aB.nil (aC.ret ⟨.inr rfl, (aE.r0 rfl ).cast rfl, rfl⟩))))))))))))))))
theorem BD : Pure Tryz.prog 52 [.sl [], .fn 53 []] (.tup []) := by
 exact Pure.aL Tryz.func52 rfl rfl (aF rfl) fun H => (aC.seq (aC.region (aB.run II 3 rfl (aB.nil (aC.region (aB.run II 4 rfl (aB.c1 rfl (aG (aF rfl) C2 rfl (xd 0 (by decide))) (aB.run II 1 rfl (aB.c1 rfl (aG (aF rfl) C3 rfl (HG _)) (aB.nil ⟨.inl rfl, (aE.r0 rfl ).cast rfl, rfl⟩))))))))))
theorem CM (A B : Nat) (H0 : Hp) (hA0 : H0.obj A = some [.v (.sl [])]) : kb Tryz.prog 51 [.op A 0, .op B 0] H0 [] H0 := by
 refine kb.aL Tryz.func51 rfl rfl (gI rfl) rfl fun E l hY => (ar.seq (ar.region (aB.c1 rfl (bR (aF rfl) l8 rfl rfl hA0 rfl) (aB.c1 rfl (aG (aF rfl) Cc rfl BD) (aB.nil (ar.seq (ar.region (aB.c1 rfl (bR (aF rfl) l8 rfl rfl hA0 rfl) (aB.run II 2 rfl (aB.nil (ar.blk ?_)))))))))))
 refine ar.aK (Kept.aJ [.h, .s 0, .s 2, .s 8, .s 9, .s 10] rfl (by decide) (Kept.now (ar.aX (fun (u : Unit) => []) _ (fun (u : Unit) => True) (fun (u : Unit) => 0) () rfl trivial ?_)))
 rintro u hu
 exact ar.seq (ar.region (aB.run II 1 rfl (aB.nil (ar.seq (ar.aZ rfl rfl (ar.exit ⟨.inl rfl, rfl⟩))))))
/- frame.Tree, of a part without ports. No condition. -/
theorem B2 (ps : List ak) (bh : Bool) (f : Fm) (q : ak) (hq : ps[f.part]? = some q) (h0 : q.side bh = []) (hbn : q.ins.length ≤ 1000000 ∧ q.outs.length ≤ 1000000) (hrest : f.rest.length ≤ 1000000) (H : Hp) (hfin : H.fin) (hA : f.At H) :
  cc Tryz.prog 15 [cH ps, .bool bh, f.ptr] H (.agg [.sl [], .sl (f.rest.map Rw.av)]) (((en (.sl []) f.ptr (bo ps bh (.sl (f.rest.map Rw.av)) H)).set (H.next + 3) [.v (.sl []), .v (.sl (f.rest.map Rw.av))]).set (H.next + 2) [.v (.sl []), .v (.sl (f.rest.map Rw.av))]) := by
 have e0 : cH ps = .agg [.sl (ps.map ak.av)] := rfl
 refine cc.xr Tryz.func15 rfl rfl (gI rfl) (oJ.seq (aC.region (aB.run II 3 rfl (aB.kept (Kept.qi 3 rfl rfl (Kept.op 3 rfl rfl (Kept.cls 3 rfl rfl rfl rfl (Kept.qi 4 rfl rfl (Kept.op 4 rfl rfl (Kept.cls 4 rfl rfl rfl rfl (Kept.qi 6 rfl rfl (Kept.op 6 rfl rfl (Kept.cls 6 rfl rfl rfl rfl (Kept.now ⟨rfl, ?_⟩))))))))))))))
 have hlt : ∀ {id : Nat} {cs : List Hc}, H.obj id = some cs → id < H.next := fun {id cs} e => by
  rcases Nat.lt_or_ge id H.next with q | q
  ·exact q
  ·rw [hfin id q] at e; cases e
 have hAt : ∀ {K : Hp} {id : Nat} {cs : List Hc}, H.obj id = some cs → (∀ i, i < H.next → K.obj i = H.obj i) → K.obj id = some cs := fun {K id cs} e hl => (hl id (hlt e)).trans e
 have hlow3 : ∀ i, i < H.next → (((H.new [.v (.sl (ps.map ak.av))]).new [.v (.bool bh)]).new [.v (.sl []), .v (.sl [])]).obj i = H.obj i := fun i hi => by
  have h0 : i ≠ H.next := by omega
  have h1 : i ≠ H.next + 1 := by omega
  have h2 : i ≠ H.next + 2 := by omega
  simp [Hp.new, Hp.set, h0, h1, h2]
 have hlow4 : ∀ i, i < H.next → (bo ps bh (.sl (f.rest.map Rw.av)) H).obj i = H.obj i := fun i hi => by
  have h0 : i ≠ H.next := by omega
  have h1 : i ≠ H.next + 1 := by omega
  have h2 : i ≠ H.next + 2 := by omega
  have h3 : i ≠ H.next + 3 := by omega
  simp [bo, Hp.new, Hp.set, h0, h1, h2, h3]
 refine oJ.seq (aC.region (aB.run II 3 rfl (aB.c1 rfl (bR (aF rfl) wQ rfl rfl (hAt hA.o1 hlow3) rfl) (aB.c1 rfl (aG (aF rfl) wi rfl (lT f.rest hrest)) (aB.c1 rfl (fm (aF rfl) sK Gf rfl rfl) (aB.run II 2 rfl (aB.kept (Kept.qi 7 rfl rfl (Kept.op 7 rfl rfl (Kept.cls 7 rfl rfl rfl rfl (Kept.now ⟨rfl, (oJ.J9 (aC.drawn mixed rfl (aD.c1 rfl (bR (aF rfl) kQ rfl rfl (show (bo ps bh (.sl (f.rest.map Rw.av)) H).obj H.next = some [.v (.sl (ps.map ak.av))] by simp [bo, Hp.new, Hp.set, Nat.add_assoc]) rfl) ?_)))⟩)))))))))))
 refine aD.c1 rfl (bR (aF rfl) yC rfl rfl (show (bo ps bh (.sl (f.rest.map Rw.av)) H).obj (H.next + 1) = some [.v (.bool bh)] by simp [bo, Hp.new, Hp.set, Nat.add_assoc]) rfl) (aD.run II 3 rfl (aD.c1 rfl (bR (aF rfl) kP rfl rfl (hAt hA.o1 hlow4) rfl) (aD.c1 rfl (aG (aF rfl) wq rfl (show Pure Tryz.prog 12 [cH ps, .bool bh, .int .i64 f.part] (.sl []) from by have := x9 ps bh f.part q hq hbn; rwa [h0] at this)) ?_)))
 exact aD.run II 1 rfl (aD.c2 rfl (cO (aF rfl) Cg rfl rfl (Ej _ _ _ _)) (aD.nil (by kernel_rfl) (Kept.aJ [.h, .s 3, .s 4, .s 6, .s 7, .s 28] rfl (by decide) (Kept.now (⟨rfl, (DU.range (H := (en (.sl []) f.ptr (bo ps bh (.sl (f.rest.map Rw.av)) H))) (H2 := (en (.sl []) f.ptr (bo ps bh (.sl (f.rest.map Rw.av)) H))) (caps := [.op (H.next + 4) 0, .op (H.next + 5) 0]) (ps := [29, 30]) (ys := []) (fun _ => rfl) (fun _ => rfl) rfl rfl (by kernel_rfl) (CM _ _ _ (by simp [en, bo, Hp.new, Hp.set, Nat.add_assoc])) (by decide) (by decide) (fun y hy => by cases hy) (fun y hy => by cases hy) (aC.aK (Kept.IQ (H.next + 3) 0 rfl (show (en (.sl []) f.ptr (bo ps bh (.sl (f.rest.map Rw.av)) H)).obj (H.next + 3) = some [.v .nsl, .v (.sl (f.rest.map Rw.av))] by simp [en, bo, Hp.new, Hp.set, Nat.add_assoc]) rfl (Kept.now (aC.seq (aC.region (aB.c1 rfl (bR (aF rfl) kR rfl rfl Hp.bk rfl) (aB.c1 rfl (s9 kR rfl rfl (show ((en (.sl []) f.ptr (bo ps bh (.sl (f.rest.map Rw.av)) H)).set (H.next + 3) [.v (.sl []), .v (.sl (f.rest.map Rw.av))]).obj (H.next + 2) = some [.v (.sl []), .v (.sl [])] by simp [en, bo, Hp.new, Hp.set, Nat.add_assoc]) rfl rfl rfl (gI rfl) rfl) (aB.nil (aC.ret ⟨.inr rfl, (aE.r1 rfl (.celo kR rfl rfl Hp.bk rfl rfl .nil)).cast rfl, rfl⟩))))))))))⟩)))))
theorem z8 (ps : List ak) (bh : Bool) (f : Fm) (q : ak) (hq : ps[f.part]? = some q) (h0 : q.side bh = []) (hbn : q.ins.length ≤ 1000000 ∧ q.outs.length ≤ 1000000) (hrest : f.rest.length ≤ 1000000) (H : Hp) (hA : f.At H) :
  cc Tryz.prog 15 [cH ps, .bool bh, f.ptr] H (Tree.mk [] f.rest).av H := by
 refine cc.fin fun hfin => ?_
 have h1 := B2 ps bh f q hq h0 hbn hrest H hfin hA
 rw [show (AV.agg [.sl [], .sl (f.rest.map Rw.av)]) = (Tree.mk [] f.rest).av by rw [Tree.au]; rfl] at h1
 refine cc.drop h1 (JW.refl H) (fun i hi => ?_) (Tree.lC _)
 have a0 : i ≠ H.next := by omega
 have a1 : i ≠ H.next + 1 := by omega
 have a2 : i ≠ H.next + 2 := by omega
 have a3 : i ≠ H.next + 3 := by omega
 have a4 : i ≠ H.next + 4 := by omega
 have a5 : i ≠ H.next + 5 := by omega
 simp [en, bo, Hp.new, Hp.set, Nat.add_assoc, a0, a1, a2, a3, a4, a5]
/- frame.Tree, of every frame. No condition. -/
inductive Fm.Good (ps : List ak) (bh : Bool) : Nat → Fm → Prop where
 | mk (n : Nat) (f : Fm) (q : ak) (hq : ps[f.part]? = some q) (h12 : (q.side bh).length ≤ 12) (hbn : q.ins.length ≤ 1000000 ∧ q.outs.length ≤ 1000000) (hreg : ∀ x ∈ q.side bh, 0 ≤ x.reg ∧ x.reg < f.aI.length) (hrest : f.rest.length ≤ 1000000) (bj : ∀ l ∈ f.aI, l.length ≤ 1000000)
   (hs : ∀ l ∈ f.aI, ∀ c ∈ l, ∀ g, c.f = some g → Fm.Good ps bh n g) : Fm.Good ps bh (n + 1) f
theorem uO (ps : List ak) (bh : Bool) : ∀ (n : Nat) (f : Fm), Fm.Good ps bh n f → ∀ H, f.At H → cc Tryz.prog 15 [cH ps, .bool bh, f.ptr] H (lD ps bh n f).av H
 | 0, f, h => by cases h
 | n + 1, f, h => by
  intro H hA
  cases h with
  | mk _ _ q hq h12 hbn hreg hrest bj hs =>
   have e : ps.getD f.part cr = q := by rw [List.getD_eq_getElem?_getD, hq]; rfl
   rw [lD, e]
   by_cases hne : q.side bh = []
   ·rw [hne]
    exact z8 ps bh f q hq hne hbn hrest H hA
   ·exact B0 ps bh f q hq h12 hne (fun i hi => hreg _ (Ar _ (tL (by rw [fw]; exact hi)))) _ hrest bj H hA fun l hl c hc g hg H' hA' => uO ps bh n g (hs l hl c hc g hg) H' hA'
def qU (q : ak) (k : Nat) (bh : Bool) (H : Hp) : Fm := .mk H.next k (List.replicate q.aI.toNat []) [] (!bh)
theorem ri (q : ak) (k : Nat) (bh : Bool) (H : Hp) (h : q.aI ≤ 100000) : (qU q k bh H).At (dz q k bh H) := by
 refine .mk _ ?_ ?_ ⟨?_, fun l hl => ?_⟩ fun l hl c hc => ?_
 ·show (Hp.new _ _).obj (H.next + 1) = _
  simp [Hp.new, Hp.set, qU, Fm.uY, Fm.part, Fm.r, Fm.aI, Fm.rest, Fm.done]
 ·show (dz q k bh H).obj H.next = _
  have : H.next ≠ H.next + 1 := by omega
  simp [dz, Hp.new, Hp.set, qU, Fm.aI, dT, this, iJ]
 ·show (List.replicate _ _).length ≤ _
  rw [List.length_replicate]; omega
 ·rw [List.eq_of_mem_replicate hl]; simp
 ·rw [List.eq_of_mem_replicate hl] at hc; cases hc
/- the port of a number -/
theorem yX : aa Tryz.prog 103 = true := by kernel_rfl
def eR (num : Int) : Port → Bool := fun x => decide (x.f.num = num)
theorem Eh (x : Port) (num : Int) (id : Nat) (H : Hp) (h : H.obj id = some [.v (.int .i64 num)]) : cc Tryz.prog 104 [x.av, .op id 0] H (.bool (eR num x)) H := by
 exact cc.aL Tryz.func104 rfl rfl (aF rfl) (aC.seq (aC.region (aB.run II 2 rfl (aB.nil (aC.seq (aC.region (aB.run II 3 rfl (aB.c1 rfl (bR (aF rfl) kP rfl rfl h rfl) (aB.run II 2 rfl (aB.nil (aC.ret ⟨.inr rfl, (aE.r1 rfl (.tmp rfl .nil)).cast rfl, rfl⟩)))))))))))
def js (num : Int) (l : List Port) : Int := bS (eR num) l 0
theorem BZ (l : List Port) (hl : l.length ≤ 1000000) (num : Int) (id : Nat) (H : Hp) (h : H.obj id = some [.v (.int .i64 num)]) : cc Tryz.prog 103 [.sl (l.map Port.av), .fn 104 [.op id 0]] H (.int .i64 (js num l)) H := by
 refine cc.aL Tryz.func103 rfl rfl (aF rfl) (aC.seq (aC.region (aB.run II 1 rfl (aB.nil (aC.seq (aC.seq (aC.region (aB.run II 3 rfl (aB.nil (aC.blk (aC.aK (Kept.aJ [.s 8, .h, .s 0, .s 1, .s 7] rfl (by decide) (Kept.now (aC.aX (fun (i : Nat) => [(.s 8, .sv (.v (.int .i64 (i : Int))))]) _ (fun (i : Nat) => bS (eR num) (l.drop i) i = js num l) (fun (i : Nat) => l.length - i) 0 rfl rfl ?_))))))))))))))
 rintro i hI
 refine aC.seq (aC.region (aB.run II 1 rfl (aB.nil (aC.seq (aC.cond rfl (fun hc1 => ?_) (fun hc1 => ?_))))))
 ·have hi := dD hc1
  refine aC.skip (aC.seq (aC.blk (aC.seq (aC.region (aB.run II 2 rfl (aB.nil (aC.seq (aC.region (aB.run II 3 rfl (aB.c1 rfl (aH (aF rfl) c9 rfl rfl (Int.natCast_nonneg _) (cF hi) rfl) (aB.run II 1 rfl (aB.c2 rfl (rS (aF rfl) (by kernel_rfl) rfl rfl rfl (Eh (l[i]'hi) num id H h)) (aB.nil (aC.cond rfl (fun hc2 => ?_) (fun hc2 => ?_)))))))))))))))
  ·exact aC.seq (aC.region (aB.run II 2 rfl (aB.nil (aC.ret ⟨.inr rfl, (aE.r1 rfl (.tmp rfl .nil)).cast (congrArg (AV.int .i64) (by rw [← hI, cQ hi, if_pos hc2])), rfl⟩))))
  ·exact aC.skip (aC.region (aB.run II 2 rfl (aB.kept (Kept.aY 8 rfl (inc (by omega)) (Kept.aJ [.s 8, .h, .s 0, .s 1, .s 7] rfl (by decide) (Kept.now ⟨i + 1, by omega, by rw [← hI, cQ hi, hc2]; rfl, rfl⟩))))))
 ·have hi := dE hc1
  exact aC.exit (aC.seq (aC.region (aB.run II 1 rfl (aB.nil (aC.ret ⟨.inr rfl, (aE.r1 rfl (.tmp rfl .nil)).cast (congrArg (AV.int .i64) (by rw [← hI, dd hi])), rfl⟩)))))
def pQ (num : Int) (l : List Port) : Port := (l.find? (eR num)).getD hZ
def mS (num : Int) (l : List Port) : AV := .tup [(pQ num l).av, .bool (decide (0 ≤ js num l))]
theorem BV {num : Int} {l : List Port} (h : ¬ js num l < 0) : (l.map Port.av)[(js num l).toNat]? = some (.agg (pQ num l).cells) := by
 rcases ao (eR num) l 0 with ⟨q1, q2⟩ | ⟨i, hi, q1, q2, q3⟩
 ·exact absurd (show js num l < 0 by show bS _ _ _ < 0; rw [q1]; decide) h
 ·have e : js num l = ((0 + i : Nat) : Int) := q1
  rw [e, Int.toNat_natCast, Nat.zero_add, List.getElem?_map, List.getElem?_eq_getElem hi]
  unfold pQ
  rw [q2]; rfl
theorem BU {num : Int} {l : List Port} (h : js num l < 0) : pQ num l = hZ := by
 rcases ao (eR num) l 0 with ⟨q1, q2⟩ | ⟨i, hi, q1, q2, q3⟩
 ·unfold pQ; rw [q2]; rfl
 ·have e : js num l = ((0 + i : Nat) : Int) := q1
  rw [e] at h; omega
theorem BI (l : List Port) (hl : l.length ≤ 1000000) (num : Int) : Pure Tryz.prog 64 [.sl (l.map Port.av), .int .i64 num] (mS num l) := by
 refine fun H => (cc.je Tryz.func64 rfl rfl (aF rfl) (.tup _ (ai.cons (Port.lC _) (ai.cons (.bool _) ai.nil))) (aC.seq (aC.region (aB.run II 3 rfl (aB.kept (Kept.qi 3 rfl rfl (Kept.op 3 rfl rfl (Kept.cls 3 rfl rfl rfl rfl (Kept.now (aC.seq (aC.region (aB.run II 1 rfl (aB.c1 rfl (lX (aF rfl) rfl) (aB.c1 rfl (dJ (aF rfl) yX rfl rfl (BZ l hl num _ _ Hp.bk)) (aB.run II 1 rfl (aB.nil (aC.seq (aC.seq (aC.region (aB.run II 2 rfl ?_))))))))))))))))))))
 refine aB.nil (aC.cond rfl (fun hc1 => ?_) (fun hc1 => ?_))
 ·exact aC.seq (aC.region (aB.run II 3 rfl (aB.nil (aC.ret (⟨.inr rfl, (aE.r2 rfl (.cell iF rfl rfl rfl rfl (.tmp rfl .nil))).cast (by have h := of_decide_eq_true hc1; unfold mS; rw [BU h, decide_eq_false (by omega)]; rfl), ⟨_, rfl, Nat.le_succ _, fun i hi => by have e : i ≠ H.next := (by omega); simp [Hp.new, Hp.set, e]⟩⟩)))))
 ·refine aC.skip (aC.seq (aC.region (aB.run II 2 rfl (aB.c1 rfl (aH (aF rfl) c9 rfl rfl (by have := of_decide_eq_false hc1; omega) (BV (of_decide_eq_false hc1)) rfl) ?_))))
  exact aB.run II 3 rfl (aB.nil (aC.ret (⟨.inr rfl, (aE.r2 rfl (.cell iF rfl rfl rfl rfl (.tmp rfl .nil))).cast (by have h := of_decide_eq_false hc1; unfold mS; rw [decide_eq_true (by omega : 0 ≤ js num l)]; rfl), ⟨_, rfl, Nat.le_succ _, fun i hi => by have e : i ≠ H.next := (by omega); simp [Hp.new, Hp.set, e]⟩⟩)))
open Go Go.RowKit
/- The program logic's rules: calls that may fail, and leave the objects as they were then. No condition. -/
def Hp.more (H H' : Hp) : Prop := H.next ≤ H'.next ∧ ∀ i, i < H.next → H'.obj i = H.obj i
theorem Hp.more.refl (H : Hp) : H.more H := ⟨Nat.le_refl _, fun _ _ => rfl⟩
theorem Hp.more.trans {A B C : Hp} (h : A.more B) (k : B.more C) : A.more C := ⟨Nat.le_trans h.1 k.1, fun i hi => (k.2 i (Nat.lt_of_lt_of_le hi h.1)).trans (h.2 i hi)⟩
theorem Hp.more.new {A B : Hp} (h : A.more B) (cs : List Hc) : A.more (B.new cs) := ⟨Nat.le_trans h.1 (Nat.le_succ _), fun i hi => by rw [Hp.ko _ _ (Nat.lt_of_lt_of_le hi h.1)]; exact h.2 i hi⟩
theorem Hp.mN {H : Hp} {id i : Nat} {cs : List Hc} (h : i ≠ id) : (H.set id cs).obj i = H.obj i := by simp [Hp.set, h]
theorem Hp.more.set {A B : Hp} (h : A.more B) {id : Nat} (hi : A.next ≤ id) (cs : List Hc) : A.more (B.set id cs) := ⟨h.1, fun i hi' => by rw [Hp.mN (by omega)]; exact h.2 i hi'⟩
def iz (P : Program) (f : FuncId) (args : List AV) (H : Hp) (bad : AV) : Except Unit (AV × Hp) → Prop
 | .ok x => cc P f args H x.1 x.2
 | .error _ => cc P f args H bad H
def AL {α : Type} (g : α → AV) : Except Unit (α × Hp) → Except Unit (AV × Hp)
 | .ok x => .ok (g x.1, x.2)
 | .error u => .error u
theorem iz.D1 {P : Program} {f : FuncId} {args : List AV} {H : Hp} {bad : AV} {α : Type} {g : α → AV} {res : Except Unit (α × Hp)} {x : α × Hp} (h : iz P f args H bad (AL g res)) (e : res = .ok x) : cc P f args H (g x.1) x.2 := by subst e; exact h
theorem iz.tS {P : Program} {f : FuncId} {args : List AV} {H : Hp} {bad : AV} {α : Type} {g : α → AV} {res : Except Unit (α × Hp)} {u : Unit} (h : iz P f args H bad (AL g res)) (e : res = .error u) : cc P f args H bad H := by subst e; exact h
def gh (H : Hp) (bad : AV) : Except Unit (AV × Hp) → AV → Hp → Prop
 | .ok x => fun r H' => r = x.1 ∧ H' = x.2
 | .error _ => fun r H' => r = bad ∧ H.more H'
theorem gh.D1 {H : Hp} {bad : AV} {α : Type} {g : α → AV} {res : Except Unit (α × Hp)} {x : α} {H' : Hp} {r : AV} (e : res = .ok (x, H')) (hr : r = g x) : gh H bad (AL g res) r H' := by subst e; subst hr; exact ⟨rfl, rfl⟩
theorem gh.tS {H : Hp} {bad : AV} {α : Type} {g : α → AV} {res : Except Unit (α × Hp)} {u : Unit} {H' : Hp} {r : AV} (e : res = .error u) (hr : r = bad) (h : H.more H') : gh H bad (AL g res) r H' := by subst e; exact ⟨hr, h⟩
theorem jA.fin {P : Program} {fn : Func} {Post : AV → Hp → Prop} {e : Exit} {s' : St} {r : AV} {H' : Hp} (hp : Post r H') (h : (e = .normal ∨ e = .ret) ∧ aE P fn s' r ∧ get s' .h = some (.hp H')) :
  (e = .normal ∨ e = .ret) ∧ ∃ r H', Post r H' ∧ aE P fn s' r ∧ get s' .h = some (.hp H') := ⟨h.1, r, H', hp, h.2⟩
theorem cc.oU {P : Program} {f : FuncId} {fn : Func} {c : Code} {N : Nat} {args : List AV} {H : Hp} {bad : AV} {res : Except Unit (AV × Hp)} (hf : P.funcs[f]? = some fn) (hb : fn.body = some c) (hN : fn.ntmps = N) (hle : args.length ≤ N) (hro : bG (fun id => id < H.next) bad)
  (h : aC P N c ((.h, .hp H) :: ep args 0) fun e s' => (e = .normal ∨ e = .ret) ∧ ∃ r H', gh H bad res r H' ∧ aE P fn s' r ∧ get s' .h = some (.hp H')) : iz P f args H bad res := by
 cases res with
 | ok x => exact cc.aL hf hb hN hle (h.mono fun e s' ⟨h1, r, H', ⟨h2, h3⟩, h4, h5⟩ => ⟨h1, by rw [← h2]; exact h4, by rw [← h3]; exact h5⟩)
 | error u => exact cc.je hf hb hN hle hro (h.mono fun e s' ⟨h1, r, H', ⟨h2, h3⟩, h4, h5⟩ => ⟨h1, by rw [← h2]; exact h4, H', h5, h3⟩)
/- What a value is loaded to: its frame, and the objects then, as the program does it. No condition. -/
abbrev oL := Int → Tree → Hp → Except Unit (Fm × Hp)
def DB : cA := .mk 0 [] none
def pC : aN := ⟨[], []⟩
theorem vo : pC.wu := ⟨by decide, fun m hm => (List.not_mem_nil hm).elim, fun m hm f hf => (List.not_mem_nil hm).elim⟩
def fM (F : oL) (x : Port) (v : bD) (H : Hp) : Except Unit (cA × Hp) :=
 if x.part < 0 then (if v.ok pC x.f then .ok (.mk v.n v.s none, H) else .error ())
 else if v.n = 0 ∧ v.s = [] ∧ v.m.length = 1 then (match F x.part (v.m.headD (.mk [] [])) H with | .ok p => .ok (.mk 0 [] (some p.1), p.2) | .error u => .error u)
 else .error ()
def ky (x : Port) (v : bD) : cA := if x.part < 0 then .mk v.n v.s none else DB
def cp (F : oL) (x : Port) : List bD → Hp → Except Unit (List cA × Hp)
 | [], H => .ok ([], H)
 | v :: l, H => match fM F x v H with
  | .error u => .error u
  | .ok c => if x.f.hidden && decide (v.n = 0) && v.s == [] then .error () else match cp F x l c.2 with
   | .error u => .error u
   | .ok r => .ok (c.1 :: r.1, r.2)
def cb (F : oL) (x : Port) (vs : List bD) (H : Hp) : Except Unit (List cA × Hp) := if vs.length = 0 ∨ (x.f.rep = false ∧ 1 < vs.length) then .error () else cp F x vs H
def iy (aI : List (List cA)) (bW : List Port) (x : Port) : Bool := !(bW.any fun y => !(x.f.one == []) && y.f.one == x.f.one && decide (0 < (aI.getD y.reg.toNat []).length))
def cC (F : oL) (bW : List Port) (rid : Nat) : Option Int → List Slot → List (List cA) → Hp → Except Unit (List (List cA) × Hp)
 | _, [], aI, H => .ok (aI, H)
 | last, x :: l, aI, H => match bW.find? (eR x.num) with
  | none => .error ()
  | some p => if (match last with | none => false | some n => decide (n ≥ x.num)) || !iy aI bW p then .error () else match cb F p x.ah H with
   | .error u => .error u
   | .ok c => cC F bW rid (some x.num) l (aI.set p.reg.toNat c.1) (c.2.set rid (dT (aI.set p.reg.toNat c.1)))
def jG (bW : List Port) (r : Rw) : Bool := (bW.find? (eR r.num)).isNone && r.right
def ir (k aI : Int) (r : Nat) (rest : List Rw) (bh : Bool) : List Hc := [.v (.int .i64 k), .v (.os r aI.toNat 1), .v (.sl (rest.map Rw.av)), .v (.bool !bh)]
def gJ (F : oL) (ps : List ak) (bh : Bool) : oL := fun part t H =>
 let q := ps.getD part.toNat cr
 match cC F (q.side bh) H.next none t.aO (List.replicate q.aI.toNat []) (dz q part.toNat bh H) with
 | .error u => .error u
 | .ok r => if t.rest.all (jG (q.side bh)) then .ok (.mk H.next part.toNat r.1 t.rest (!bh), r.2.set (H.next + 1) (ir part.toNat q.aI H.next t.rest bh)) else .error ()
def eJ (ps : List ak) (bh : Bool) : Nat → oL
 | 0 => fun _ _ _ => .error ()
 | n + 1 => gJ (eJ ps bh n) ps bh
structure gg (ps : List ak) : Prop where
 len : ps.length ≤ 1000
 sides : ∀ q ∈ ps, q.ins.length ≤ 12 ∧ q.outs.length ≤ 12
 aI : ∀ q ∈ ps, 0 ≤ q.aI ∧ q.aI ≤ 1000
 bW : ∀ q ∈ ps, ∀ x ∈ q.ins ++ q.outs, 0 ≤ x.reg ∧ x.reg < q.aI ∧ x.part < ps.length
structure Tree.CE (t : Tree) : Prop where
 s : t.aO.length ≤ 1000
 r : t.rest.length ≤ 1000
 v : ∀ x ∈ t.aO, x.ah.length ≤ 1000
def Tree.lean (t : Tree) : Prop := t.di Tree.CE
def m6 (ps : List ak) (bh : Bool) : AV := .agg [.sl (ps.map ak.av), .bool bh]
def mg : AV := .tup [.nilp, .bool false]
def wc (f : Fm) : AV := .tup [f.ptr, .bool true]
def GL (P : Program) (fid : FuncId) (ps : List ak) (bh : Bool) (F : oL) (t : Tree) : Prop := ∀ (k : Int), 0 ≤ k → k < (ps.length : Int) → ∀ H, iz P fid [m6 ps bh, .int .i64 k, .agg t.cells] H mg (AL wc (F k t H))
/- Plain laws: how great the parts of a migration are; those ahead of the steps stay. No condition. -/
theorem tg (p : ak) (x : aS) : (aQ p x).ins = p.ins := by
 unfold aQ
 dsimp only
 repeat' split
 all_goals rfl
theorem sJ (p : ak) (x : aS) : p.aI ≤ (aQ p x).aI ∧ (aQ p x).aI ≤ p.aI + 2 := by
 unfold aQ
 dsimp only
 repeat' split
 all_goals (dsimp only; omega)
structure Stepped (w w' : gR) (m : aT) (k : Nat) (p p' : ak) : Prop where
 nm : w.names[k]? = some m.name
 nm' : w'.names[k]? = some m.name
 fit : Fit w.names p m
 at_ : w.all[k]? = some p
 ins : p'.ins = p.ins
 rl : p.aI ≤ p'.aI
 ru : p'.aI ≤ p.aI + 2
 all : w'.all = w.all.set k p' ∨ ∃ (y : Port) (nm : aw), y ∈ p.outs ∧ w'.all = w.all.set k p' ++ [cR { cr with name := nm, born := true, aI := 1, ins := [{ y with reg := 0 }], outs := [{ y with reg := 0 }] }]
theorem Inv.xX {s t : aN} {x : aS} {m : aT} {at_ : Nat} {w : gR} (I : Inv s w) (A : cJ s x t m at_) : ∃ k p p', Stepped w (w.step x) m k p p' := by
 have hm : m ∈ s.msgs := List.mem_of_getElem? A.eq
 obtain ⟨k, p, k1, k2, hF⟩ := I.fwd m hm
 have hne : m.name ≠ [] := gb (A.fP.nm m hm)
 have hk : k < w.all.length := (List.getElem?_eq_some_iff.1 k2).1
 have hkn : k < w.names.length := (List.getElem?_eq_some_iff.1 k1).1
 have hix : eM w.names x.msg = k := jN (by rw [← A.nm]; exact k1) fun j hj => I.uniq j k _ hj (by rw [← A.nm]; exact k1) (by rw [← A.nm]; exact hne)
 have hgd : w.all.getD k cr = p := by rw [List.getD_eq_getElem?_getD, k2]; rfl
 by_cases h6 : x.kind = 6
 ·have hhas : m.eU x.field = true := by have := A.has; simpa [aS.bu, h6] using this
  have hh := fL hhas
  obtain ⟨q1, q2, q3⟩ := fY hF.outs ⟨_, hh.1, hh.2⟩
  let wp : ak := cR { cr with name := x.dest, born := true, aI := 1, ins := [{ aP p.outs x.field with reg := 0 }], outs := [{ aP p.outs x.field with reg := 0 }] }
  let g : Port := ⟨{ eF with name := x.also, num := x.num, ty := 15, ref := x.dest }, p.aI, w.all.length⟩
  let p' : ak := { p with ops := p.ops ++ [{ jx with kind := 4, a := (aP p.outs x.field).reg, b := p.aI, part := w.all.length }], aI := p.aI + 1, outs := ba (aW p.outs x.field) g }
  have hst : w.step x = ⟨(w.all ++ [wp]).set k (cR p'), w.names ++ [x.dest]⟩ := by
   unfold gR.step
   simp only [hix, h6, if_true, bZ, hgd, show ¬ (6 : Int) = 7 by decide, if_false]
   congr 1
   rw [List.getD_eq_getElem?_getD, List.getElem?_set_self (by simp; omega)]
   simp only [Option.getD_some, List.set_set]
   rfl
  refine ⟨k, p, cR p', k1, ?_, hF, k2, rfl, ?_, ?_, .inr ⟨_, x.dest, q1, ?_⟩⟩
  ·rw [hst]; show (w.names ++ [x.dest])[k]? = _
   rw [List.getElem?_append_left hkn]; exact k1
  ·show p.aI ≤ p.aI + 1; omega
  ·show p.aI + 1 ≤ p.aI + 2; omega
  ·rw [hst]; show (w.all ++ [wp]).set k (cR p') = _
   rw [List.set_append, if_pos hk]
 ·by_cases h7 : x.kind = 7
  ·have hhas : m.eU x.field = true := by have := A.has; simpa [aS.bu, h7] using this
   have hh := fL hhas
   obtain ⟨q1, q2, q3⟩ := fY hF.outs ⟨_, hh.1, hh.2⟩
   have q2 : (aP p.outs x.field).f = m.aR x.field := q2
   obtain ⟨m2, g, j2, B⟩ := A.boxed h7
   obtain ⟨j, hj1, hj2⟩ := (hF.part _ q1).1 (by rw [q2]; exact B.ty)
   rw [q2] at hj2
   have hpart : (aP p.outs x.field).part.toNat = j := by rw [hj1]; simp
   have hkk : k ≠ j := fun e => by
    rw [e, hj2] at k1
    injection k1 with k1
    exact B.ne k1
   obtain ⟨p2, hg2⟩ : ∃ p2, w.all.getD j cr = p2 := ⟨_, rfl⟩
   let g' : Port := { (p2.outs.headD hZ) with reg := p.aI }
   let p' : ak := { p with ops := p.ops ++ [{ jx with kind := 5, a := (aP p.outs x.field).reg, b := p.aI, part := (aP p.outs x.field).part }], aI := p.aI + 1, outs := ba (aW p.outs x.field) g' }
   have hst : w.step x = ⟨w.all.set k (cR p'), w.names.set j []⟩ := by
    unfold gR.step
    simp only [hix, h7, if_true, if_false, bZ, hgd, hpart, hg2, show ¬ (7 : Int) = 6 by decide]
    congr 1
    rw [List.getD_eq_getElem?_getD, List.getElem?_set_self hk]
    simp only [Option.getD_some, List.set_set]
    rfl
   refine ⟨k, p, cR p', k1, ?_, hF, k2, rfl, ?_, ?_, .inl ?_⟩
   ·rw [hst]; show (w.names.set j [])[k]? = _
    rw [List.getElem?_set_ne (fun q => hkk q.symm)]; exact k1
   ·show p.aI ≤ p.aI + 1; omega
   ·show p.aI + 1 ≤ p.aI + 2; omega
   ·rw [hst]
  ·have hst : w.step x = ⟨w.all.set k (cR (aQ p x)), w.names⟩ := by
    unfold gR.step
    simp only [hix, h6, h7, if_false, bZ, hgd]
    congr 1
    rw [List.getD_eq_getElem?_getD, List.getElem?_set_self hk]
    simp
   have hr := sJ p x
   exact ⟨k, p, cR (aQ p x), k1, by rw [hst]; exact k1, hF, k2, tg p x, hr.1, hr.2, .inl (by rw [hst])⟩
structure na (w : gR) (n : Nat) : Prop where
 len : w.all.length ≤ 6 + n
 sides : ∀ p ∈ w.all, p.ins.length ≤ 10 ∧ p.outs.length ≤ 10
 aI : ∀ p ∈ w.all, 0 ≤ p.aI ∧ p.aI ≤ 10 + 2 * (n : Int)
 bW : ∀ p ∈ w.all, ∀ x ∈ p.ins ++ p.outs, 0 ≤ x.reg ∧ x.reg < p.aI ∧ x.part < w.all.length ∧ -1 ≤ x.part
theorem Fit.KF {names : List aw} {p : ak} {m : aT} {t : aN} (h : Fit names p m) (ht : t.jd) (hm : m ∈ t.msgs) : p.outs.length ≤ 10 ∧ ∀ x ∈ p.outs, 0 ≤ x.reg ∧ x.reg < p.aI ∧ x.part < names.length ∧ -1 ≤ x.part := by
 refine ⟨?_, fun x hx => ?_⟩
 ·have := ht.sm.f m hm
  rw [← h.outs, List.length_map] at this; exact this
 ·have hr := h.reg x hx
  have hp := h.part x hx
  by_cases e : x.f.ty = 15
  ·obtain ⟨j, h1, h2⟩ := hp.1 e
   have := (List.getElem?_eq_some_iff.1 h2).1
   omega
  ·have := hp.2 e
   omega
theorem Inv.live {t : aN} {w : gR} (I : Inv t w) {k : Nat} {n : aw} (h : w.names[k]? = some n) (hn : n ≠ []) : ∃ m ∈ t.msgs, m.name = n ∧ ∃ p, w.all[k]? = some p ∧ Fit w.names p m := by
 obtain ⟨m, hm, e⟩ := I.back k n h hn
 obtain ⟨k', p, h1, h2, h3⟩ := I.fwd m hm
 have : k' = k := I.uniq k' k n (by rw [h1, e]) h hn
 subst this
 exact ⟨m, hm, e, p, h2, h3⟩
theorem na.step {s t : aN} {x : aS} {m : aT} {at_ : Nat} {w : gR} {n : Nat} (B : na w n) (I : Inv s w) (A : cJ s x t m at_) (I' : Inv t (w.step x)) : na (w.step x) (n + 1) := by
 obtain ⟨k, p, p', S⟩ := I.xX A
 have hne : m.name ≠ [] := gb (A.fP.nm m (List.mem_of_getElem? A.eq))
 have hk : k < w.all.length := (List.getElem?_eq_some_iff.1 S.at_).1
 have hpm : p ∈ w.all := List.mem_of_getElem? S.at_
 have hlen : w.all.length ≤ (w.step x).all.length ∧ (w.step x).all.length ≤ w.all.length + 1 := by
  rcases S.all with e | ⟨y, nm, _, e⟩ <;> rw [e] <;> simp
 have hmem : ∀ q ∈ (w.step x).all, q = p' ∨ q ∈ w.all ∨ ∃ (y : Port) (nm : aw), y ∈ p.outs ∧ q = cR { cr with name := nm, born := true, aI := 1, ins := [{ y with reg := 0 }], outs := [{ y with reg := 0 }] } := by
  intro q hq
  have hs : ∀ q ∈ w.all.set k p', q = p' ∨ q ∈ w.all := fun q hq => by
   rcases List.mem_or_eq_of_mem_set hq with h | h
   ·exact .inr h
   ·exact .inl h
  rcases S.all with e | ⟨y, nm, hy, e⟩
  ·rw [e] at hq
   rcases hs q hq with h | h
   ·exact .inl h
   ·exact .inr (.inl h)
  ·rw [e] at hq
   rcases List.mem_append.1 hq with hq | hq
   ·rcases hs q hq with h | h
    ·exact .inl h
    ·exact .inr (.inl h)
   ·exact .inr (.inr ⟨y, nm, hy, by simpa using hq⟩)
 obtain ⟨m', hm', e', p2, h2, F2⟩ := I'.live S.nm' hne
 have hp2 : p2 = p' := by
  have hk' : (w.step x).all[k]? = some p' := by
   rcases S.all with e | ⟨y, nm, _, e⟩
   ·rw [e, List.getElem?_set_self hk]
   ·rw [e, List.getElem?_append_left (by simpa using hk), List.getElem?_set_self hk]
  rw [hk'] at h2; cases h2; rfl
 subst hp2
 have g2 := F2.KF I'.ok hm'
 have hl' := I'.len
 have bp := B.aI p hpm
 have hrl := S.rl
 have hru := S.ru
 have hB := B.len
 refine ⟨by omega, fun q hq => ?_, fun q hq => ?_, fun q hq z hz => ?_⟩
 ·rcases hmem q hq with rfl | h | ⟨y, nm, hy, rfl⟩
  ·exact ⟨by rw [S.ins]; exact (B.sides p hpm).1, g2.1⟩
  ·exact B.sides q h
  ·exact ⟨by show 1 ≤ 10; omega, by show 1 ≤ 10; omega⟩
 ·rcases hmem q hq with rfl | h | ⟨y, nm, hy, rfl⟩
  ·omega
  ·have := B.aI q h; omega
  ·show (0 : Int) ≤ 1 ∧ (1 : Int) ≤ _; omega
 ·rcases hmem q hq with rfl | h | ⟨y, nm, hy, rfl⟩
  ·rcases List.mem_append.1 hz with hz | hz
   ·rw [S.ins] at hz
    have := B.bW p hpm z (List.mem_append_left _ hz)
    omega
   ·have := g2.2 z hz
    omega
  ·have := B.bW q h z hz
   omega
  ·have hz : z = { y with reg := 0 } := by
    have hz : z ∈ [({ y with reg := 0 } : Port)] ++ [{ y with reg := 0 }] := hz
    simpa using hz
   have := B.bW p hpm y (List.mem_append_right _ hy)
   subst hz
   show (0 : Int) ≤ 0 ∧ (0 : Int) < 1 ∧ y.part < _ ∧ -1 ≤ y.part
   omega
theorem na.begin {s : aN} (hs : s.jd) : na (jg s) 0 := by
 have hl : (jg s).all.length = s.msgs.length := by simp [jg, bm]
 have hm := hs.sm.m
 have hmem : ∀ p ∈ (jg s).all, ∃ m ∈ s.msgs, p.ins = bU s m ∧ p.outs = bU s m ∧ p.aI = m.fields.length := fun p hp => by
  obtain ⟨m, h1, rfl⟩ := List.mem_map.1 hp
  exact ⟨m, h1, rfl, rfl, rfl⟩
 have hpl : ∀ m, (bU s m).length = m.fields.length := fun m => by simp [bU]
 refine ⟨by omega, fun p hp => ?_, fun p hp => ?_, fun p hp x hx => ?_⟩
 ·obtain ⟨m, h1, h2, h3, h4⟩ := hmem p hp
  have := hs.sm.f m h1
  rw [h2, h3, hpl]; omega
 ·obtain ⟨m, h1, h2, h3, h4⟩ := hmem p hp
  have := hs.sm.f m h1
  rw [h4]; omega
 ·obtain ⟨m, h1, h2, h3, h4⟩ := hmem p hp
  have hx : x ∈ bU s m := by
   rw [h2, h3] at hx
   rcases List.mem_append.1 hx with h | h <;> exact h
  obtain ⟨k, a1, a2, a3, a4⟩ := jI hx
  have hpt : x.part < s.msgs.length ∧ -1 ≤ x.part := by
   rw [a4]
   split
   ·rcases ao (fun m : aT => m.name == x.f.ref) s.msgs 0 with ⟨h1, h2⟩ | ⟨i, hi, h1, h2⟩
    ·have : s.bJ x.f.ref = -1 := h1
     omega
    ·have : s.bJ x.f.ref = ((0 + i : Nat) : Int) := h1
     omega
   ·omega
  omega
theorem kc.begin (s : aN) : kc s (jg s) := ⟨fun k m h => ⟨cR { cr with name := m.name, ins := bU s m, outs := bU s m, aI := m.fields.length }, by simp [jg, bm, h], rfl, Int.le_refl _⟩⟩
theorem kc.step {r s t : aN} {x : aS} {m : aT} {at_ : Nat} {w : gR} (B : kc r w) (I : Inv s w) (A : cJ s x t m at_) : kc r (w.step x) := by
 obtain ⟨k, p, p', S⟩ := I.xX A
 have hk : k < w.all.length := (List.getElem?_eq_some_iff.1 S.at_).1
 refine ⟨fun i y hy => ?_⟩
 obtain ⟨q, h1, h2, h3⟩ := B.ins i y hy
 have hi : i < w.all.length := (List.getElem?_eq_some_iff.1 h1).1
 have hget : (w.step x).all[i]? = (w.all.set k p')[i]? := by
  rcases S.all with e | ⟨z, nm, _, e⟩
  ·rw [e]
  ·rw [e, List.getElem?_append_left (by simpa using hi)]
 rw [hget]
 by_cases e : i = k
 ·subst e
  rw [S.at_] at h1; cases h1
  exact ⟨p', List.getElem?_set_self hk, by rw [S.ins]; exact h2, Int.le_trans h3 S.rl⟩
 ·exact ⟨q, by rw [List.getElem?_set_ne (fun h => e h.symm)]; exact h1, h2, h3⟩
theorem rp : ∀ {l : List aS} {r s : aN} {acc L : List aN} {w : gR} {n : Nat}, Inv s w → na w n → kc r w → aN.eA l s acc = .ok L → na (l.foldl gR.step w) (n + l.length) ∧ kc r (l.foldl gR.step w)
 | [], r, s, acc, L, w, n, I, B, C, h => ⟨B, C⟩
 | x :: l, r, s, acc, L, w, n, I, B, C, h => by
  unfold aN.eA at h
  cases e : s.apply x with
  | error k => rw [e] at h; cases h
  | ok t =>
   rw [e] at h
   have I' := I.step e
   obtain ⟨m, at_, A⟩ := jn e
   have := rp I' (B.step I A I') (C.step I A) h
   have e2 : n + (x :: l).length = n + 1 + l.length := by simp; omega
   rw [e2]; exact this
theorem yg {s : aN} {l : List aS} {L : List aN} (h : s.all l = .ok L) : na (l.foldl gR.step (jg s)) l.length ∧ kc s (l.foldl gR.step (jg s)) := by
 unfold aN.all at h
 split at h
 ·cases h
 rename_i h1
 split at h
 ·cases h
 have hs := aN.ga (by simpa using h1)
 have := rp (Inv.begin hs) (na.begin hs) (kc.begin s) h
 simpa using this
/- Plain laws: parts stand for messages; their ports lie by rising numbers. No condition. -/
structure eW (ps : List ak) (bh : Bool) (s : aN) (St : Nat → aT → Prop) : Prop where
 mem : ∀ k m, St k m → m ∈ s.msgs
 at_ : ∀ k m, St k m → ∃ q, ps[k]? = some q ∧ (q.side bh).map (·.f) = m.fields ∧ (∀ x ∈ q.side bh, 0 ≤ x.reg ∧ x.reg < q.aI) ∧ ((q.side bh).map (·.reg)).Nodup ∧
  ∀ x ∈ q.side bh, (x.f.ty = 15 → ∃ (j : Nat) (m' : aT), x.part = (j : Int) ∧ s.eS x.f.ref = some m' ∧ St j m') ∧ (x.f.ty ≠ 15 → x.part = -1)
theorem xq {s : aN} (hs : s.jd) {m : aT} (hm : m ∈ s.msgs) {f : ag} (hf : f ∈ m.fields) (ht : f.ty = 15) : ∃ (i : Nat) (m' : aT), s.bJ f.ref = (i : Int) ∧ s.msgs[i]? = some m' ∧ s.eS f.ref = some m' ∧ m'.name = f.ref := by
 have hr := (hs.refs m hm f hf).2 ht
 rcases s.m9 f.ref with ⟨h1, h2⟩ | ⟨i, hi, h1, h2, h3⟩
 ·omega
 ·exact ⟨i, s.msgs[i], h1, List.getElem?_eq_getElem hi, h2, h3⟩
theorem Inv.vd {t : aN} {w : gR} (I : Inv t w) : eW w.all true t fun k m => m ∈ t.msgs ∧ w.names[k]? = some m.name := by
 refine ⟨fun k m h => h.1, fun k m ⟨hm, hk⟩ => ?_⟩
 have hne : m.name ≠ [] := gb (I.ok.nm m hm)
 obtain ⟨k', p, h1, h2, F⟩ := I.fwd m hm
 have : k' = k := I.uniq k' k _ h1 hk hne
 subst this
 refine ⟨p, h2, F.outs, F.reg, F.dist, fun x hx => ⟨fun e => ?_, (F.part x hx).2⟩⟩
 obtain ⟨j, a1, a2⟩ := (F.part x hx).1 e
 obtain ⟨i, m', _, b2, b3, b4⟩ := xq I.ok hm (f := x.f) (by rw [← F.outs]; exact List.mem_map_of_mem hx) e
 exact ⟨j, m', a1, b3, List.mem_of_getElem? b2, by rw [a2, b4]⟩
theorem kc.vd {s : aN} {w : gR} (hs : s.jd) (I : kc s w) : eW w.all false s fun k m => s.msgs[k]? = some m := by
 refine ⟨fun k m h => List.mem_of_getElem? h, fun k m hk => ?_⟩
 obtain ⟨p, h1, h2, h3⟩ := I.ins k m hk
 have hm := List.mem_of_getElem? hk
 have hpm : (bU s m).map (·.f) = m.fields := nC s m.fields 0
 refine ⟨p, h1, by rw [sN, h2]; exact hpm, fun x hx => ?_, ?_, fun x hx => ?_⟩
 ·rw [sN, h2] at hx
  obtain ⟨i, a1, a2, a3, a4⟩ := jI hx
  omega
 ·rw [sN, h2]
  have := lU s m.fields 0
  show ((bU s m).map (·.reg)).Nodup
  unfold bU
  rw [this]
  exact List.Pairwise.map _ (fun a b hab => by omega) List.nodup_range'
 ·rw [sN, h2] at hx
  obtain ⟨i, a1, a2, a3, a4⟩ := jI hx
  refine ⟨fun e => ?_, fun e => by rw [a4, if_neg e]⟩
  rw [if_pos e] at a4
  obtain ⟨j, m', b1, b2, b3, b4⟩ := xq hs hm a3 e
  exact ⟨j, m', by rw [a4, b1], b3, b2⟩
theorem na.parts {w : gR} {n : Nat} (B : na w n) (hn : n ≤ 40) : gg w.all := by
 have hl := B.len
 refine ⟨by omega, fun q hq => ?_, fun q hq => ?_, fun q hq x hx => ?_⟩
 ·have := B.sides q hq; omega
 ·have := B.aI q hq; omega
 ·have := B.bW q hq x hx; omega
/-! ### sorting what is sorted -/
theorem Fy {a b : Int} : uo a b < 0 ↔ a < b := by
 unfold uo
 split
 ·simp; omega
 ·split
  ·simp; omega
  ·simp; omega
theorem CC {x y : Port} : m7 x y = true ↔ x.f.num < y.f.num := by unfold m7; rw [decide_eq_true_eq]; exact Fy
theorem Dv {ys : List Port} (h : cy (fun x : Port => x.f.num) ys) : ∀ (j : Nat), j < ys.length → fR j ys = ys
 | 0, _ => rfl
 | j + 1, hj => by
  unfold fR
  have h1 : gD ys (j + 1) = ys[j + 1] := by unfold gD; rw [List.getD_eq_getElem?_getD, List.getElem?_eq_getElem hj]; rfl
  have h2 : gD ys j = ys[j]'(by omega) := by unfold gD; rw [List.getD_eq_getElem?_getD, List.getElem?_eq_getElem (by omega)]; rfl
  have hlt := List.pairwise_iff_getElem.1 h j (j + 1) (by omega) hj (Nat.lt_succ_self j)
  have : m7 (gD ys (j + 1)) (gD ys j) = false := by
   cases e : m7 (gD ys (j + 1)) (gD ys j) with
   | false => rfl
   | true => rw [CC, h1, h2] at e; dsimp only at hlt; omega
  rw [this]; rfl
theorem ti {ys : List Port} (h : cy (fun x : Port => x.f.num) ys) : ∀ (k i : Nat), i + k ≤ ys.length → jE k i ys = ys
 | 0, i, _ => rfl
 | k + 1, i, hk => by
  unfold jE
  rw [Dv h i (by omega)]
  exact ti h k (i + 1) (by omega)
theorem Au {ys : List Port} (h : cy (fun x : Port => x.f.num) ys) : cW ys = ys := by
 unfold cW
 cases e : ys.length with
 | zero =>
  show jE (0 - 1) 1 ys = ys
  rfl
 | succ n => exact ti h _ _ (by omega)
/-! ### what a part that stands for a message has -/
structure ev (ps : List ak) (bh : Bool) (s : aN) (St : Nat → aT → Prop) (k : Nat) (m : aT) (q : ak) : Prop where
 st : St k m
 mm : m ∈ s.msgs
 at_ : ps[k]? = some q
 dr : (q.side bh).map (·.f) = m.fields
 reg : ∀ x ∈ q.side bh, 0 ≤ x.reg ∧ x.reg < q.aI
 dist : ((q.side bh).map (·.reg)).Nodup
 part : ∀ x ∈ q.side bh, (x.f.ty = 15 → ∃ (j : Nat) (m' : aT), x.part = (j : Int) ∧ s.eS x.f.ref = some m' ∧ St j m') ∧ (x.f.ty ≠ 15 → x.part = -1)
 rise : cy (fun x : Port => x.f.num) (q.side bh)
theorem eW.Jj {ps : List ak} {bh : Bool} {s : aN} {St : Nat → aT → Prop} (S : eW ps bh s St) (hs : s.jd) {k : Nat} {m : aT} (h : St k m) : ∃ q, ev ps bh s St k m q := by
 obtain ⟨q, h1, h2, h3, h4, h5⟩ := S.at_ k m h
 have hm := S.mem k m h
 refine ⟨q, h, hm, h1, h2, h3, h4, h5, ?_⟩
 have h9 := hs.fr m hm
 rw [← h2] at h9
 have h9 : List.Pairwise (fun a b : ag => a.num < b.num) ((q.side bh).map (·.f)) := h9
 exact (List.pairwise_map (R := fun a b : ag => a.num < b.num)).1 h9
section
variable {ps : List ak} {bh : Bool} {s : aN} {St : Nat → aT → Prop} {k : Nat} {m : aT} {q : ak}
theorem ev.find (P : ev ps bh s St k m q) (num : Int) : m.fix num = ((q.side bh).find? (eR num)).map (·.f) := by
 unfold aT.fix
 have e : (fun f : ag => f.num == num) ∘ (fun x : Port => x.f) = eR num := by
  funext x
  show (x.f.num == num) = decide (x.f.num = num)
  rw [Bool.eq_iff_iff]; simp
 rw [← P.dr, List.find?_map, e]
theorem ev.get (P : ev ps bh s St k m q) : ps.getD k cr = q := by rw [List.getD_eq_getElem?_getD, P.at_]; rfl
theorem ev.inj (P : ev ps bh s St k m q) {x y : Port} (hx : x ∈ q.side bh) (hy : y ∈ q.side bh) (e : x.f.num = y.f.num) : x = y := by
 obtain ⟨i, hi, rfl⟩ := List.mem_iff_getElem.1 hx
 obtain ⟨j, hj, rfl⟩ := List.mem_iff_getElem.1 hy
 rcases Nat.lt_trichotomy i j with h | h | h
 ·have := List.pairwise_iff_getElem.1 P.rise i j hi hj h; dsimp only at this; omega
 ·subst h; rfl
 ·have := List.pairwise_iff_getElem.1 P.rise j i hj hi h; dsimp only at this; omega
theorem ev.HB (P : ev ps bh s St k m q) {x y : Port} (hx : x ∈ q.side bh) (hy : y ∈ q.side bh) (e : x.reg = y.reg) : x = y := by
 obtain ⟨i, hi, rfl⟩ := List.mem_iff_getElem.1 hx
 obtain ⟨j, hj, rfl⟩ := List.mem_iff_getElem.1 hy
 have hp := List.pairwise_map.1 P.dist
 rcases Nat.lt_trichotomy i j with h | h | h
 ·exact absurd e (List.pairwise_iff_getElem.1 hp i j hi hj h)
 ·subst h; rfl
 ·exact absurd e.symm (List.pairwise_iff_getElem.1 hp j i hj hi h)
theorem ev.yY (P : ev ps bh s St k m q) {x : Port} (hx : x ∈ q.side bh) : (q.side bh).find? (eR x.f.num) = some x := by
 cases e : (q.side bh).find? (eR x.f.num) with
 | none =>
  have := List.find?_eq_none.1 e x hx
  simp [eR] at this
 | some y =>
  have h1 := List.mem_of_find?_eq_some e
  have h2 := List.find?_some e
  simp only [eR, decide_eq_true_eq] at h2
  rw [P.inj h1 hx h2]
end
/- Plain laws: just the values of a message are loaded; what is loaded is that value. No condition. -/
/-! ### how many messages and values a tree has -/
mutual
def Tree.ms : Tree → Nat
 | .mk ss _ => 1 + cY ss
def Slot.ms : Slot → Nat
 | .mk _ vs => c8 vs
def bD.ms : bD → Nat
 | .mk _ _ m => cj m
def cY : List Slot → Nat
 | [] => 0
 | x :: l => x.ms + cY l
def c8 : List bD → Nat
 | [] => 0
 | v :: l => v.ms + c8 l
def cj : List Tree → Nat
 | [] => 0
 | t :: l => t.ms + cj l
end
mutual
def Tree.vs : Tree → Nat
 | .mk ss _ => cX ss
def Slot.vs : Slot → Nat
 | .mk _ vs => vs.length + c7 vs
def bD.vs : bD → Nat
 | .mk _ _ m => ch m
def cX : List Slot → Nat
 | [] => 0
 | x :: l => x.vs + cX l
def c7 : List bD → Nat
 | [] => 0
 | v :: l => v.vs + c7 l
def ch : List Tree → Nat
 | [] => 0
 | t :: l => t.vs + ch l
end
theorem Tree.gM (t : Tree) : t.ms = 1 + cY t.aO := by cases t; simp [Tree.ms, Tree.aO]
theorem Tree.gL (t : Tree) : t.vs = cX t.aO := by cases t; simp [Tree.vs, Tree.aO]
theorem Slot.gM (x : Slot) : x.ms = c8 x.ah := by cases x; simp [Slot.ms, Slot.ah]
theorem Slot.gL (x : Slot) : x.vs = x.ah.length + c7 x.ah := by cases x; simp [Slot.vs, Slot.ah]
theorem bD.gM (v : bD) : v.ms = cj v.m := by cases v; simp [bD.ms, bD.m]
theorem bD.gL (v : bD) : v.vs = ch v.m := by cases v; simp [bD.vs, bD.m]
theorem kF : ∀ (a b : List Slot), cY (a ++ b) = cY a + cY b
 | [], b => by rw [cY]; simp
 | x :: a, b => by rw [List.cons_append, cY, cY, kF a b]; omega
theorem kE : ∀ (a b : List Slot), cX (a ++ b) = cX a + cX b
 | [], b => by rw [cX]; simp
 | x :: a, b => by rw [List.cons_append, cX, cX, kE a b]; omega
/-! ### where a frame lies -/
inductive Fm.tP (H : Hp) (lo hi : Nat) : Fm → Prop where
 | mk (f : Fm) (h0 : lo ≤ f.r ∧ f.r + 1 < hi) (h1 : H.obj (f.r + 1) = some f.uY) (h2 : H.obj f.r = some (dT f.aI)) (hb : f.aI.length ≤ 9000000000000000000 ∧ ∀ l ∈ f.aI, l.length ≤ 9000000000000000000)
   (h3 : ∀ l ∈ f.aI, ∀ c ∈ l, ∀ g, c.f = some g → Fm.tP H lo hi g) : Fm.tP H lo hi f
theorem Fm.tP.at {H : Hp} {lo hi : Nat} {f : Fm} (h : f.tP H lo hi) : f.At H := by
 induction h with
 | mk f h0 h1 h2 hb h3 ih => exact .mk f h1 h2 hb ih
theorem Fm.tP.move {H H' : Hp} {lo hi lo' hi' : Nat} {f : Fm} (h : f.tP H lo hi) (hl : lo' ≤ lo) (hh : hi ≤ hi') (ho : ∀ i, lo ≤ i → i < hi → H'.obj i = H.obj i) : f.tP H' lo' hi' := by
 induction h with
 | mk f h0 h1 h2 hb h3 ih =>
  exact .mk f ⟨by omega, by omega⟩ (by rw [ho _ (by omega) h0.2]; exact h1) (by rw [ho _ h0.1 (by omega)]; exact h2) hb fun l hl' c hc g hg => ih l hl' c hc g hg
section
variable {ps : List ak} {bh : Bool} {s : aN} {St : Nat → aT → Prop} {k : Nat} {m : aT} {q : ak} {n : Nat}
structure vN (ps : List ak) (bh : Bool) (n lo : Nat) (H' : Hp) (g : Fm) : Prop where
 lies : g.tP H' lo H'.next
 good : g.Good ps bh n
structure fO (ps : List ak) (bh : Bool) (n lo : Nat) (H' : Hp) (cs : List cA) (vs : List bD) : Prop where
 sub : ∀ c ∈ cs, ∀ g, c.f = some g → vN ps bh n lo H' g
 val : cs.map (lJ (lD ps bh n)) = vs
 ms : cT cs = c8 vs
 vn : cS cs = c7 vs
theorem vN.move {lo lo' : Nat} {H H' : Hp} {g : Fm} (h : vN ps bh n lo H g) (hl : lo' ≤ lo) (hh : H.next ≤ H'.next) (ho : ∀ i, lo ≤ i → i < H.next → H'.obj i = H.obj i) : vN ps bh n lo' H' g := ⟨h.lies.move hl hh ho, h.good⟩
theorem fO.move {lo lo' : Nat} {H H' : Hp} {cs : List cA} {vs : List bD} (h : fO ps bh n lo H cs vs) (hl : lo' ≤ lo) (hh : H.next ≤ H'.next) (ho : ∀ i, lo ≤ i → i < H.next → H'.obj i = H.obj i) : fO ps bh n lo' H' cs vs :=
 ⟨fun c hc g hg => (h.sub c hc g hg).move hl hh ho, h.val, h.ms, h.vn⟩
theorem fO.cons {lo : Nat} {H : Hp} {c : cA} {v : bD} {cs : List cA} {vs : List bD} (h1 : fO ps bh n lo H [c] [v]) (h2 : fO ps bh n lo H cs vs) : fO ps bh n lo H (c :: cs) (v :: vs) := by
 have m1 := h1.ms
 have v1 := h1.vn
 have e1 := h1.val
 rw [cT, cT, c8, c8] at m1
 rw [cS, cS, c7, c7] at v1
 refine ⟨fun d hd g hg => ?_, ?_, ?_, ?_⟩
 ·rcases List.mem_cons.1 hd with rfl | hd
  ·exact h1.sub _ (List.mem_singleton.2 rfl) g hg
  ·exact h2.sub d hd g hg
 ·simp only [List.map_cons, List.map_nil, List.cons.injEq, and_true] at e1
  rw [List.map_cons, e1, h2.val]
 ·rw [cT, c8, h2.ms]; omega
 ·rw [cS, c7, h2.vn]; omega
theorem fO.nil {lo : Nat} {H : Hp} : fO ps bh n lo H [] [] := ⟨fun c hc => (List.not_mem_nil hc).elim, rfl, rfl, rfl⟩
structure DY (ps : List ak) (bh : Bool) (n : Nat) (k : Nat) (t : Tree) (H : Hp) (f : Fm) (H' : Hp) : Prop where
 more : H.more H'
 lies : f.tP H' H.next H'.next
 good : f.Good ps bh n
 tree : lD ps bh n f = t
 ms : f.ms = t.ms
 vn : f.vs = t.vs
 part : f.part = k
 done : f.done = !bh
 root : f.r = H.next
def qg (ps : List ak) (bh : Bool) (s : aN) (n k : Nat) (m : aT) (t : Tree) : Prop := ∀ H : Hp, (t.ok s m.name = true → ∃ f H', eJ ps bh n k t H = .ok (f, H') ∧ DY ps bh n k t H f H') ∧ (t.ok s m.name = false → eJ ps bh n k t H = .error ())
theorem yp {s r : aN} {f : ag} {v : bD} (h : f.ty ≠ 15) : v.ok s f = v.ok r f := by
 rw [bD.ok_eq, bD.ok_eq]; simp only [h, if_false]
theorem tb {s : aN} {f : ag} {v : bD} (h : f.ty ≠ 15) (hv : v.ok s f = true) : v.m = [] := by
 rw [bD.ok_eq] at hv
 simp only [h, if_false] at hv
 have : v.m.length = 0 := by
  split at hv
  ·simp at hv; exact List.length_eq_zero_iff.2 hv.2
  ·split at hv
   ·simp at hv; exact List.length_eq_zero_iff.2 hv.1.2
   ·split at hv
    ·simp at hv; exact List.length_eq_zero_iff.2 hv.2
    ·cases hv
 exact List.length_eq_zero_iff.1 this
theorem Aa {s : aN} {f : ag} {v : bD} (h : f.ty = 15) : v.ok s f = (decide (v.n = 0) && v.s == [] && eX s f.ref v.m) := by
 rw [bD.ok_eq, h]
 have : nJ 15 = false := by decide
 rw [this]
 simp
theorem wM {s : aN} {n : aw} {m : aT} (h : s.eS n = some m) : m.name = n := by
 have := List.find?_some h
 simpa using this
theorem AR (P : ev ps bh s St k m q) {x : Port} (hx : x ∈ q.side bh) {v : bD} (ih : ∀ u ∈ v.m, ∀ j m', St j m' → qg ps bh s n j m' u) (H : Hp) :
  (v.ok s x.f = true → ∃ c H', fM (eJ ps bh n) x v H = .ok (c, H') ∧ H.more H' ∧ fO ps bh n H.next H' [c] [v]) ∧ (v.ok s x.f = false → fM (eJ ps bh n) x v H = .error ()) := by
 obtain ⟨p1, p2⟩ := P.part x hx
 unfold fM
 by_cases ht : x.f.ty = 15
 ·obtain ⟨j, m', e1, e2, e3⟩ := p1 ht
  have hnp : ¬ x.part < 0 := by omega
  rw [if_neg hnp, Aa ht, e1]
  have hnm := wM e2
  constructor
  ·intro h
   simp only [Bool.and_eq_true, decide_eq_true_eq, beq_iff_eq] at h
   obtain ⟨⟨h1, h2⟩, h3⟩ := h
   obtain ⟨u, hu⟩ : ∃ u, v.m = [u] := by
    cases hm : v.m with
    | nil => rw [hm] at h3; simp [eX] at h3
    | cons u l => cases l with
     | nil => exact ⟨u, rfl⟩
     | cons w l => rw [hm] at h3; simp [eX] at h3
   rw [hu] at h3
   have h3 : u.ok s x.f.ref = true := by simpa [eX] using h3
   rw [if_pos ⟨h1, h2, by rw [hu]; rfl⟩, hu]
   obtain ⟨f, H', q1, q2⟩ := (ih u (by rw [hu]; exact List.mem_singleton.2 rfl) j m' e3 H).1 (by rw [hnm]; exact h3)
   show ∃ c H', (match eJ ps bh n (j : Int) u H with | .ok p => Except.ok (cA.mk 0 [] (some p.1), p.2) | .error u => .error u) = .ok (c, H') ∧ _
   rw [q1]
   have hv : v = .mk 0 [] [u] := bD.ext h1 h2 hu
   refine ⟨_, H', rfl, q2.more, fun c hc g hg => ?_, ?_, ?_, ?_⟩
   ·cases List.mem_singleton.1 hc
    cases hg
    exact ⟨q2.lies, q2.good⟩
   ·show [bD.mk 0 [] [lD ps bh n f]] = [v]
    rw [q2.tree, hv]
   ·rw [cT, cT, cA.gM, c8, c8, bD.gM, hu, cj, cj]
    show f.ms + 0 = u.ms + 0 + 0
    rw [q2.ms]
   ·rw [cS, cS, cA.gL, c7, c7, bD.gL, hu, ch, ch]
    show f.vs + 0 = u.vs + 0 + 0
    rw [q2.vn]
  ·intro h
   by_cases hc : v.n = 0 ∧ v.s = [] ∧ v.m.length = 1
   ·rw [if_pos hc]
    obtain ⟨h1, h2, h3⟩ := hc
    obtain ⟨u, hu⟩ : ∃ u, v.m = [u] := by
     cases hm : v.m with
     | nil => rw [hm] at h3; simp at h3
     | cons u l => cases l with
      | nil => exact ⟨u, rfl⟩
      | cons w l => rw [hm] at h3; simp at h3
    rw [hu] at h
    have h3 : u.ok s x.f.ref = false := by simpa [eX, h1, h2] using h
    rw [hu]
    have := (ih u (by rw [hu]; exact List.mem_singleton.2 rfl) j m' e3 H).2 (by rw [hnm]; exact h3)
    show (match eJ ps bh n (j : Int) u H with | .ok p => Except.ok (cA.mk 0 [] (some p.1), p.2) | .error u => .error u) = .error ()
    rw [this]
   ·rw [if_neg hc]
 ·have hp := p2 ht
  rw [if_pos (by omega), yp (s := pC) (r := s) ht]
  constructor
  ·intro h
   rw [if_pos h]
   have hm := tb ht h
   refine ⟨_, H, rfl, Hp.more.refl H, fun c hc g hg => ?_, ?_, ?_, ?_⟩
   ·cases List.mem_singleton.1 hc; cases hg
   ·show [bD.mk v.n v.s []] = [v]
    congr 1
    exact bD.ext rfl rfl hm.symm
   ·rw [cT, cT, cA.gM, c8, c8, bD.gM, hm, cj]; rfl
   ·rw [cS, cS, cA.gL, c7, c7, bD.gL, hm, ch]; rfl
  ·intro h
   rw [h]; rfl
theorem qY (P : ev ps bh s St k m q) {x : Port} (hx : x ∈ q.side bh) : ∀ (l : List bD) (ih : ∀ v ∈ l, ∀ u ∈ v.m, ∀ j m', St j m' → qg ps bh s n j m' u) (H : Hp),
  ((gq s x.f l = true ∧ ∀ v ∈ l, (x.f.hidden && decide (v.n = 0) && v.s == []) = false) → ∃ cs H', cp (eJ ps bh n) x l H = .ok (cs, H') ∧ H.more H' ∧ fO ps bh n H.next H' cs l) ∧
  ((gq s x.f l = false ∨ ∃ v ∈ l, (x.f.hidden && decide (v.n = 0) && v.s == []) = true) → cp (eJ ps bh n) x l H = .error ())
 | [], ih, H => ⟨fun _ => ⟨[], H, rfl, Hp.more.refl H, fO.nil⟩, fun h => by
   rcases h with h | ⟨v, hv, _⟩
   ·simp [gq] at h
   ·cases hv⟩
 | v :: l, ih, H => by
  obtain ⟨c1, c2⟩ := AR P hx (ih v (List.mem_cons_self ..)) H
  unfold cp
  constructor
  ·rintro ⟨h1, h2⟩
   rw [gq, Bool.and_eq_true] at h1
   obtain ⟨c, H1, q1, q2, q3⟩ := c1 h1.1
   obtain ⟨r1, _⟩ := qY P hx l (fun w hw => ih w (List.mem_cons_of_mem _ hw)) H1
   obtain ⟨cs, H2, s1, s2, s3⟩ := r1 ⟨h1.2, fun w hw => h2 w (List.mem_cons_of_mem _ hw)⟩
   rw [q1]
   dsimp only
   rw [h2 v (List.mem_cons_self ..), s1]
   refine ⟨c :: cs, H2, rfl, q2.trans s2, fO.cons (q3.move (Nat.le_refl _) s2.1 fun i _ hi => s2.2 i hi) (s3.move q2.1 (Nat.le_refl _) fun _ _ _ => rfl)⟩
  ·intro h
   cases e : v.ok s x.f with
   | false => rw [c2 e]
   | true =>
    obtain ⟨c, H1, q1, q2, q3⟩ := c1 e
    rw [q1]
    dsimp only
    cases e2 : (x.f.hidden && decide (v.n = 0) && v.s == []) with
    | true => rfl
    | false =>
     simp only [Bool.false_eq_true, if_false]
     obtain ⟨_, r2⟩ := qY P hx l (fun w hw => ih w (List.mem_cons_of_mem _ hw)) H1
     rw [r2]
     rcases h with h | ⟨w, hw, h⟩
     ·rw [gq, e, Bool.true_and] at h; exact .inl h
     ·rcases List.mem_cons.1 hw with rfl | hw
      ·rw [e2] at h; cases h
      ·exact .inr ⟨w, hw, h⟩
theorem wz (P : ev ps bh s St k m q) {y : Slot} {x : Port} (hx : (q.side bh).find? (eR y.num) = some x) (ih : ∀ v ∈ y.ah, ∀ u ∈ v.m, ∀ j m', St j m' → qg ps bh s n j m' u) (H : Hp) :
  (y.ok s m = true → ∃ cs H', cb (eJ ps bh n) x y.ah H = .ok (cs, H') ∧ H.more H' ∧ fO ps bh n H.next H' cs y.ah ∧ y.ah ≠ []) ∧ (y.ok s m = false → cb (eJ ps bh n) x y.ah H = .error ()) := by
 have hxm := List.mem_of_find?_eq_some hx
 obtain ⟨g1, g2⟩ := qY P hxm y.ah ih H
 have hfix : m.fix y.num = some x.f := by rw [P.find, hx]; rfl
 rw [Slot.ok_eq, hfix]
 dsimp only
 unfold cb
 have hhid : ∀ (hl : y.ah.length = 1), (!x.f.hidden || (!decide ((y.ah.head?.map bD.n).getD 0 = 0) || !((y.ah.head?.map bD.s).getD [] == []))) = true ↔ ∀ v ∈ y.ah, (x.f.hidden && decide (v.n = 0) && v.s == []) = false := by
  intro hl
  cases hv : y.ah with
  | nil => rw [hv] at hl; simp at hl
  | cons v l =>
   cases l with
   | cons w l => rw [hv] at hl; simp at hl
   | nil =>
    have e : decide (v.n = 0) = true ↔ v.n = 0 := decide_eq_true_iff
    cases x.f.hidden
    ·simp
    ·by_cases h1 : v.n = 0 <;> by_cases h2 : v.s = [] <;> simp [h1, h2]
 have hidr : x.f.hidden = true → x.f.rep = false := by unfold ag.hidden; cases x.f.rep <;> simp
 constructor
 ·intro h
  simp only [Bool.and_eq_true, decide_eq_true_eq] at h
  obtain ⟨⟨⟨h1, h2⟩, h3⟩, h4⟩ := h
  have hne : ¬ (y.ah.length = 0 ∨ (x.f.rep = false ∧ 1 < y.ah.length)) := by
   rintro (h | ⟨h, h'⟩)
   ·omega
   ·rw [h] at h2; simp at h2; omega
  rw [if_neg hne]
  obtain ⟨cs, H', a1, a2, a3⟩ := g1 ⟨h3, by
   cases hr : x.f.rep with
   | true =>
    intro v hv
    have : x.f.hidden = false := by cases e : x.f.hidden with | false => rfl | true => rw [hidr e] at hr; cases hr
    rw [this]; rfl
   | false => exact (hhid (by rw [hr] at h2; simpa using h2)).1 h4⟩
  exact ⟨cs, H', a1, a2, a3, fun e => by rw [e] at h1; simp at h1⟩
 ·intro h
  by_cases hc : y.ah.length = 0 ∨ (x.f.rep = false ∧ 1 < y.ah.length)
  ·rw [if_pos hc]
  ·rw [if_neg hc]
   apply g2
   have hl0 : 0 < y.ah.length := by omega
   have hr : (x.f.rep || decide (y.ah.length = 1)) = true := by
    cases e : x.f.rep with
    | true => rfl
    | false => simp; have : ¬ 1 < y.ah.length := fun h' => hc (.inr ⟨e, h'⟩); omega
   rw [decide_eq_true hl0, hr, Bool.true_and, Bool.true_and, Bool.and_eq_false_iff] at h
   rcases h with h | h
   ·exact .inl h
   ·right
    have hh : x.f.hidden = true := by cases e : x.f.hidden with | true => rfl | false => rw [e] at h; simp at h
    have hl1 : y.ah.length = 1 := by rw [hidr hh] at hr; simpa using hr
    apply Classical.byContradiction
    intro hno
    have := (hhid hl1).2 fun v hv => by
     cases e : (x.f.hidden && decide (v.n = 0) && v.s == []) with
     | false => rfl
     | true => exact absurd ⟨v, hv, e⟩ hno
    rw [this] at h; cases h
end
/- Plain laws: just the values of a message are loaded (the slots, and all of it). No condition. -/
theorem ui {α β : Type} {f g : α → Option β} : ∀ {l : List α}, (∀ x ∈ l, f x = g x) → l.filterMap f = l.filterMap g
 | [], _ => rfl
 | a :: l, h => by rw [List.filterMap_cons, List.filterMap_cons, h a (List.mem_cons_self ..), ui fun x hx => h x (List.mem_cons_of_mem _ hx)]
def fT (l : List Slot) (num : Int) : List bD := ((l.find? fun x => decide (x.num = num)).map Slot.ah).getD []
theorem mx {l : List Slot} {num : Int} (h : ∀ x ∈ l, x.num ≠ num) : fT l num = [] := by
 unfold fT
 rw [List.find?_eq_none.2 fun x hx => by simpa using h x hx]; rfl
theorem tZ {l : List Slot} {y : Slot} {num : Int} (h : ∀ x ∈ l, x.num ≠ y.num) : fT (l ++ [y]) num = if num = y.num then y.ah else fT l num := by
 unfold fT
 rw [List.find?_append]
 by_cases e : num = y.num
 ·rw [if_pos e, e, List.find?_eq_none.2 fun x hx => by simpa using h x hx]
  simp
 ·rw [if_neg e]
  have : ¬ y.num = num := fun q => e q.symm
  cases hf : l.find? (fun x => decide (x.num = num)) with
  | none => simp [this]
  | some z => simp
theorem lP {l : List Slot} (h : cy Slot.num l) {y : Slot} (hy : y ∈ l) : fT l y.num = y.ah := by
 unfold fT
 cases e : l.find? (fun x => decide (x.num = y.num)) with
 | none =>
  have := List.find?_eq_none.1 e y hy
  simp at this
 | some z =>
  have h1 := List.mem_of_find?_eq_some e
  have h2 : z.num = y.num := by simpa using List.find?_some e
  have : z = y := by
   obtain ⟨i, hi, rfl⟩ := List.mem_iff_getElem.1 h1
   obtain ⟨j, hj, rfl⟩ := List.mem_iff_getElem.1 hy
   rcases Nat.lt_trichotomy i j with h' | h' | h'
   ·have := List.pairwise_iff_getElem.1 h i j hi hj h'; omega
   ·subst h'; rfl
   ·have := List.pairwise_iff_getElem.1 h j i hj hi h'; omega
  subst this; rfl
theorem pG : ∀ (g : List (List cA)) (i : Nat) (c : List cA), i < g.length → g.getD i [] = [] → cM (g.set i c) = cM g + cT c
 | a :: g, 0, c, _, h => by
  have : a = [] := h
  subst this
  rw [List.set_cons_zero, cM, cM, cT]; omega
 | a :: g, i + 1, c, hi, h => by
  have := pG g i c (by simpa using hi) h
  rw [List.set_cons_succ, cM, cM, this]; omega
theorem pD : ∀ (g : List (List cA)) (i : Nat) (c : List cA), i < g.length → g.getD i [] = [] → cL (g.set i c) = cL g + c.length + cS c
 | a :: g, 0, c, _, h => by
  have : a = [] := h
  subst this
  rw [List.set_cons_zero, cL, cL, cS]; simp; omega
 | a :: g, i + 1, c, hi, h => by
  have := pD g i c (by simpa using hi) h
  rw [List.set_cons_succ, cL, cL, this]; omega
theorem nq : ∀ n, cM (List.replicate n []) = 0
 | 0 => rfl
 | n + 1 => by rw [List.replicate_succ, cM, cT, nq n]
theorem np : ∀ n, cL (List.replicate n []) = 0
 | 0 => rfl
 | n + 1 => by rw [List.replicate_succ, cL, cS, np n]; rfl
theorem CS {α : Type} {l : List α} {i j : Nat} {a d : α} (hi : i < l.length) : (l.set i a).getD j d = if j = i then a else l.getD j d := by
 rw [List.getD_eq_getElem?_getD, List.getElem?_set]
 by_cases h : i = j
 ·subst h; rw [if_pos rfl, if_pos hi, if_pos rfl]; rfl
 ·rw [if_neg h, if_neg (fun q => h q.symm), ← List.getD_eq_getElem?_getD]
section
variable {ps : List ak} {bh : Bool} {s : aN} {St : Nat → aT → Prop} {k : Nat} {m : aT} {q : ak} {n : Nat}
structure n8 (ps : List ak) (bh : Bool) (n : Nat) (q : ak) (m : aT) (H0 : Hp) (ob : List Hc) (ds : List Slot) (ones : List aw) (last : Option Int) (aI : List (List cA)) (H : Hp) : Prop where
 len : aI.length = q.aI.toNat
 row : ∀ x ∈ q.side bh, (aI.getD x.reg.toNat []).map (lJ (lD ps bh n)) = fT ds x.f.num
 sub : ∀ l ∈ aI, l.length ≤ 1000 ∧ ∀ c ∈ l, ∀ g, c.f = some g → vN ps bh n (H0.next + 2) H g
 o1 : H.obj (H0.next + 1) = some ob
 o2 : H.obj H0.next = some (dT aI)
 nx : H0.next + 2 ≤ H.next
 more : H0.more H
 ms : cM aI = cY ds
 vn : cL aI = cX ds
 has : ∀ y ∈ ds, y.ah ≠ [] ∧ ∃ x ∈ q.side bh, x.f.num = y.num
 rise : cy Slot.num ds
 top : ∀ y ∈ ds, ∃ z, last = some z ∧ y.num ≤ z
 ones : ones = ds.map m.oneOf
theorem ev.oneOf (P : ev ps bh s St k m q) {y : Slot} {x : Port} (hx : (q.side bh).find? (eR y.num) = some x) : m.oneOf y = x.f.one := by
 unfold aT.oneOf
 rw [P.find, hx]; rfl
theorem n8.alone {H0 H : Hp} {ob : List Hc} {ds : List Slot} {ones : List aw} {last : Option Int} {aI : List (List cA)} (I : n8 ps bh n q m H0 ob ds ones last aI H) (P : ev ps bh s St k m q) {x : Port} (hx : x ∈ q.side bh) :
  iy aI (q.side bh) x = fI ones x.f.one := by
 unfold iy fI
 cases e1 : (x.f.one == []) with
 | true => simp
 | false =>
  simp only [Bool.not_false, Bool.true_and, Bool.false_or]
  refine congrArg not ?_
  rw [Bool.eq_iff_iff, List.any_eq_true, List.any_eq_true]
  have bj : ∀ y ∈ q.side bh, (0 < (aI.getD y.reg.toNat []).length ↔ ∃ z ∈ ds, z.num = y.f.num) := fun y hy => by
   have hr := congrArg List.length (I.row y hy)
   rw [List.length_map] at hr
   rw [hr]
   constructor
   ·intro h
    apply Classical.byContradiction
    intro hno
    rw [mx fun z hz e => hno ⟨z, hz, e⟩] at h
    simp at h
   ·rintro ⟨z, hz, e⟩
    rw [← e, lP I.rise hz]
    exact List.length_pos_iff.2 (I.has z hz).1
  constructor
  ·rintro ⟨y, hy, h⟩
   simp only [Bool.and_eq_true, decide_eq_true_eq, beq_iff_eq] at h
   obtain ⟨z, hz, e⟩ := (bj y hy).1 h.2
   refine ⟨m.oneOf z, by rw [I.ones]; exact List.mem_map_of_mem hz, ?_⟩
   have := P.yY hy
   rw [← e] at this
   rw [P.oneOf this, beq_iff_eq]; exact h.1
  ·rintro ⟨o, ho, h⟩
   rw [I.ones] at ho
   obtain ⟨z, hz, rfl⟩ := List.mem_map.1 ho
   obtain ⟨_, y, hy, e⟩ := I.has z hz
   have := P.yY hy
   rw [e] at this
   rw [P.oneOf this, beq_iff_eq] at h
   refine ⟨y, hy, ?_⟩
   simp only [Bool.and_eq_true, decide_eq_true_eq, beq_iff_eq]
   exact ⟨h, (bj y hy).2 ⟨z, hz, e.symm⟩⟩
def kM (last : Option Int) (n : Int) : Bool := match last with | none => false | some z => decide (z ≥ n)
theorem wN (last : Option Int) (n : Int) : (match last with | none => true | some z => decide (z < n)) = !kM last n := by
 cases last with
 | none => rfl
 | some z => unfold kM; dsimp only; rw [Bool.eq_iff_iff]; simp
theorem Bk {y : Slot} {l : List Slot} {last : Option Int} {ones : List aw} : dC s m (y :: l) last ones = (!kM last y.num && y.ok s m && fI ones (m.oneOf y) && dC s m l (some y.num) (ones ++ [m.oneOf y])) := by
 rw [← wN]
 conv => lhs; unfold dC
 rfl
theorem CR {F : oL} {last : Option Int} {y : Slot} {l : List Slot} {rid : Nat} {bW : List Port} {aI : List (List cA)} {K : Hp} : cC F bW rid last (y :: l) aI K = match bW.find? (eR y.num) with
  | none => .error ()
  | some p => if kM last y.num || !iy aI bW p then .error () else match cb F p y.ah K with
   | .error u => .error u
   | .ok c => cC F bW rid (some y.num) l (aI.set p.reg.toNat c.1) (c.2.set rid (dT (aI.set p.reg.toNat c.1))) := by
 conv => lhs; unfold cC
 rfl
theorem oy (P : ev ps bh s St k m q) {H0 : Hp} {ob : List Hc} : ∀ (l ds : List Slot) (ones : List aw) (last : Option Int) (aI : List (List cA)) (H : Hp), n8 ps bh n q m H0 ob ds ones last aI H →
  (∀ x ∈ l, x.ah.length ≤ 1000 ∧ ∀ v ∈ x.ah, ∀ u ∈ v.m, ∀ j m', St j m' → qg ps bh s n j m' u) →
  (dC s m l last ones = true → ∃ ones' last' regs' H', cC (eJ ps bh n) (q.side bh) H0.next last l aI H = .ok (regs', H') ∧ n8 ps bh n q m H0 ob (ds ++ l) ones' last' regs' H') ∧
  (dC s m l last ones = false → cC (eJ ps bh n) (q.side bh) H0.next last l aI H = .error ())
 | [], ds, ones, last, aI, H, I, hl => ⟨fun _ => ⟨ones, last, aI, H, rfl, by rw [List.append_nil]; exact I⟩, fun h => by simp [dC] at h⟩
 | y :: l, ds, ones, last, aI, H, I, hl => by
  rw [CR, Bk]
  cases hx : (q.side bh).find? (eR y.num) with
  | none =>
   have : y.ok s m = false := by rw [Slot.ok_eq, P.find, hx]; rfl
   exact ⟨fun h => by rw [this] at h; simp at h, fun _ => rfl⟩
  | some x =>
   have hxm := List.mem_of_find?_eq_some hx
   have hxn : x.f.num = y.num := by have := List.find?_some hx; simpa [eR] using this
   dsimp only
   rw [I.alone P hxm, P.oneOf hx]
   generalize hL : kM last y.num = L
   obtain ⟨hvl, hih⟩ := hl y (List.mem_cons_self ..)
   obtain ⟨c1, c2⟩ := wz (n := n) P hx hih H
   cases L with
   | true => exact ⟨fun h => by simp at h, fun _ => rfl⟩
   | false =>
    cases hn : fI ones x.f.one with
    | false => exact ⟨fun h => by simp at h, fun _ => rfl⟩
    | true =>
     simp only [Bool.not_true, Bool.or_false, Bool.false_eq_true, if_false, Bool.not_false, Bool.true_and, Bool.and_true]
     cases hy : y.ok s m with
     | false =>
      rw [c2 hy]
      exact ⟨fun h => by simp at h, fun _ => rfl⟩
     | true =>
      obtain ⟨cs, H1, q1, q2, q3, q4⟩ := c1 hy
      rw [q1]
      dsimp only
      have hreg := P.reg x hxm
      have hrl : x.reg.toNat < aI.length := by rw [I.len]; omega
      have hnot : ∀ z ∈ ds, z.num ≠ y.num := fun z hz e => by
       obtain ⟨w, hw, hle⟩ := I.top z hz
       rw [hw] at hL
       simp [kM] at hL
       omega
      have hrow0 : aI.getD x.reg.toNat [] = [] := by
       have := I.row x hxm
       rw [hxn, mx hnot] at this
       exact List.map_eq_nil_iff.1 this
      have hnx := I.nx
      have hset : ∀ i, i ≠ H0.next → (H1.set H0.next (dT (aI.set x.reg.toNat cs))).obj i = H1.obj i := fun i hi => Hp.mN hi
      have I' : n8 ps bh n q m H0 ob (ds ++ [y]) (ones ++ [x.f.one]) (some y.num) (aI.set x.reg.toNat cs) (H1.set H0.next (dT (aI.set x.reg.toNat cs))) := by
       refine ⟨by rw [List.length_set]; exact I.len, fun z hz => ?_, fun row bj => ?_, ?_, Hp.bk, ?_, ?_, ?_, ?_, fun z hz => ?_, ?_, fun z hz => ?_, ?_⟩
       ·rw [CS hrl, tZ hnot]
        by_cases e : z.reg.toNat = x.reg.toNat
        ·have hzr := P.reg z hz
         have : z = x := P.HB hz hxm (by omega)
         subst this
         rw [if_pos rfl, if_pos hxn]; exact q3.val
        ·rw [if_neg e]
         have hne : ¬ z.f.num = y.num := fun h => by
          have : z = x := P.inj hz hxm (h.trans hxn.symm)
          subst this; exact e rfl
         rw [if_neg hne]; exact I.row z hz
       ·rcases List.mem_or_eq_of_mem_set bj with h | h
        ·obtain ⟨h1, h2⟩ := I.sub row h
         exact ⟨h1, fun c hc g hg => (h2 c hc g hg).move (Nat.le_refl _) q2.1 fun i hi hi2 => by rw [hset i (by omega)]; exact q2.2 i hi2⟩
        ·subst h
         refine ⟨?_, fun c hc g hg => (q3.sub c hc g hg).move (by omega) (Nat.le_refl _) fun i hi hi2 => hset i (by omega)⟩
         have := congrArg List.length q3.val
         rw [List.length_map] at this; omega
       ·rw [hset _ (by omega), q2.2 _ (by omega)]; exact I.o1
       ·show H0.next + 2 ≤ H1.next
        exact Nat.le_trans hnx q2.1
       ·exact (I.more.trans q2).set (Nat.le_refl _) _
       ·rw [pG _ _ _ hrl hrow0, I.ms, kF, q3.ms, cY, cY, Slot.gM]; omega
       ·have hcl : cs.length = y.ah.length := by have := congrArg List.length q3.val; rwa [List.length_map] at this
        rw [pD _ _ _ hrl hrow0, I.vn, kE, q3.vn, cX, cX, Slot.gL]; omega
       ·rcases List.mem_append.1 hz with h | h
        ·exact I.has z h
        ·cases List.mem_singleton.1 h
         exact ⟨q4, x, hxm, hxn⟩
       ·refine List.pairwise_append.2 ⟨I.rise, List.pairwise_singleton _ _, fun a ha b hb => ?_⟩
        cases List.mem_singleton.1 hb
        obtain ⟨w, hw, hle⟩ := I.top a ha
        rw [hw] at hL
        simp [kM] at hL
        omega
       ·rcases List.mem_append.1 hz with h | h
        ·obtain ⟨w, hw, hle⟩ := I.top z h
         rw [hw] at hL
         simp [kM] at hL
         exact ⟨y.num, rfl, by omega⟩
        ·cases List.mem_singleton.1 h
         exact ⟨y.num, rfl, Int.le_refl _⟩
       ·rw [I.ones, List.map_append]
        congr 1
        show [x.f.one] = [m.oneOf y]
        rw [P.oneOf hx]
      obtain ⟨r1, r2⟩ := oy P l (ds ++ [y]) _ _ _ _ I' fun z hz => hl z (List.mem_cons_of_mem _ hz)
      refine ⟨fun h => ?_, fun h => r2 h⟩
      obtain ⟨ones', last', regs', H', s1, s2⟩ := r1 h
      exact ⟨ones', last', regs', H', s1, by rw [List.append_assoc] at s2; exact s2⟩
theorem vZ (P : ev ps bh s St k m q) {ss : List Slot} (hr : cy Slot.num ss) (hh : ∀ y ∈ ss, y.ah ≠ [] ∧ ∃ x ∈ q.side bh, x.f.num = y.num) :
  ((q.side bh).filterMap fun x => if fT ss x.f.num = [] then none else some (Slot.mk x.f.num (fT ss x.f.num))) = ss := by
 refine cy.unique (k := Slot.num) ?_ hr ?_
 ·refine List.Pairwise.filterMap _ (fun a b hab c hc d hd => ?_) P.rise
  simp only at hab hc hd
  split at hc
  ·cases hc
  split at hd
  ·cases hd
  cases hc; cases hd
  exact hab
 ·refine (List.perm_ext_iff_of_nodup ?_ ?_).2 fun y => ?_
  ·refine List.Pairwise.filterMap _ (fun a b hab c hc d hd => ?_) P.rise
   simp only at hab hc hd
   split at hc
   ·cases hc
   split at hd
   ·cases hd
   cases hc; cases hd
   intro e
   injection e with e1 e2
   omega
  ·exact hr.imp fun {a b} h e => by subst e; exact absurd h (Int.lt_irrefl _)
  ·rw [List.mem_filterMap]
   constructor
   ·rintro ⟨x, hx, e⟩
    split at e
    ·cases e
    ·rename_i hne
     cases e
     obtain ⟨z, hz, ez⟩ : ∃ z ∈ ss, z.num = x.f.num := by
      apply Classical.byContradiction
      intro hno
      exact hne (mx fun z hz e => hno ⟨z, hz, e⟩)
     rw [← ez, lP hr hz]
     cases z; exact hz
   ·intro hy
    obtain ⟨h1, x, hx, e⟩ := hh y hy
    refine ⟨x, hx, ?_⟩
    rw [e, lP hr hy, if_neg h1]
    cases y; rfl
theorem BA (P : ev ps bh s St k m q) (r : Rw) : jG (q.side bh) r = dG m r := by
 unfold jG dG
 rw [P.find]
 cases (q.side bh).find? (eR r.num) <;> simp
theorem eW.eS {St : Nat → aT → Prop} (S : eW ps bh s St) (hs : s.jd) {k : Nat} {m : aT} (h : St k m) : s.eS m.name = some m := by
 have hm := S.mem k m h
 unfold aN.eS
 cases e : s.msgs.find? (fun x => x.name == m.name) with
 | none =>
  have := List.find?_eq_none.1 e m hm
  simp at this
 | some y =>
  have h1 := List.mem_of_find?_eq_some e
  have h2 : y.name = m.name := by simpa using List.find?_some e
  obtain ⟨i, hi⟩ := List.mem_iff_getElem?.1 h1
  obtain ⟨j, hj⟩ := List.mem_iff_getElem?.1 hm
  have := gl hs hi hj h2
  subst this
  rw [hi] at hj; cases hj; rfl
theorem rW {St : Nat → aT → Prop} (S : eW ps bh s St) (hs : s.jd) (hP : gg ps) : ∀ (n : Nat) (t : Tree), SizeOf.sizeOf t < n → t.lean → ∀ k m, St k m → qg ps bh s n k m t
 | 0, t, h, _, _, _, _ => by omega
 | n + 1, t, h, hl, k, m, hSt => by
  intro H
  obtain ⟨q, P⟩ := S.Jj hs hSt
  have hq := List.mem_of_getElem? P.at_
  have hqr := hP.aI q hq
  have hat := S.eS hs hSt
  have e1 : t.ok s m.name = (dC s m t.aO none [] && t.rest.all (dG m)) := by
   rw [Tree.ok_eq, hat]
  have hI : n8 ps bh n q m H (qU q k bh H).uY [] [] none (List.replicate q.aI.toNat []) (dz q k bh H) := by
   have hA := ri q k bh H (by omega)
   refine ⟨List.length_replicate, fun x hx => ?_, fun l hl => ?_, hA.o1, hA.o2, Nat.le_refl _, ((Hp.more.refl H).new _).new _, ?_, ?_, fun y hy => (List.not_mem_nil hy).elim, List.Pairwise.nil, fun y hy => (List.not_mem_nil hy).elim, rfl⟩
   ·have : (List.replicate q.aI.toNat ([] : List cA)).getD x.reg.toNat [] = [] := by
     rw [List.getD_eq_getElem?_getD, List.getElem?_replicate]
     split <;> rfl
    rw [this]; rfl
   ·rw [List.eq_of_mem_replicate hl]
    exact ⟨by simp, fun c hc => by cases hc⟩
   ·rw [nq]; rfl
   ·rw [np]; rfl
  obtain ⟨r1, r2⟩ := oy P t.aO [] [] none _ _ hI fun x hx => ⟨hl.here.v x hx, fun v hv u hu j m' hj => rW S hs hP n u (by have := Tree.sub_lt hu hv hx; omega) (hl.sub hu hv hx) j m' hj⟩
  have hfr : eJ ps bh (n + 1) k t H = match cC (eJ ps bh n) (q.side bh) H.next none t.aO (List.replicate q.aI.toNat []) (dz q k bh H) with
    | .error u => .error u
    | .ok r => if t.rest.all (jG (q.side bh)) then .ok (.mk H.next k r.1 t.rest (!bh), r.2.set (H.next + 1) (ir (k : Int) q.aI H.next t.rest bh)) else .error () := by
   show gJ (eJ ps bh n) ps bh (k : Int) t H = _
   unfold gJ
   simp only [Int.toNat_natCast, P.get] <;> rfl
  have hrest : t.rest.all (jG (q.side bh)) = t.rest.all (dG m) := by
   congr 1; funext r; exact BA P r
  rw [hfr, hrest, e1]
  constructor
  ·intro h2
   rw [Bool.and_eq_true] at h2
   obtain ⟨ones', last', regs', H', s1, I⟩ := r1 h2.1
   rw [List.nil_append] at I
   rw [s1]
   dsimp only
   rw [if_pos h2.2]
   refine ⟨_, _, rfl, ?_⟩
   have hnx := I.nx
   have hset : ∀ i, i ≠ H.next + 1 → (H'.set (H.next + 1) (ir (k : Int) q.aI H.next t.rest bh)).obj i = H'.obj i := fun i hi => Hp.mN hi
   have hobj : (Fm.mk H.next k regs' t.rest (!bh)).uY = ir (k : Int) q.aI H.next t.rest bh := by
    show [Hc.v (.int .i64 (k : Int)), .v (.os H.next regs'.length 1), _, _] = _
    rw [I.len]; rfl
   refine ⟨I.more.set (Nat.le_succ _) _, .mk _ ⟨Nat.le_refl _, ?_⟩ ?_ ?_ ⟨?_, fun l hl' => ?_⟩ fun l hl' c hc g hg => ?_, .mk n _ q P.at_ ?_ ?_ (fun x hx => ?_) ?_ (fun l hl' => ?_) fun l hl' c hc g hg => ?_, ?_, ?_, ?_, rfl, rfl, rfl⟩
   ·show H.next + 1 < H'.next; omega
   ·rw [hobj]; exact Hp.bk
   ·show (H'.set (H.next + 1) _).obj H.next = _
    rw [hset _ (by omega)]; exact I.o2
   ·show regs'.length ≤ _
    rw [I.len]; omega
   ·have := (I.sub l hl').1; omega
   ·exact ((I.sub l hl').2 c hc g hg).lies.move (by omega) (Nat.le_refl _) fun i hi hi2 => hset i (by omega)
   ·have := hP.sides q hq
    unfold ak.side; split <;> omega
   ·have := hP.sides q hq
    omega
   ·show 0 ≤ x.reg ∧ x.reg < (regs'.length : Int)
    have := P.reg x hx
    rw [I.len]; omega
   ·have := hl.here.r
    show t.rest.length ≤ _; omega
   ·have := (I.sub l hl').1; omega
   ·exact ((I.sub l hl').2 c hc g hg).good
   ·show lD ps bh (n + 1) (Fm.mk H.next k regs' t.rest (!bh)) = t
    rw [lD]
    have eg : ps.getD (Fm.mk H.next k regs' t.rest (!bh)).part cr = q := P.get
    rw [eg, Au P.rise]
    refine Tree.ext ?_ rfl
    have := vZ P I.rise I.has
    refine Eq.trans ?_ this
    show (List.filterMap _ _) = _
    refine ui fun x hx => ?_
    have bj : ((Fm.mk H.next k regs' t.rest (!bh)).row x.reg).map (lJ (lD ps bh n)) = fT t.aO x.f.num := I.row x hx
    unfold lE
    rw [bj]
    have : ((Fm.mk H.next k regs' t.rest (!bh)).row x.reg = []) ↔ (fT t.aO x.f.num = []) := by
     rw [← bj]; exact List.map_eq_nil_iff.symm
    by_cases e : fT t.aO x.f.num = []
    ·rw [if_pos e, if_pos (this.2 e)]
    ·rw [if_neg e, if_neg (fun h => e (this.1 h))]
   ·rw [Fm.gM, Tree.gM]
    show 1 + cM regs' = _
    rw [I.ms]
   ·rw [Fm.gL, Tree.gL]
    show cL regs' = _
    rw [I.vn]
  ·intro h2
   rw [Bool.and_eq_false_iff] at h2
   cases e3 : dC s m t.aO none [] with
   | false => rw [r2 e3]
   | true =>
    obtain ⟨ones', last', regs', H', s1, I⟩ := r1 e3
    rw [s1]
    dsimp only
    rcases h2 with h2 | h2
    ·rw [e3] at h2; cases h2
    ·rw [h2]; rfl
end
/- how great a tree is; its copy -/
theorem Cj : aa Tryz.prog 18 = true := by kernel_rfl
theorem Ch : aa Tryz.prog 29 = true := by kernel_rfl
theorem Dr : A3 Tryz.prog 82 = some [(0, 1), (1, 1), (2, 1)] := by kernel_rfl
theorem og : ∀ (a b : List bD), c8 (a ++ b) = c8 a + c8 b
 | [], b => by rw [c8]; simp
 | x :: a, b => by rw [List.cons_append, c8, c8, og a b]; omega
theorem od : ∀ (a b : List bD), c7 (a ++ b) = c7 a + c7 b
 | [], b => by rw [c7]; simp
 | x :: a, b => by rw [List.cons_append, c7, c7, od a b]; omega
theorem ng : ∀ (a b : List Tree), cj (a ++ b) = cj a + cj b
 | [], b => by rw [cj]; simp
 | x :: a, b => by rw [List.cons_append, cj, cj, ng a b]; omega
theorem nf : ∀ (a b : List Tree), ch (a ++ b) = ch a + ch b
 | [], b => by rw [ch]; simp
 | x :: a, b => by rw [List.cons_append, ch, ch, nf a b]; omega
theorem sM {g : List Slot} {i : Nat} (hi : i < g.length) : cY (g.take (i + 1)) = cY (g.take i) + c8 g[i].ah := by rw [cq hi, kF, cY, cY, Slot.gM]; rfl
theorem sL {g : List Slot} {i : Nat} (hi : i < g.length) : cX (g.take (i + 1)) = cX (g.take i) + (g[i].ah.length + c7 g[i].ah) := by rw [cq hi, kE, cX, cX, Slot.gL]; rfl
theorem tY {g : List bD} {i : Nat} (hi : i < g.length) : c8 (g.take (i + 1)) = c8 (g.take i) + cj g[i].m := by rw [cq hi, og, c8, c8, bD.gM]; rfl
theorem tX {g : List bD} {i : Nat} (hi : i < g.length) : c7 (g.take (i + 1)) = c7 (g.take i) + ch g[i].m := by rw [cq hi, od, c7, c7, bD.gL]; rfl
theorem sC {g : List Tree} {i : Nat} (hi : i < g.length) : cj (g.take (i + 1)) = cj (g.take i) + g[i].ms := by rw [cq hi, ng, cj, cj]; rfl
theorem sB {g : List Tree} {i : Nat} (hi : i < g.length) : ch (g.take (i + 1)) = ch (g.take i) + g[i].vs := by rw [cq hi, nf, ch, ch]; rfl
def mC (t : Tree) : AV := .tup [.int .i64 (dI (t.ms : Int)), .int .i64 (dI (t.vs : Int))]
theorem EH (t : Tree) (hb : t.dW) (ih : ∀ x ∈ t.aO, ∀ v ∈ x.ah, ∀ u ∈ v.m, Pure Tryz.prog 29 [.agg u.cells] (mC u)) : Pure Tryz.prog 29 [.agg t.cells] (mC t) := by
 have hb1 := hb.here
 have hb0 := hb1.s
 refine Pure.aL Tryz.func29 rfl rfl (aF rfl) fun H => (aC.seq (aC.region (aB.run II 3 rfl (aB.nil (aC.seq (aC.region (aB.run II 2 rfl (aB.nil (aC.seq (aC.seq (aC.region (aB.run II 1 rfl (aB.nil (aC.blk (aC.aK (Kept.aJ [.s 6, .s 4, .s 5, .h, .s 1, .b 1] rfl (by decide) (Kept.now (aC.aX (fun ((i, m, v) : Nat × Int × Int) => [(.s 6, .sv (.v (.int .i64 (i : Int)))), (.s 4, .sv (.v (.int .i64 m))), (.s 5, .sv (.v (.int .i64 v)))]) _ (fun ((i, m, v) : Nat × Int × Int) => m = dI (1 + cY (t.aO.take i)) ∧ v = dI (cX (t.aO.take i))) (fun ((i, m, v) : Nat × Int × Int) => t.aO.length - i) (0, 1, 0) rfl ⟨(by rw [List.take_zero, cY]; rfl), (by rw [List.take_zero, cX]; rfl)⟩ ?_))))))))))))))))))
 rintro ⟨i, m, v⟩ hI
 dsimp only at hI
 refine aC.seq (aC.seq (aC.region (aB.run II 5 rfl (aB.nil (aC.cond rfl (fun hc1 => ?_) (fun hc1 => ?_))))))
 ·have hi := dD hc1
  refine aC.skip (aC.seq (aC.blk (aC.seq (aC.region (aB.run II 4 rfl (aB.c1 rfl (aH (aF rfl) ca rfl rfl (Int.natCast_nonneg _) (cU Slot.au hi) rfl) (aB.run II 5 rfl (aB.nil (aC.seq (aC.region (aB.run II 1 rfl (aB.nil (aC.blk (aC.aK (Kept.aJ [.s 7, .s 4, .s 5, .h, .s 1, .b 1, .s 6] rfl (by decide) (Kept.now (aC.aX (fun ((k, m, v) : Nat × Int × Int) => [(.s 7, .sv (.v (.int .i64 (k : Int)))), (.s 4, .sv (.v (.int .i64 m))), (.s 5, .sv (.v (.int .i64 v)))]) _ (fun ((k, m, v) : Nat × Int × Int) => m = dI (1 + cY (t.aO.take i) + c8 ((t.aO[i]'hi).ah.take k)) ∧ v = dI (cX (t.aO.take i) + (t.aO[i]'hi).ah.length + c7 ((t.aO[i]'hi).ah.take k))) (fun ((k, m, v) : Nat × Int × Int) => (t.aO[i]'hi).ah.length - k) (0, m, _) rfl ⟨hI.1.trans (by simp [c8]), (by rw [hI.2]; simp only [List.length_map]; exact (J3 _ _).trans (by simp [c7]))⟩ ?_)))))))))))))))))
  rintro ⟨k, m, v⟩ hK
  dsimp only at hK
  have hb2 := hb1.v _ (List.getElem_mem hi)
  refine aC.seq (aC.seq (aC.region (aB.run II 4 rfl (aB.c1 rfl (aH (aF rfl) ca rfl rfl (Int.natCast_nonneg _) (cU Slot.au hi) rfl) (aB.run II 4 rfl (aB.nil (aC.cond rfl (fun hc2 => ?_) (fun hc2 => ?_))))))))
  ·have hk := dD hc2
   refine aC.skip (aC.seq (aC.blk (aC.seq (aC.region (aB.run II 1 rfl (aB.nil (aC.blk (aC.aK (Kept.aJ [.s 8, .s 4, .s 5, .h, .s 1, .b 1, .s 6, .s 7] rfl (by decide) (Kept.now (aC.aX (fun ((j, m, v) : Nat × Int × Int) => [(.s 8, .sv (.v (.int .i64 (j : Int)))), (.s 4, .sv (.v (.int .i64 m))), (.s 5, .sv (.v (.int .i64 v)))]) _ (fun ((j, m, v) : Nat × Int × Int) => m = dI (1 + cY (t.aO.take i) + c8 ((t.aO[i]'hi).ah.take k) + cj (((t.aO[i]'hi).ah[k]'hk).m.take j)) ∧ v = dI (cX (t.aO.take i) + (t.aO[i]'hi).ah.length + c7 ((t.aO[i]'hi).ah.take k) + ch (((t.aO[i]'hi).ah[k]'hk).m.take j))) (fun ((j, m, v) : Nat × Int × Int) => ((t.aO[i]'hi).ah[k]'hk).m.length - j) (0, m, v) rfl ⟨hK.1.trans (by simp [cj]), hK.2.trans (by simp [ch])⟩ ?_)))))))))))
   rintro ⟨j, m, v⟩ hJ
   dsimp only at hJ
   have hb3 := hb1.m _ (List.getElem_mem hi) _ (List.getElem_mem hk)
   refine aC.seq (aC.seq (aC.region (aB.run II 4 rfl (aB.c1 rfl (aH (aF rfl) ca rfl rfl (Int.natCast_nonneg _) (cU Slot.au hi) rfl) (aB.run II 3 rfl (aB.c1 rfl (aH (aF rfl) dV rfl rfl (Int.natCast_nonneg _) (cU bD.au hk) rfl) (aB.run II 4 rfl (aB.nil (aC.cond rfl (fun hc3 => ?_) (fun hc3 => ?_))))))))))
   ·have hj := dD hc3
    refine aC.skip (aC.seq (aC.blk (aC.seq (aC.region (aB.run II 3 rfl (aB.c1 rfl (aH (aF rfl) ca rfl rfl (Int.natCast_nonneg _) (cU Slot.au hi) rfl) (aB.run II 3 rfl (aB.c1 rfl (aH (aF rfl) dV rfl rfl (Int.natCast_nonneg _) (cU bD.au hk) rfl) (aB.run II 3 rfl (aB.c1 rfl (aH (aF rfl) ji rfl rfl (Int.natCast_nonneg _) (cU Tree.au hj) rfl) (aB.run II 1 rfl (aB.c1 rfl (aG (aF rfl) Ch rfl (ih _ (List.getElem_mem hi) _ (List.getElem_mem hk) _ (List.getElem_mem hj))) (aB.run II 5 rfl (aB.nil (aC.region (aB.run II 8 rfl ?_))))))))))))))))
    exact aB.nil (aC.region (aB.run II 3 rfl (aB.kept (Kept.aY 8 rfl (inc (by omega)) (Kept.aJ [.s 8, .s 4, .s 5, .h, .s 1, .b 1, .s 6, .s 7] rfl (by decide) (Kept.now (⟨(j + 1, _, _), by dsimp only; omega, ⟨(by rw [hJ.1, sC hj]; exact (De _ _).trans (congrArg dI (by omega))), (by rw [hJ.2, sB hj]; exact (De _ _).trans (congrArg dI (by omega)))⟩, rfl⟩)))))))
   ·have hj := dE hc3
    exact aC.exit (aC.region (aB.run II 3 rfl (aB.kept (Kept.aY 7 rfl (inc (by omega)) (Kept.aJ [.s 7, .s 4, .s 5, .h, .s 1, .b 1, .s 6] rfl (by decide) (Kept.now (⟨(k + 1, _, _), by dsimp only; omega, ⟨(by rw [hJ.1, tY hk, List.take_of_length_le hj]; exact congrArg dI (by omega)), (by rw [hJ.2, tX hk, List.take_of_length_le hj]; exact congrArg dI (by omega))⟩, rfl⟩)))))))
  ·have hk := dE hc2
   exact aC.exit (aC.region (aB.run II 3 rfl (aB.kept (Kept.aY 6 rfl (inc (by omega)) (Kept.aJ [.s 6, .s 4, .s 5, .h, .s 1, .b 1] rfl (by decide) (Kept.now (⟨(i + 1, _, _), by dsimp only; omega, ⟨(by rw [hK.1, sM hi, List.take_of_length_le hk]; exact congrArg dI (by omega)), (by rw [hK.2, sL hi, List.take_of_length_le hk]; exact congrArg dI (by omega))⟩, rfl⟩)))))))
 ·have hi := dE hc1
  exact aC.exit (aC.seq (aC.region (aB.run II 4 rfl (aB.nil (aC.ret ⟨.inr rfl, (aE.r2 rfl (.tmp rfl (.tmp rfl .nil))).cast (by rw [hI.1, hI.2, List.take_of_length_le hi]; unfold mC; rw [Tree.gM, Tree.gL]; simp), rfl⟩)))))
theorem BF (t : Tree) (hb : t.dW) : Pure Tryz.prog 29 [.agg t.cells] (mC t) :=
 Tree.ind (Q := fun t => t.dW → Pure Tryz.prog 29 [.agg t.cells] (mC t)) (fun t ih hb => EH t hb fun x hx v hv u hu => ih x hx v hv u hu (hb.sub hu hv hx)) t hb
structure Tree.lH (t : Tree) : Prop where
 l : t.CE
 m : ∀ x ∈ t.aO, ∀ v ∈ x.ah, v.m.length ≤ 1000
theorem Kd : lx Tryz.prog 82 = some [.int .u64 0, .str [], .nsl] := by kernel_rfl
theorem Av {α : Type} {f : α → AV} {g : List α} {a : List AV} {i : Nat} {y : AV} (hi : i < g.length) (ha : a = (g.take i).map f) (hy : y = f g[i]) : a ++ [y] = (g.take (i + 1)).map f := by
 rw [cq hi, List.map_append, ha, hy]; rfl
theorem EX (t : Tree) (hl : t.lH) (ih : ∀ x ∈ t.aO, ∀ v ∈ x.ah, ∀ u ∈ v.m, Pure Tryz.prog 18 [.agg u.cells] (.agg u.cells)) : Pure Tryz.prog 18 [.agg t.cells] (.agg t.cells) := by
 have hl1 := hl.l.s
 have hl2 := hl.l.r
 have hl3 := hl.l.v
 refine Pure.aL Tryz.func18 rfl rfl (aF rfl) fun H => (aC.seq (aC.region (aB.run II 2 rfl (aB.nil (aC.seq (aC.region (aB.c2 rfl (bF («as» := []) (aF rfl) sP xK rfl rfl rfl (gI rfl) rfl) (aB.run II 2 rfl (aB.c3 rfl (aV (aF rfl) sP rfl rfl rfl (bn Rw.cells (fun _ => rfl) _) rfl (by simp only [List.length_map, List.length_nil]; omega) (by simp only [List.length_map, List.length_nil]; omega)) ?_)))))))))
 refine aB.c1 rfl (fm (aF rfl) sK Gf rfl rfl) (aB.run II 2 rfl (aB.kept (Kept.ph 3 0 300 85 2 rfl rfl rfl rfl (by decide) (Kept.now (aC.seq (aC.seq (aC.region (aB.run II 1 rfl (aB.nil (aC.blk (aC.aK (Kept.aJ [.s 4, .b 3, .t 300, .h, .s 1, .b 1, .s 2, .b 2, .s 3] rfl (by decide) (Kept.now (aC.aX (fun ((i, a) : Nat × List AV) => [(.s 4, .sv (.v (.int .i64 (i : Int)))), (.b 3, .bx [.ow 300 a, .v (.sl (t.rest.map Rw.av))]), (.t 300, .tk false 85 2 a)]) _ (fun ((i, a) : Nat × List AV) => a = (t.aO.take i).map Slot.av) (fun ((i, a) : Nat × List AV) => t.aO.length - i) (0, _) rfl rfl ?_))))))))))))))
 rintro ⟨i, a⟩ hI
 refine aC.seq (aC.seq (aC.region (aB.run II 5 rfl (aB.nil (aC.cond rfl (fun hc1 => ?_) (fun hc1 => ?_))))))
 ·have hi := dD hc1
  refine aC.skip (aC.seq (aC.blk (aC.seq (aC.region (aB.run II 3 rfl (aB.c1 rfl (aH (aF rfl) ca rfl rfl (Int.natCast_nonneg _) (cU Slot.au hi) rfl) (aB.run II 2 rfl (aB.c1 rfl (fm (aF rfl) xY JX rfl rfl) (aB.run II 2 rfl (aB.kept (Kept.ph 5 1 500 82 3 rfl rfl rfl rfl (by decide) (Kept.now (aC.seq (aC.seq (aC.region (aB.run II 1 rfl (aB.nil (aC.blk (aC.aK (Kept.aJ [.s 6, .b 5, .t 500, .h, .s 1, .b 1, .s 2, .b 2, .s 3, .b 3, .t 300, .s 4, .s 5] rfl (by decide) (Kept.now (aC.aX (fun ((k, b) : Nat × List AV) => [(.s 6, .sv (.v (.int .i64 (k : Int)))), (.b 5, .bx [.v (.int .i64 (t.aO[i]'hi).num), .ow 500 b]), (.t 500, .tk false 82 3 b)]) _ (fun ((k, b) : Nat × List AV) => b = ((t.aO[i]'hi).ah.take k).map bD.av) (fun ((k, b) : Nat × List AV) => (t.aO[i]'hi).ah.length - k) (0, _) rfl rfl ?_))))))))))))))))))))))
  rintro ⟨k, b⟩ hK
  have hl4 := hl3 _ (List.getElem_mem hi)
  refine aC.seq (aC.seq (aC.region (aB.run II 4 rfl (aB.c1 rfl (aH (aF rfl) ca rfl rfl (Int.natCast_nonneg _) (cU Slot.au hi) rfl) (aB.run II 4 rfl (aB.nil (aC.cond rfl (fun hc2 => ?_) (fun hc2 => ?_))))))))
  ·have hk := dD hc2
   refine aC.skip (aC.seq (aC.blk (aC.seq (aC.region (aB.run II 3 rfl (aB.c1 rfl (aH (aF rfl) ca rfl rfl (Int.natCast_nonneg _) (cU Slot.au hi) rfl) (aB.run II 3 rfl (aB.c1 rfl (aH (aF rfl) dV rfl rfl (Int.natCast_nonneg _) (cU bD.au hk) rfl) (aB.run II 3 rfl (aB.nil (aC.seq (aC.region (aB.run II 4 rfl (aB.c1 rfl (fm (aF rfl) Dr Kd rfl rfl) (aB.run II 2 rfl (aB.kept (Kept.ph 8 2 800 32 2 rfl rfl rfl rfl (by decide) (Kept.now (aC.seq (aC.seq (aC.region ?_)))))))))))))))))))))
   refine aB.run II 1 rfl (aB.nil (aC.blk (aC.aK (Kept.aJ [.s 9, .b 8, .t 800, .h, .s 1, .b 1, .s 2, .b 2, .s 3, .b 3, .t 300, .s 4, .s 5, .b 5, .t 500, .s 6, .s 7, .b 7, .s 8] rfl (by decide) (Kept.now (aC.aX (fun ((j, c) : Nat × List AV) => [(.s 9, .sv (.v (.int .i64 (j : Int)))), (.b 8, .bx [.v (.int .u64 (((t.aO[i]'hi).ah[k]'hk).n : Int)), .v (.str ((t.aO[i]'hi).ah[k]'hk).s), .ow 800 c]), (.t 800, .tk false 32 2 c)]) _ (fun ((j, c) : Nat × List AV) => c = (((t.aO[i]'hi).ah[k]'hk).m.take j).map Tree.av) (fun ((j, c) : Nat × List AV) => ((t.aO[i]'hi).ah[k]'hk).m.length - j) (0, _) rfl rfl ?_))))))
   rintro ⟨j, c⟩ hJ
   have hl5 := hl.m _ (List.getElem_mem hi) _ (List.getElem_mem hk)
   refine aC.seq (aC.seq (aC.region (aB.run II 5 rfl (aB.nil (aC.cond rfl (fun hc3 => ?_) (fun hc3 => ?_))))))
   ·have hj := dD hc3
    refine aC.skip (aC.seq (aC.blk (aC.drawn mixed rfl (aD.run II 5 rfl (aD.c1 rfl (aH (aF rfl) ji rfl rfl (Int.natCast_nonneg _) (cU Tree.au hj) rfl) (aD.run II 1 rfl (aD.c1 rfl (aG (aF rfl) Cj rfl (ih _ (List.getElem_mem hi) _ (List.getElem_mem hk) _ (List.getElem_mem hj))) (aD.run II 1 rfl (aD.c3 rfl (aV (aF rfl) Ax rfl rfl rfl rfl rfl (by rw [hJ]; simp; omega) (by rw [hJ]; simp; omega)) ?_)))))))))
    exact aD.run II 2 rfl (aD.nil (by kernel_rfl) (Kept.now (aC.region (aB.run II 3 rfl (aB.kept (Kept.aY 9 rfl (inc (by omega)) (Kept.aJ [.s 9, .b 8, .t 70, .h, .s 1, .b 1, .s 2, .b 2, .s 3, .b 3, .t 300, .s 4, .s 5, .b 5, .t 500, .s 6, .s 7, .b 7, .s 8] rfl (by decide) (Kept.gG 70 800 (by decide) rfl (Kept.now ⟨(j + 1, _), by dsimp only; omega, Av hj hJ (Tree.au _).symm, rfl⟩)))))))))
   ·have hj := dE hc3
    refine aC.exit (aC.region (aB.run II 4 rfl (aB.c3 rfl (aV (aF rfl) vm rfl rfl rfl rfl rfl (by rw [hK]; simp; omega) (by rw [hK]; simp; omega)) ?_)))
    exact aB.run II 2 rfl (aB.nil (aC.region (aB.run II 3 rfl (aB.kept (Kept.aY 6 rfl (inc (by omega)) (Kept.aJ [.s 6, .b 5, .t 76, .h, .s 1, .b 1, .s 2, .b 2, .s 3, .b 3, .t 300, .s 4, .s 5] rfl (by decide) (Kept.gG 76 500 (by decide) rfl (Kept.now ⟨(k + 1, _), by dsimp only; omega, Av hk hK (by rw [hJ, List.take_of_length_le hj, bD.au]; rfl), rfl⟩))))))))
  ·have hk := dE hc2
   refine aC.exit (aC.region (aB.run II 4 rfl (aB.c3 rfl (aV (aF rfl) Ay rfl rfl rfl rfl rfl (by rw [hI]; simp; omega) (by rw [hI]; simp; omega)) ?_)))
   exact aB.run II 2 rfl (aB.nil (aC.region (aB.run II 3 rfl (aB.kept (Kept.aY 4 rfl (inc (by omega)) (Kept.aJ [.s 4, .b 3, .t 82, .h, .s 1, .b 1, .s 2, .b 2, .s 3] rfl (by decide) (Kept.gG 82 300 (by decide) rfl (Kept.now ⟨(i + 1, _), by dsimp only; omega, Av hi hI (by rw [hK, List.take_of_length_le hk, Slot.au]; rfl), rfl⟩))))))))
 ·have hi := dE hc1
  exact aC.exit (aC.seq (aC.region (aB.run II 2 rfl (aB.nil (aC.ret ⟨.inr rfl, (aE.r1 rfl (.cell kR rfl rfl rfl rfl .nil)).cast (by rw [hI, List.take_of_length_le hi]; rfl), rfl⟩)))))
theorem HT (t : Tree) (hl : t.di Tree.lH) : Pure Tryz.prog 18 [.agg t.cells] (.agg t.cells) :=
 Tree.ind (Q := fun t => t.di Tree.lH → Pure Tryz.prog 18 [.agg t.cells] (.agg t.cells)) (fun t ih hl => EX t hl.here fun x hx v hv u hu => ih x hx v hv u hu (hl.sub hu hv hx)) t hl
/- How much a value holds. No condition. -/
structure Tree.LS (t : Tree) : Prop where
 s : t.aO.length ≤ 140737488355328
 r : t.rest.length ≤ 140737488355328
 v : ∀ x ∈ t.aO, x.ah.length ≤ 140737488355328
 m : ∀ x ∈ t.aO, ∀ v ∈ x.ah, v.m.length ≤ 140737488355328
 vs : ∀ x ∈ t.aO, ∀ v ∈ x.ah, v.s.length ≤ 140737488355328
 vn : ∀ x ∈ t.aO, ∀ v ∈ x.ah, v.n < 18446744073709551616
 rs : ∀ r ∈ t.rest, r.s.length ≤ 140737488355328
 rn : ∀ r ∈ t.rest, r.n < 18446744073709551616
def Tree.fits (t : Tree) : Prop := t.di Tree.LS
theorem Tree.fits.dW {t : Tree} (h : t.fits) : t.dW := fun u hu => by
 have h1 := h u hu
 exact ⟨Nat.le_trans h1.s (by omega), Nat.le_trans h1.r (by omega), fun x hx => Nat.le_trans (h1.v x hx) (by omega), fun x hx v hv => Nat.le_trans (h1.m x hx v hv) (by omega), fun x hx v hv => Nat.le_trans (h1.vs x hx v hv) (by omega), h1.vn, fun r hr => Nat.le_trans (h1.rs r hr) (by omega), h1.rn⟩
/- Plain laws: the lists of what is small are short. No condition. -/
theorem lO {n : Int} (h0 : -9223372036854775808 ≤ n) (h1 : n < 9223372036854775808) : dI n = n := eL h0 h1
theorem J6 (n : Nat) : dI ((n : Int).tdiv 20) = ((n / 20 : Nat) : Int) ∨ 9223372036854775808 ≤ n := by
 by_cases h : n < 9223372036854775808
 ·left
  have e : ((n : Int).tdiv 20) = ((n / 20 : Nat) : Int) := by rw [Int.tdiv_eq_ediv_of_nonneg (by omega)]; omega
  rw [e, lO (by omega) (by omega)]
 ·right; omega
def vP (t : Tree) : Prop := ∀ n d : Int, -1 ≤ n → n ≤ 1000 → t.left n d ≤ n ∧ (0 ≤ t.left n d → t.di Tree.lH)
theorem u6 : ∀ (l : List Rw) (n : Int), (∀ r ∈ l, r.s.length ≤ 140737488355328) → n ≤ 1000 → iZ l n ≤ n
 | [], n, _, _ => Int.le_refl _
 | r :: l, n, h, hn => by
  unfold iZ
  split
  ·rename_i h0
   have hr := h r (List.mem_cons_self ..)
   rcases J6 r.s.length with e | e
   ·rw [e, lO (by omega) (by omega)]
    have := u6 l (n - ((r.s.length / 20 : Nat) : Int)) (fun q hq => h q (List.mem_cons_of_mem _ hq)) (by omega)
    omega
   ·omega
  ·exact Int.le_refl _
theorem qA {d : Int} : ∀ (l : List Tree), (∀ t ∈ l, vP t) → ∀ n : Int, n ≤ 1000 → gQ l n d ≤ n ∧ (0 ≤ gQ l n d → (l.length : Int) ≤ n ∧ ∀ t ∈ l, t.di Tree.lH)
 | [], _, n, hn => by
  rw [gQ]
  exact ⟨Int.le_refl _, fun h => ⟨h, fun t ht => (List.not_mem_nil ht).elim⟩⟩
 | t :: l, hl, n, hn => by
  rw [gQ]
  split
  ·rename_i h0
   rw [lO (n := n - 1) (by omega) (by omega)]
   obtain ⟨a1, a2⟩ := hl t (List.mem_cons_self ..) (n - 1) (dI (d - 1)) (by omega) (by omega)
   obtain ⟨b1, b2⟩ := qA (d := d) l (fun u hu => hl u (List.mem_cons_of_mem _ hu)) (t.left (n - 1) (dI (d - 1))) (by omega)
   refine ⟨by omega, fun h => ?_⟩
   obtain ⟨c1, c2⟩ := b2 h
   refine ⟨by simp; omega, fun u hu => ?_⟩
   rcases List.mem_cons.1 hu with rfl | hu
   ·exact a2 (by omega)
   ·exact c2 u hu
  ·rename_i h0
   exact ⟨Int.le_refl _, fun h => absurd h h0⟩
theorem pz {d : Int} : ∀ (l : List bD), (∀ v ∈ l, v.s.length ≤ 140737488355328 ∧ ∀ t ∈ v.m, vP t) → ∀ n : Int, n ≤ 1000 → gP l n d ≤ n ∧ (0 ≤ gP l n d → ∀ v ∈ l, v.m.length ≤ 1000 ∧ ∀ t ∈ v.m, t.di Tree.lH)
 | [], _, n, hn => by
  rw [gP]
  exact ⟨Int.le_refl _, fun h v hv => (List.not_mem_nil hv).elim⟩
 | v :: l, hl, n, hn => by
  rw [gP]
  split
  ·rename_i h0
   obtain ⟨q1, q2⟩ := hl v (List.mem_cons_self ..)
   rw [bD.left_eq]
   rcases J6 v.s.length with e | e
   ·rw [e, lO (by omega) (by omega)]
    obtain ⟨a1, a2⟩ := qA (d := d) v.m q2 (n - ((v.s.length / 20 : Nat) : Int)) (by omega)
    obtain ⟨b1, b2⟩ := pz (d := d) l (fun u hu => hl u (List.mem_cons_of_mem _ hu)) (gQ v.m (n - ((v.s.length / 20 : Nat) : Int)) d) (by omega)
    refine ⟨by omega, fun h u hu => ?_⟩
    rcases List.mem_cons.1 hu with rfl | hu
    ·obtain ⟨c1, c2⟩ := a2 (by omega)
     exact ⟨by omega, c2⟩
    ·exact b2 h u hu
   ·omega
  ·rename_i h0
   exact ⟨Int.le_refl _, fun h => absurd h h0⟩
theorem qB {d : Int} : ∀ (l : List Slot), (∀ x ∈ l, x.ah.length ≤ 140737488355328 ∧ ∀ v ∈ x.ah, v.s.length ≤ 140737488355328 ∧ ∀ t ∈ v.m, vP t) → ∀ n : Int, n ≤ 1000 → iG l n d ≤ n ∧ (0 ≤ iG l n d → ∀ x ∈ l, x.ah.length ≤ 1000 ∧ ∀ v ∈ x.ah, v.m.length ≤ 1000 ∧ ∀ t ∈ v.m, t.di Tree.lH)
 | [], _, n, hn => by
  rw [iG]
  exact ⟨Int.le_refl _, fun h v hv => (List.not_mem_nil hv).elim⟩
 | x :: l, hl, n, hn => by
  rw [iG]
  split
  ·rename_i h0
   obtain ⟨q1, q2⟩ := hl x (List.mem_cons_self ..)
   rw [Slot.left_eq, lO (by omega) (by omega)]
   obtain ⟨a1, a2⟩ := pz (d := d) x.ah q2 (n - (x.ah.length : Int)) (by omega)
   obtain ⟨b1, b2⟩ := qB (d := d) l (fun u hu => hl u (List.mem_cons_of_mem _ hu)) (gP x.ah (n - (x.ah.length : Int)) d) (by omega)
   refine ⟨by omega, fun h u hu => ?_⟩
   rcases List.mem_cons.1 hu with rfl | hu
   ·exact ⟨by omega, a2 (by omega)⟩
   ·exact b2 h u hu
  ·rename_i h0
   exact ⟨Int.le_refl _, fun h => absurd h h0⟩
theorem Jz (t : Tree) : t.fits → vP t :=
 Tree.ind (Q := fun t => t.fits → vP t) (fun t ih hf n d hn0 hn1 => by
  have h1 := hf.here
  rw [Tree.left_eq]
  split
  ·exact ⟨hn0, fun h => by omega⟩
  ·have r1 := h1.r
   have s1 := h1.s
   rw [lO (n := n - (t.rest.length : Int)) (by omega) (by omega), lO (by omega) (by omega)]
   have a1 := u6 t.rest (n - (t.rest.length : Int) - (t.aO.length : Int)) h1.rs (by omega)
   obtain ⟨b1, b2⟩ := qB (d := d) t.aO (fun x hx => ⟨h1.v x hx, fun v hv => ⟨h1.vs x hx v hv, fun u hu => ih x hx v hv u hu (hf.sub hu hv hx)⟩⟩) (iZ t.rest (n - (t.rest.length : Int) - (t.aO.length : Int))) (by omega)
   refine ⟨by omega, fun h => ?_⟩
   have c := b2 h
   exact Tree.di.mk ⟨⟨by omega, by omega, fun x hx => (c x hx).1⟩, fun x hx v hv => ((c x hx).2 v hv).1⟩ fun x hx v hv u hu => ((c x hx).2 v hv).2 u hu) t
theorem ni {t : Tree} (h : t.small = true) (hf : t.fits) : t.di Tree.lH := (Jz t hf 400 40 (by omega) (by omega)).2 (of_decide_eq_true h)
theorem la {t : Tree} (h : t.di Tree.lH) : t.lean := fun u hu => (h u hu).l
theorem rU {s : aN} (hs : s.jd) : s.wu := by
 refine ⟨by have := hs.sm.m; omega, fun m hm => by have := hs.sm.f m hm; omega, fun m hm f hf => ?_⟩
 have h := hs.fc m hm f hf
 unfold ag.gC at h
 split at h
 ·cases h
 ·rename_i h2
  by_cases e : f.one = []
  ·rw [e]; simp
  ·have : aq f.one = true := by
    cases q : aq f.one with
    | true => rfl
    | false => exact absurd (by simp [e, q]) h2
   unfold aq at this
   simp only [Bool.and_eq_true, decide_eq_true_eq] at this
   have := this.1.1.1.2
   omega
end Go.Proofs.YtlijgcifhhcfaaaGreatDoor.X
