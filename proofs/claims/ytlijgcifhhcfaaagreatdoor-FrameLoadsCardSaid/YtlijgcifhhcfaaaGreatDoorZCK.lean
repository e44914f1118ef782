/- what a value is loaded to: the walks -/
import Derived.Test.YtlijgcifhhcfaaaGreatDoorZCJ
import Derived.Test.YtlijgcifhhcfaaaGreatDoorZCC
import Derived.Test.YtlijgcifhhcfaaaGreatDoorZCI
import Derived.ProofKit
import Derived.LaidMore
import Derived.OpenShut
import Derived.HandedShaped
import Derived.LaidLaws
import Derived.Lib.LaidU8T
set_option linter.unusedVariables false
set_option linter.unusedSimpArgs false
set_option linter.unusedSectionVars false
set_option maxRecDepth 100000
namespace Go.Proofs.YtlijgcifhhcfaaaGreatDoor.X
open Go Go.RowKit Go.Proofs
theorem Fq : aa Tryz.prog 105 = true := by kernel_rfl
theorem yW : aa Tryz.prog 107 = true := by kernel_rfl
theorem tA : aa Tryz.prog 42 = true := by kernel_rfl
theorem nN : lk Tryz.prog 88 = some (true, 3) := by kernel_rfl
theorem vl : se Tryz.prog 86 = some (88, 3, 32) := by kernel_rfl
def ux (c : cA) : AV := .tup [c.av, .bool true]
def lK (x : Port) (v : bD) : AV := .tup [(ky x v).av, .bool false]
theorem cA.Jp {D : Nat → Prop} (n : Nat) (s : aw) : bG D (cA.mk n s none).av := .agg _ (ai.cons (.int _ _) (ai.cons (.str _) (ai.cons .nilp ai.nil)))
theorem AT {D : Nat → Prop} (x : Port) (v : bD) : bG D (lK x v) := by
 refine .tup _ (ai.cons ?_ (ai.cons (.bool _) ai.nil))
 unfold ky
 split
 ·exact cA.Jp _ _
 ·exact cA.Jp _ _
theorem AS {F : oL} {x : Port} {v : bD} {H : Hp} (h : decide (x.part < 0) = true) : gh H (lK x v) (AL ux (fM F x v H)) (.tup [(cA.mk v.n v.s none).av, .bool (v.ok pC x.f)]) H := by
 have h := of_decide_eq_true h
 unfold fM lK ky
 rw [if_pos h, if_pos h]
 cases v.ok pC x.f
 ·exact ⟨rfl, Hp.more.refl H⟩
 ·exact ⟨rfl, rfl⟩
theorem qZ {F : oL} {x : Port} {v : bD} {H : Hp} (h : decide (x.part < 0) = false) (h2 : ¬ (v.n = 0 ∧ v.s = [] ∧ v.m.length = 1)) : gh H (lK x v) (AL ux (fM F x v H)) (.tup [DB.av, .bool false]) H := by
 have h := of_decide_eq_false h
 unfold fM lK ky
 rw [if_neg h, if_neg h, if_neg h2]
 exact ⟨rfl, Hp.more.refl H⟩
theorem Fz {F : oL} {x : Port} {v : bD} {H : Hp} {u : Unit} (h : decide (x.part < 0) = false) (h2 : v.n = 0 ∧ v.s = [] ∧ v.m.length = 1) (e : F x.part (v.m.headD (.mk [] [])) H = .error u) : gh H (lK x v) (AL ux (fM F x v H)) (.tup [DB.av, .bool false]) H := by
 have h := of_decide_eq_false h
 unfold fM lK ky
 rw [if_neg h, if_neg h, if_pos h2, e]
 exact ⟨rfl, Hp.more.refl H⟩
theorem DA {F : oL} {x : Port} {v : bD} {H : Hp} {p : Fm × Hp} (h : decide (x.part < 0) = false) (h2 : v.n = 0 ∧ v.s = [] ∧ v.m.length = 1) (e : F x.part (v.m.headD (.mk [] [])) H = .ok p) : gh H (lK x v) (AL ux (fM F x v H)) (.tup [(cA.mk 0 [] (some p.1)).av, .bool true]) p.2 := by
 have h := of_decide_eq_false h
 unfold fM lK ky
 rw [if_neg h, if_neg h, if_pos h2, e]
 exact ⟨rfl, rfl⟩
theorem LD {v : bD} (h : v.m.length = 1) : (v.m.map Tree.av)[((0 : Int)).toNat]? = some (.agg (v.m.headD (.mk [] [])).cells) := by
 cases hm : v.m with
 | nil => rw [hm] at h; simp at h
 | cons u l => simp [Tree.au]
theorem By {v : bD} (h : v.m.length = 1) : v.m.headD (.mk [] []) ∈ v.m := by
 cases hm : v.m with
 | nil => rw [hm] at h; simp at h
 | cons u l => simp
theorem B4 (ps : List ak) (bh : Bool) (F : oL) (x : Port) (v : bD) (hx : x.part < (ps.length : Int)) (hv1 : v.s.length ≤ 9223372036854775807) (hv2 : ∀ u ∈ v.m, u.dW) (hF : ∀ u ∈ v.m, GL Tryz.prog 42 ps bh F u) (H : Hp) :
  iz Tryz.prog 107 [m6 ps bh, x.av, .agg v.cells] H (lK x v) (AL ux (fM F x v H)) := by
 refine cc.oU Tryz.func107 rfl rfl (aF rfl) (AT x v) (aC.seq (aC.region (aB.run II 5 rfl (aB.nil (aC.seq (aC.seq (aC.region (aB.run II 3 rfl (aB.nil (aC.cond rfl (fun hc1 => ?_) (fun hc1 => ?_)))))))))))
 ·exact aC.seq (aC.drawn mixed rfl (aD.run II 9 rfl (aD.c1 rfl (aG (aF rfl) yK rfl (GY pC x.f v hv1 fun u hu name => Hg pC vo u (hv2 u hu) name)) (aD.run II 2 rfl (aD.nil (by kernel_rfl) (Kept.now (aC.ret (jA.fin (AS hc1) ⟨.inr rfl, (aE.r2 rfl (.cell nN rfl rfl rfl rfl (.tmp rfl .nil))).cast rfl, rfl⟩))))))))
 ·refine aC.skip (aC.seq (aC.seq (aC.region (aB.run II 4 rfl (aB.tell (d := 26) rfl (fun hg2 => ?_) (fun hg2 => ?_))))))
  ·exact aB.run II 10 rfl (aB.nil (aC.az rfl rfl (aC.seq (aC.region (aB.run II 3 rfl (aB.nil (aC.ret (jA.fin (qZ hc1 (by rintro ⟨q1, _, _⟩; rw [q1] at hg2; exact absurd hg2 (by decide))) ⟨.inr rfl, (aE.r2 rfl (.cell nN rfl rfl rfl rfl (.tmp rfl .nil))).cast rfl, rfl⟩))))))))
  ·refine aB.run II 5 rfl (aB.tell (d := 31) rfl (fun hg3 => ?_) (fun hg3 => ?_))
   ·exact aB.run II 5 rfl (aB.nil (aC.az rfl rfl (aC.seq (aC.region (aB.run II 3 rfl (aB.nil (aC.ret (jA.fin (qZ hc1 (by rintro ⟨_, q1, _⟩; rw [q1] at hg3; exact absurd hg3 (by decide))) ⟨.inr rfl, (aE.r2 rfl (.cell nN rfl rfl rfl rfl (.tmp rfl .nil))).cast rfl, rfl⟩))))))))
   ·refine aB.run II 5 rfl (aB.nil (aC.cond rfl (fun hc4 => ?_) (fun hc4 => ?_)))
    ·exact aC.seq (aC.region (aB.run II 3 rfl (aB.nil (aC.ret (jA.fin (qZ hc1 (by rintro ⟨_, _, q1⟩; simp [q1] at hc4)) ⟨.inr rfl, (aE.r2 rfl (.cell nN rfl rfl rfl rfl (.tmp rfl .nil))).cast rfl, rfl⟩)))))
    ·refine aC.skip (aC.seq (aC.drawn mixed rfl ?_))
     have h2 : v.n = 0 ∧ v.s = [] ∧ v.m.length = 1 := ⟨by simpa using hg2, by simpa using hg3, by simp at hc4; omega⟩
     refine aD.run II 5 rfl (aD.c1 rfl (aH (aF rfl) ji rfl rfl (by decide) (LD h2.2.2) rfl) (aD.run II 1 rfl ?_))
     cases hp1 : F x.part (v.m.headD (.mk [] [])) H with
     | ok x1 => 
      refine aD.c2 rfl (cO (aF rfl) tA rfl rfl (iz.D1 (hF _ (By h2.2.2) x.part (by have := of_decide_eq_false hc1; omega) hx H) hp1)) ?_
      exact aD.run II 5 rfl (aD.nil (by kernel_rfl) (Kept.now (aC.seq (aC.region (aB.run II 5 rfl (aB.nil (aC.ret (jA.fin (DA hc1 h2 hp1) ⟨.inr rfl, (aE.r2 rfl (.cell nN rfl rfl rfl rfl (.tmp rfl .nil))).cast rfl, rfl⟩))))))))
     | error e1 => 
      refine aD.c1 rfl (dJ (aF rfl) tA rfl rfl (iz.tS (hF _ (By h2.2.2) x.part (by have := of_decide_eq_false hc1; omega) hx H) hp1)) ?_
      exact aD.run II 5 rfl (aD.nil (by kernel_rfl) (Kept.now (aC.seq (aC.region (aB.run II 5 rfl (aB.nil (aC.ret (jA.fin (Fz hc1 h2 hp1) ⟨.inr rfl, (aE.r2 rfl (.cell nN rfl rfl rfl rfl (.tmp rfl .nil))).cast rfl, rfl⟩))))))))
def qd (aI : List (List cA)) (x : Port) : Port → Bool := fun y => !(x.f.one == []) && y.f.one == x.f.one && decide (0 < (aI.getD y.reg.toNat []).length)
theorem Dy {g : List (List cA)} {r : Int} (h0 : 0 ≤ r) (h : r < (g.length : Int)) : vQ false 1 (((dT g).map fun c => Sv.v (qn c)).drop (r.toNat * 1)) = some (.v (iJ (g.getD r.toNat []))) := vp (f := .mk 0 0 g [] true) h0 h
theorem B5 (x y : Port) (aI : List (List cA)) (h0 : 0 ≤ y.reg) (h1 : y.reg < (aI.length : Int)) (xid bid fid rid : Nat) (a b c : AV) (H : Hp) (hX : H.obj xid = some (x.cells.map .v)) (hB : H.obj bid = some [.v (.op fid 0)]) (hF : H.obj fid = some [.v a, .v (.os rid aI.length 1), .v b, .v c]) (hR : H.obj rid = some (dT aI)) :
  cc Tryz.prog 106 [y.av, .op xid 0, .op bid 0] H (.bool (qd aI x y)) H := by
 refine cc.aL Tryz.func106 rfl rfl (aF rfl) (aC.seq (aC.region (aB.run II 2 rfl (aB.nil (aC.seq (aC.drawn mixed rfl (aD.run II 2 rfl (aD.c1 rfl (bR (aF rfl) rX rfl rfl hX rfl) (aD.run II 2 rfl (aD.tell (d := 9) rfl (fun hg1 => ?_) (fun hg1 => ?_)))))))))))
 ·refine aD.run II 5 rfl (aD.g1 rfl (aF rfl) rfl rfl (bR (aF rfl) rX rfl rfl hX rfl) (aD.run II 3 rfl (aD.tell (d := 18) rfl (fun hg2 => ?_) (fun hg2 => ?_))))
  ·exact aD.g1 rfl (aF rfl) rfl rfl (bR (aF rfl) wP rfl rfl hB rfl) (aD.run II 2 rfl (aD.g1 rfl (aF rfl) rfl rfl (bR (aF rfl) kO rfl rfl hF rfl) (aD.run II 2 rfl (aD.g1 rfl (aF rfl) rfl rfl (bV (aF rfl) ld rfl rfl h0 h1) (aD.g1 rfl (aF rfl) rfl rfl (bR (aF rfl) l7 rfl rfl hR (Dy h0 h1)) (aD.run II 4 rfl (aD.nil (by kernel_rfl) (Kept.now (aC.ret ⟨.inr rfl, (aE.r1 rfl (.tmp rfl .nil)).cast (congrArg AV.bool (by simp_all [qd])), rfl⟩)))))))))
  ·exact aD.run II 12 rfl (aD.nil (by kernel_rfl) (Kept.now (aC.ret ⟨.inr rfl, (aE.r1 rfl (.tmp rfl .nil)).cast (congrArg AV.bool (by simp_all [qd])), rfl⟩)))
 ·exact aD.run II 21 rfl (aD.nil (by kernel_rfl) (Kept.now (aC.ret ⟨.inr rfl, (aE.r1 rfl (.tmp rfl .nil)).cast (congrArg AV.bool (by simp_all [qd])), rfl⟩)))
theorem Hl (l : List Port) (hl : l.length ≤ 1000000) (F : FuncId) (caps : List AV) (p : Port → Bool) (H : Hp) (hF : aa Tryz.prog F = true) (hp : ∀ x ∈ l, cc Tryz.prog F ([x.av] ++ caps) H (.bool (p x)) H) : cc Tryz.prog 103 [.sl (l.map Port.av), .fn F caps] H (.int .i64 (bS p l 0)) H := by
 refine cc.aL Tryz.func103 rfl rfl (aF rfl) (aC.seq (aC.region (aB.run II 1 rfl (aB.nil (aC.seq (aC.seq (aC.region (aB.run II 3 rfl (aB.nil (aC.blk (aC.aK (Kept.aJ [.s 8, .h, .s 0, .s 1, .s 7] rfl (by decide) (Kept.now (aC.aX (fun (i : Nat) => [(.s 8, .sv (.v (.int .i64 (i : Int))))]) _ (fun (i : Nat) => bS p (l.drop i) i = bS p l 0) (fun (i : Nat) => l.length - i) 0 rfl rfl ?_))))))))))))))
 rintro i hI
 refine aC.seq (aC.region (aB.run II 1 rfl (aB.nil (aC.seq (aC.cond rfl (fun hc1 => ?_) (fun hc1 => ?_))))))
 ·have hi := dD hc1
  refine aC.skip (aC.seq (aC.blk (aC.seq (aC.region (aB.run II 2 rfl (aB.nil (aC.seq (aC.region (aB.run II 3 rfl (aB.c1 rfl (aH (aF rfl) c9 rfl rfl (Int.natCast_nonneg _) (cF hi) rfl) (aB.run II 1 rfl (aB.c2 rfl (rS (aF rfl) hF rfl rfl rfl (hp _ (List.getElem_mem hi))) (aB.nil (aC.cond rfl (fun hc2 => ?_) (fun hc2 => ?_)))))))))))))))
  ·exact aC.seq (aC.region (aB.run II 2 rfl (aB.nil (aC.ret ⟨.inr rfl, (aE.r1 rfl (.tmp rfl .nil)).cast (congrArg (AV.int .i64) (by rw [← hI, cQ hi, if_pos hc2])), rfl⟩))))
  ·exact aC.skip (aC.region (aB.run II 2 rfl (aB.kept (Kept.aY 8 rfl (inc (by omega)) (Kept.aJ [.s 8, .h, .s 0, .s 1, .s 7] rfl (by decide) (Kept.now ⟨i + 1, by omega, by rw [← hI, cQ hi, hc2]; rfl, rfl⟩))))))
 ·have hi := dE hc1
  exact aC.exit (aC.seq (aC.region (aB.run II 1 rfl (aB.nil (aC.ret ⟨.inr rfl, (aE.r1 rfl (.tmp rfl .nil)).cast (congrArg (AV.int .i64) (by rw [← hI, dd hi])), rfl⟩)))))
theorem IU {H : Hp} {A B : List Hc} : ((H.new A).new B).obj (H.next + 1) = some B := Hp.fH (H.new A) B
theorem IT {H : Hp} {A B : List Hc} : ((H.new A).new B).obj H.next = some A := by rw [Hp.ko _ _ (Nat.lt_succ_self _)]; exact Hp.fH _ _
theorem u0 {H : Hp} {A B cs : List Hc} {i : Nat} (h : i < H.next) (e : H.obj i = some cs) : ((H.new A).new B).obj i = some cs := by rw [Hp.ko _ _ (Nat.lt_succ_of_lt h), Hp.ko _ _ h]; exact e
theorem wZ {α : Type} (p : α → Bool) (l : List α) : decide (bS p l 0 ≥ 0) = l.any p := by
 rcases ao p l 0 with ⟨h1, h2⟩ | ⟨i, hi, h1, h2, h3⟩
 ·rw [h1, Bool.eq_iff_iff, List.any_eq_true]
  constructor
  ·intro h; exact absurd h (by decide)
  ·rintro ⟨x, hx, e⟩; exact absurd e (by simpa using List.find?_eq_none.1 h2 x hx)
 ·rw [h1, Bool.eq_iff_iff, List.any_eq_true]
  constructor
  ·intro _; exact ⟨_, List.getElem_mem hi, h3⟩
  ·intro _; simp
theorem uP (l : List Port) (hl : l.length ≤ 1000000) (F : FuncId) (caps : List AV) (p : Port → Bool) (H : Hp) (hF : aa Tryz.prog F = true) (hp : ∀ x ∈ l, cc Tryz.prog F ([x.av] ++ caps) H (.bool (p x)) H) : cc Tryz.prog 105 [.sl (l.map Port.av), .fn F caps] H (.bool (l.any p)) H := by
 exact cc.aL Tryz.func105 rfl rfl (aF rfl) (aC.seq (aC.region (aB.run II 1 rfl (aB.nil (aC.seq (aC.region (aB.run II 2 rfl (aB.c1 rfl (dJ (aF rfl) yX rfl rfl (Hl l hl F caps p H hF hp)) (aB.run II 2 rfl (aB.nil (aC.ret ⟨.inr rfl, (aE.r1 rfl (.tmp rfl .nil)).cast (congrArg AV.bool (wZ p l)), rfl⟩)))))))))))
theorem xk (x : Port) (bW : List Port) (hl : bW.length ≤ 1000000) (aI : List (List cA)) (hp : ∀ y ∈ bW, 0 ≤ y.reg ∧ y.reg < (aI.length : Int)) (fid rid : Nat) (a b c : AV) (H : Hp) (n1 : fid < H.next) (n2 : rid < H.next) (hF : H.obj fid = some [.v a, .v (.os rid aI.length 1), .v b, .v c]) (hR : H.obj rid = some (dT aI)) :
  cc Tryz.prog 65 [.op fid 0, .sl (bW.map Port.av), x.av] H (.bool (iy aI bW x)) H := by
 exact cc.je Tryz.func65 rfl rfl (aF rfl) (.bool _) (aC.seq (aC.region (aB.run II 3 rfl (aB.kept (Kept.qi 3 rfl rfl (Kept.op 3 rfl rfl (Kept.cls 3 rfl rfl rfl rfl (Kept.qi 5 rfl rfl (Kept.op 5 rfl rfl (Kept.cls 5 rfl rfl rfl rfl (Kept.now (aC.seq (aC.region (aB.run II 1 rfl (aB.c1 rfl (lX (aF rfl) rfl) (aB.c1 rfl (dJ (aF rfl) Fq rfl rfl (uP bW hl _ _ (qd aI x) _ (by kernel_rfl) fun y hy => B5 x y aI (hp y hy).1 (hp y hy).2 _ _ fid rid a b c _ IU IT (u0 n1 hF) (u0 n2 hR))) (aB.run II 2 rfl (aB.nil (aC.ret (⟨.inr rfl, (aE.r1 rfl (.tmp rfl .nil)).cast rfl, ⟨_, rfl, ((Hp.more.refl H).new _).new _⟩⟩))))))))))))))))))))
def JM (cs : List cA) : AV := .tup [iJ cs, .bool true]
def uw : AV := .tup [.sl [], .bool false]
theorem tI {D : Nat → Prop} : bG D uw := .tup _ (ai.cons (.sl _ fun x hx => by cases hx) (ai.cons (.bool _) ai.nil))
def qq (cs : List cA) : Except Unit (List cA × Hp) → Except Unit (List cA × Hp)
 | .ok r => .ok (cs ++ r.1, r.2)
 | .error u => .error u
theorem DD (r : Except Unit (List cA × Hp)) : qq [] r = r := by cases r <;> rfl
theorem uv {F : oL} {x : Port} {vs : List bD} {H : Hp} (h : vs.length = 0 ∨ (x.f.rep = false ∧ 1 < vs.length)) : cb F x vs H = .error () := by unfold cb; rw [if_pos h]
theorem Cy {F : oL} {x : Port} {vs : List bD} {H : Hp} (h : ¬ (vs.length = 0 ∨ (x.f.rep = false ∧ 1 < vs.length))) : cb F x vs H = qq [] (cp F x (vs.drop 0) H) := by unfold cb; rw [if_neg h, DD]; rfl
theorem Cz {F : oL} {x : Port} {vs : List bD} {H K : Hp} {cs : List cA} {i : Nat} {u : Unit} (hi : i < vs.length) (hI : cb F x vs H = qq cs (cp F x (vs.drop i) K)) (e : fM F x vs[i] K = .error u) : cb F x vs H = .error u := by
 rw [hI, List.drop_eq_getElem_cons hi]; unfold cp; rw [e]; rfl
theorem AP {F : oL} {x : Port} {vs : List bD} {H K : Hp} {cs : List cA} {i : Nat} {c : cA × Hp} (hi : i < vs.length) (hI : cb F x vs H = qq cs (cp F x (vs.drop i) K)) (e : fM F x vs[i] K = .ok c) (h : (x.f.hidden && decide (vs[i].n = 0) && vs[i].s == []) = true) : cb F x vs H = .error () := by
 rw [hI, List.drop_eq_getElem_cons hi]; unfold cp; rw [e]; dsimp only; rw [h]; rfl
theorem ll {F : oL} {x : Port} {vs : List bD} {H K : Hp} {cs : List cA} {i : Nat} {c : cA × Hp} (hi : i < vs.length) (hI : cb F x vs H = qq cs (cp F x (vs.drop i) K)) (e : fM F x vs[i] K = .ok c) (h : (x.f.hidden && decide (vs[i].n = 0) && vs[i].s == []) = false) : cb F x vs H = qq (cs ++ [c.1]) (cp F x (vs.drop (i + 1)) c.2) := by
 rw [hI, List.drop_eq_getElem_cons hi]
 conv => lhs; unfold cp
 rw [e]
 dsimp only
 rw [h]
 cases cp F x (vs.drop (i + 1)) c.2 with
 | ok r => simp [qq]
 | error u => rfl
theorem AQ {F : oL} {x : Port} {vs : List bD} {H K : Hp} {cs : List cA} {i : Nat} (hi : vs.length ≤ i) (hI : cb F x vs H = qq cs (cp F x (vs.drop i) K)) : cb F x vs H = .ok (cs, K) := by
 rw [hI, List.drop_of_length_le hi]; simp [cp, qq]
theorem iL {F : oL} (hF : ∀ k t H f H', F k t H = .ok (f, H') → H.more H') {x : Port} {v : bD} {H : Hp} {c : cA × Hp} (e : fM F x v H = .ok c) : H.more c.2 := by
 unfold fM at e
 split at e
 ·split at e
  ·cases e; exact Hp.more.refl _
  ·cases e
 ·split at e
  ·split at e
   ·rename_i p hp
    cases e
    exact hF _ _ _ p.1 p.2 hp
   ·cases e
  ·cases e
theorem xj (ps : List ak) (bh : Bool) (F : oL) (hFm : ∀ k t H f H', F k t H = .ok (f, H') → H.more H') (x : Port) (vs : List bD) (hx : x.part < (ps.length : Int)) (hl : vs.length ≤ 1000) (hvs : ∀ v ∈ vs, v.s.length ≤ 9223372036854775807 ∧ ∀ u ∈ v.m, u.dW) (hF : ∀ v ∈ vs, ∀ u ∈ v.m, GL Tryz.prog 42 ps bh F u) (H : Hp) :
  iz Tryz.prog 66 [m6 ps bh, x.av, .sl (vs.map bD.av)] H uw (AL JM (cb F x vs H)) := by
 refine cc.oU Tryz.func66 rfl rfl (aF rfl) tI (aC.seq (aC.region (aB.run II 4 rfl (aB.nil (aC.cI [.h, .s 2, .s 3, .b 3, .s 4, .b 4] (fun (_ : Unit) => []) (fun (_ : Unit) => ¬ (vs.length = 0 ∨ (x.f.rep = false ∧ 1 < vs.length))) rfl ?_ ?_)))))
 ·refine aC.seq (aC.region (aB.run II 4 rfl (aB.tell (d := 16) rfl (fun hg1 => ?_) (fun hg1 => ?_))))
  ·exact aB.run II 10 rfl (aB.nil (aC.az rfl rfl (aC.seq (aC.region (aB.run II 2 rfl (aB.nil (aC.ret (jA.fin (gh.tS (uv (.inl (by simpa using hg1))) rfl (Hp.more.refl H)) ⟨.inr rfl, (aE.r2 rfl (.tmp rfl (.tmp rfl .nil))).cast rfl, rfl⟩))))))))
  ·refine aB.run II 5 rfl (aB.tell (d := 21) rfl (fun hg2 => ?_) (fun hg2 => ?_))
   ·refine aB.run II 5 rfl (aB.nil (aC.cond rfl (fun hc3 => ?_) (fun hc3 => ?_)))
    ·exact aC.seq (aC.region (aB.run II 2 rfl (aB.nil (aC.ret (jA.fin (gh.tS (uv (.inr ⟨by simpa using hg2, by simp at hc3; omega⟩)) rfl (Hp.more.refl H)) ⟨.inr rfl, (aE.r2 rfl (.tmp rfl (.tmp rfl .nil))).cast rfl, rfl⟩)))))
    ·exact aC.aK (Kept.aJ [.h, .s 2, .s 3, .b 3, .s 4, .b 4] rfl (by decide) (Kept.now (aC.skip (⟨(), by simp at hg1 hc3; rintro (q | ⟨q1, q2⟩); simp_all; omega, rfl⟩))))
   ·exact aB.run II 5 rfl (aB.nil (aC.aZ rfl rfl (aC.aK (Kept.aJ [.h, .s 2, .s 3, .b 3, .s 4, .b 4] rfl (by decide) (Kept.now (aC.skip (⟨(), by simp at hg1 hg2; rintro (q | ⟨q1, q2⟩) <;> simp_all, rfl⟩)))))))
 ·rintro _ hIN
  refine aC.seq (aC.region (aB.c2 rfl (El (k := 8) (el := 88) (esz := 3) (c := 0) (aF rfl) rfl (by decide)) (aB.nil (aC.seq (aC.seq (aC.region (aB.run II 3 rfl (aB.nil (aC.blk (aC.aK (Kept.aJ [.s 29, .s 8, .t 8, .h, .s 3, .b 3, .s 4, .b 4, .s 27, .s 28] rfl (by decide) (Kept.now (aC.aX (fun ((i, a, K) : Nat × List AV × Hp) => [(.s 29, .sv (.v (.int .i64 (i : Int)))), (.s 8, .sv (.ow 8 a)), (.t 8, .tk false 88 3 a), (.h, .hp K)]) _ (fun ((i, a, K) : Nat × List AV × Hp) => H.more K ∧ ∃ cs : List cA, cs.length ≤ i ∧ a = cs.map cA.av ∧ cb F x vs H = qq cs (cp F x (vs.drop i) K)) (fun ((i, a, K) : Nat × List AV × Hp) => vs.length - i) (0, [], H) rfl ⟨Hp.more.refl H, [], Nat.zero_le _, rfl, Cy hIN⟩ ?_)))))))))))))
  rintro ⟨i, a, K⟩ hI
  obtain ⟨hM, cs, hcl, ha, hI⟩ := hI
  refine aC.seq (aC.region (aB.run II 1 rfl (aB.nil (aC.seq (aC.cond rfl (fun hc4 => ?_) (fun hc4 => ?_))))))
  ·have hi := dD hc4
   refine aC.skip (aC.seq (aC.blk (aC.seq (aC.region (aB.c1 rfl (aH (aF rfl) dV rfl rfl (Int.natCast_nonneg _) (cU bD.au hi) rfl) (aB.run II 3 rfl (aB.nil (aC.seq (aC.region (aB.run II 3 rfl ?_))))))))))
   cases hp1 : fM F x (vs[i]'hi) K with
   | ok x1 => 
    refine aB.c2 rfl (cO (aF rfl) yW rfl rfl (iz.D1 (B4 ps bh F x (vs[i]'hi) hx (hvs _ (List.getElem_mem hi)).1 (hvs _ (List.getElem_mem hi)).2 (hF _ (List.getElem_mem hi)) K) hp1)) (aB.run II 6 rfl (aB.nil (aC.seq (aC.seq (aC.region (aB.run II 5 rfl (aB.g1 rfl (aF rfl) rfl rfl (aG (aF rfl) yV rfl (uN _)) (aB.run II 1 rfl (aB.tell (d := 46) rfl (fun hg5 => ?_) (fun hg5 => ?_))))))))))
    ·refine aB.run II 5 rfl (aB.tell (d := 51) rfl (fun hg6 => ?_) (fun hg6 => ?_))
     ·refine aB.run II 5 rfl (aB.nil (aC.cond rfl (fun hc7 => ?_) (fun hc7 => ?_)))
      ·exact aC.seq (aC.region (aB.run II 2 rfl (aB.nil (aC.ret (jA.fin (gh.tS (AP hi hI hp1 (by simp_all)) rfl (hM.trans (iL hFm hp1))) ⟨.inr rfl, (aE.r2 rfl (.tmp rfl (.tmp rfl .nil))).cast rfl, rfl⟩)))))
      ·refine aC.skip (aC.region (aB.run II 3 rfl (aB.c3 rfl (aV (aF rfl) vl rfl rfl rfl rfl rfl (by simp [ha]; omega) (by simp [ha]; omega)) ?_)))
       exact aB.run II 1 rfl (aB.nil (aC.region (aB.run II 2 rfl (aB.kept (Kept.aY 29 rfl (inc (by omega)) (Kept.aJ [.s 29, .s 8, .t 60, .h, .s 3, .b 3, .s 4, .b 4, .s 27, .s 28] rfl (by decide) (Kept.gG 60 8 (by decide) rfl (Kept.now (⟨(i + 1, _, _), by dsimp only; omega, ⟨hM.trans (iL hFm hp1), cs ++ [x1.1], by simp; omega, by rw [ha]; simp; rfl, ll hi hI hp1 (by simp_all)⟩, rfl⟩)))))))))
     ·refine aB.run II 5 rfl (aB.nil (aC.aZ rfl rfl (aC.skip (aC.region (aB.run II 3 rfl (aB.c3 rfl (aV (aF rfl) vl rfl rfl rfl rfl rfl (by simp [ha]; omega) (by simp [ha]; omega)) ?_))))))
      exact aB.run II 1 rfl (aB.nil (aC.region (aB.run II 2 rfl (aB.kept (Kept.aY 29 rfl (inc (by omega)) (Kept.aJ [.s 29, .s 8, .t 60, .h, .s 3, .b 3, .s 4, .b 4, .s 27, .s 28] rfl (by decide) (Kept.gG 60 8 (by decide) rfl (Kept.now (⟨(i + 1, _, _), by dsimp only; omega, ⟨hM.trans (iL hFm hp1), cs ++ [x1.1], by simp; omega, by rw [ha]; simp; rfl, ll hi hI hp1 (by simp_all)⟩, rfl⟩)))))))))
    ·refine aB.run II 10 rfl (aB.nil (aC.aZ rfl rfl (aC.skip (aC.region (aB.run II 3 rfl (aB.c3 rfl (aV (aF rfl) vl rfl rfl rfl rfl rfl (by simp [ha]; omega) (by simp [ha]; omega)) ?_))))))
     exact aB.run II 1 rfl (aB.nil (aC.region (aB.run II 2 rfl (aB.kept (Kept.aY 29 rfl (inc (by omega)) (Kept.aJ [.s 29, .s 8, .t 60, .h, .s 3, .b 3, .s 4, .b 4, .s 27, .s 28] rfl (by decide) (Kept.gG 60 8 (by decide) rfl (Kept.now (⟨(i + 1, _, _), by dsimp only; omega, ⟨hM.trans (iL hFm hp1), cs ++ [x1.1], by simp; omega, by rw [ha]; simp; rfl, ll hi hI hp1 (by simp_all)⟩, rfl⟩)))))))))
   | error e1 => 
    exact aB.c1 rfl (dJ (aF rfl) yW rfl rfl (iz.tS (B4 ps bh F x (vs[i]'hi) hx (hvs _ (List.getElem_mem hi)).1 (hvs _ (List.getElem_mem hi)).2 (hF _ (List.getElem_mem hi)) K) hp1)) (aB.run II 6 rfl (aB.nil (aC.seq (aC.seq (aC.region (aB.run II 17 rfl (aB.nil (aC.az rfl rfl (aC.seq (aC.region (aB.run II 2 rfl (aB.nil (aC.ret (jA.fin (gh.tS (Cz hi hI hp1) rfl hM) ⟨.inr rfl, (aE.r2 rfl (.tmp rfl (.tmp rfl .nil))).cast rfl, rfl⟩))))))))))))))
  ·have hi := dE hc4
   exact aC.exit (aC.seq (aC.region (aB.run II 3 rfl (aB.nil (aC.ret (jA.fin (gh.D1 (AQ hi hI) (by rw [ha]; rfl)) ⟨.inr rfl, (aE.r2 rfl (.tmp rfl (.tmp rfl .nil))).cast rfl, rfl⟩))))))
/- what a value is loaded to: the walk of a frame -/
theorem JD : aa Tryz.prog 10 = true := by kernel_rfl
theorem sw : aa Tryz.prog 64 = true := by kernel_rfl
theorem C9 : aa Tryz.prog 65 = true := by kernel_rfl
theorem C8 : aa Tryz.prog 66 = true := by kernel_rfl
def nz (num : Int) (l : List Port) : Except Unit Port := match l.find? (eR num) with | some p => .ok p | none => .error ()
theorem dh {num : Int} {l : List Port} {p : Port} (h : nz num l = .ok p) : l.find? (eR num) = some p := by
 unfold nz at h; split at h
 ·rename_i e; cases h; exact e
 ·cases h
theorem mj {num : Int} {l : List Port} {u : Unit} (h : nz num l = .error u) : l.find? (eR num) = none := by
 unfold nz at h; split at h
 ·cases h
 ·assumption
theorem wJ {num : Int} {l : List Port} {p : Port} (h : l.find? (eR num) = some p) : 0 ≤ js num l := by
 rcases ao (eR num) l 0 with ⟨q1, q2⟩ | ⟨i, hi, q1, q2, q3⟩
 ·rw [q2] at h; cases h
 ·show 0 ≤ bS _ _ _; rw [q1]; omega
theorem wK {num : Int} {l : List Port} (h : l.find? (eR num) = none) : ¬ 0 ≤ js num l := by
 rcases ao (eR num) l 0 with ⟨q1, q2⟩ | ⟨i, hi, q1, q2, q3⟩
 ·show ¬ 0 ≤ bS _ _ _; rw [q1]; omega
 ·rw [q2] at h; cases h
theorem xa {l : List Port} (hl : l.length ≤ 1000000) {num : Int} {p : Port} (h : nz num l = .ok p) : Pure Tryz.prog 64 [.sl (l.map Port.av), .int .i64 num] (.tup [p.av, .bool true]) := by
 have := BI l hl num
 have e := dh h
 unfold mS pQ at this
 rw [e, decide_eq_true (wJ e)] at this
 exact this
theorem xb {l : List Port} (hl : l.length ≤ 1000000) {num : Int} {u : Unit} (h : nz num l = .error u) : Pure Tryz.prog 64 [.sl (l.map Port.av), .int .i64 num] (.tup [hZ.av, .bool false]) := by
 have := BI l hl num
 have e := mj h
 unfold mS pQ at this
 rw [e, decide_eq_false (wK e)] at this
 exact this
def nu (l : List Slot) : Nat → Option Int
 | 0 => none
 | j + 1 => some ((l.getD j (.mk 0 [])).num)
theorem zE {l : List Slot} {i : Nat} (h0 : 0 < i) (hi : i < l.length) (hb : l.length ≤ 1000) : (l.map Slot.av)[(IntKind.i64.wrap ((i : Int) - 1)).toNat]? = some (.agg (l.getD (i - 1) (.mk 0 [])).cells) := by
 rw [wj h0 (by omega), Int.toNat_natCast, List.getElem?_map, List.getD_eq_getElem?_getD, List.getElem?_eq_getElem (by omega)]
 simp [Slot.au]
theorem J2 {i : Nat} (h0 : 0 < i) (h2 : i ≤ 1000) : 0 ≤ IntKind.i64.wrap ((i : Int) - 1) := by rw [wj h0 h2]; omega
theorem rY {l : List Slot} {i : Nat} (h0 : 0 < i) : nu l i = some (l.getD (i - 1) (.mk 0 [])).num := by
 cases i with
 | zero => omega
 | succ j => rfl
def m8 (last : Option Int) (n : Int) : Bool := match last with | none => false | some z => decide (z ≥ n)
structure tQ (F : oL) (q : ak) (bh : Bool) (kn : Nat) (t : Tree) (H : Hp) (i : Nat) (aI : List (List cA)) (K : Hp) : Prop where
 eq : cC F (q.side bh) H.next none t.aO (List.replicate q.aI.toNat []) (dz q kn bh H) = cC F (q.side bh) H.next (nu t.aO i) (t.aO.drop i) aI K
 len : aI.length = q.aI.toNat
 o1 : K.obj (H.next + 1) = some (ir kn q.aI H.next [] bh)
 o2 : K.obj H.next = some (dT aI)
 nx : H.next + 2 ≤ K.next
 more : H.more K
section
variable {F : oL} {q : ak} {bh : Bool} {kn : Nat} {t : Tree} {H K : Hp} {i : Nat} {aI : List (List cA)}
theorem tQ.begin (h : q.aI ≤ 100000) : tQ F q bh kn t H 0 (List.replicate q.aI.toNat []) (dz q kn bh H) := by
 have hA := ri q kn bh H h
 refine ⟨rfl, List.length_replicate, ?_, hA.o2, Nat.le_refl _, ((Hp.more.refl H).new _).new _⟩
 have := hA.o1
 have e : (qU q kn bh H).uY = ir kn q.aI H.next [] bh := by
  show [Hc.v (.int .i64 (kn : Int)), .v (.os H.next (List.replicate q.aI.toNat ([] : List cA)).length 1), _, _] = _
  rw [List.length_replicate]; rfl
 rw [e] at this
 exact this
theorem mc {last : Option Int} {y : Slot} {l : List Slot} {rid : Nat} {bW : List Port} : cC F bW rid last (y :: l) aI K = match bW.find? (eR y.num) with
  | none => .error ()
  | some p => if m8 last y.num || !iy aI bW p then .error () else match cb F p y.ah K with
   | .error u => .error u
   | .ok c => cC F bW rid (some y.num) l (aI.set p.reg.toNat c.1) (c.2.set rid (dT (aI.set p.reg.toNat c.1))) := by
 conv => lhs; unfold cC
 rfl
theorem tQ.IP (I : tQ F q bh kn t H i aI K) (hi : i < t.aO.length) (h : (q.side bh).find? (eR t.aO[i].num) = none) : cC F (q.side bh) H.next none t.aO (List.replicate q.aI.toNat []) (dz q kn bh H) = .error () := by
 rw [I.eq, List.drop_eq_getElem_cons hi, mc, h]
theorem tQ.bad (I : tQ F q bh kn t H i aI K) (hi : i < t.aO.length) {p : Port} (h : (q.side bh).find? (eR t.aO[i].num) = some p) (h2 : (m8 (nu t.aO i) t.aO[i].num || !iy aI (q.side bh) p) = true) : cC F (q.side bh) H.next none t.aO (List.replicate q.aI.toNat []) (dz q kn bh H) = .error () := by
 rw [I.eq, List.drop_eq_getElem_cons hi, mc, h]
 dsimp only
 rw [if_pos h2]
theorem tQ.FA (I : tQ F q bh kn t H i aI K) (hi : i < t.aO.length) {p : Port} (h : (q.side bh).find? (eR t.aO[i].num) = some p) (h2 : (m8 (nu t.aO i) t.aO[i].num || !iy aI (q.side bh) p) = false) {u : Unit} (h3 : cb F p t.aO[i].ah K = .error u) : cC F (q.side bh) H.next none t.aO (List.replicate q.aI.toNat []) (dz q kn bh H) = .error u := by
 rw [I.eq, List.drop_eq_getElem_cons hi, mc, h]
 dsimp only
 rw [h2, h3]; rfl
theorem zJ (aI : List (List cA)) (j : Nat) (c : List cA) : (dT aI).set (j * 1) (.v (iJ c)) = dT (aI.set j c) := by
 unfold dT; rw [List.map_set, Nat.mul_one]
theorem zK {j : Nat} (h : j < aI.length) : (dT aI)[j * 1]? = some (.v (iJ (aI.getD j []))) := by
 unfold dT
 rw [Nat.mul_one, List.getElem?_map, List.getD_eq_getElem?_getD, List.getElem?_eq_getElem h]; rfl
theorem mn (hF : ∀ k t H f H', F k t H = .ok (f, H') → H.more H') {x : Port} : ∀ {l : List bD} {H : Hp} {r : List cA × Hp}, cp F x l H = .ok r → H.more r.2
 | [], H, r, e => by cases e; exact Hp.more.refl _
 | v :: l, H, r, e => by
  unfold cp at e
  split at e
  ·cases e
  ·rename_i c hc
   split at e
   ·cases e
   ·split at e
    ·cases e
    ·rename_i r2 hr
     cases e
     have h9 := mn hF hr
     exact (iL hF hc).trans h9
theorem il (hF : ∀ k t H f H', F k t H = .ok (f, H') → H.more H') {x : Port} {l : List bD} {H : Hp} {r : List cA × Hp} (e : cb F x l H = .ok r) : H.more r.2 := by
 unfold cb at e
 split at e
 ·cases e
 ·exact mn hF e
theorem tQ.c1 (I : tQ F q bh kn t H i aI K) {K' : Hp} (h : K.more K') : K'.obj (H.next + 1) = some (ir kn q.aI H.next [] bh) := by rw [h.2 _ (by have := I.nx; omega)]; exact I.o1
theorem tQ.c2 (I : tQ F q bh kn t H i aI K) {K' : Hp} (h : K.more K') : K'.obj H.next = some (dT aI) := by rw [h.2 _ (by have := I.nx; omega)]; exact I.o2
theorem tQ.next (I : tQ F q bh kn t H i aI K) (hi : i < t.aO.length) {p : Port} (h : (q.side bh).find? (eR t.aO[i].num) = some p) (h2 : (m8 (nu t.aO i) t.aO[i].num || !iy aI (q.side bh) p) = false) {c : List cA × Hp} (h3 : cb F p t.aO[i].ah K = .ok c) (hM : K.more c.2) :
  tQ F q bh kn t H (i + 1) (aI.set p.reg.toNat c.1) (c.2.set H.next (dT (aI.set p.reg.toNat c.1))) := by
 have hnx := I.nx
 refine ⟨?_, by rw [List.length_set]; exact I.len, ?_, Hp.bk, Nat.le_trans hnx hM.1, (I.more.trans hM).set (Nat.le_refl _) _⟩
 ·rw [I.eq, List.drop_eq_getElem_cons hi, mc, h]
  dsimp only
  rw [h2, h3]
  have : nu t.aO (i + 1) = some t.aO[i].num := by
   show some ((t.aO.getD i (.mk 0 [])).num) = _
   rw [List.getD_eq_getElem?_getD, List.getElem?_eq_getElem hi]; rfl
  rw [this]; rfl
 ·rw [Hp.mN (by omega)]; exact I.c1 hM
theorem tQ.end_ (I : tQ F q bh kn t H i aI K) (hi : t.aO.length ≤ i) : cC F (q.side bh) H.next none t.aO (List.replicate q.aI.toNat []) (dz q kn bh H) = .ok (aI, K) := by
 rw [I.eq, List.drop_of_length_le hi]
 cases nu t.aO i <;> rfl
theorem kW {ps : List ak} {u : Unit} (hq : ps.getD kn cr = q) (h : cC F (q.side bh) H.next none t.aO (List.replicate q.aI.toNat []) (dz q kn bh H) = .error u) : gJ F ps bh (kn : Int) t H = .error u := by
 unfold gJ
 rw [Int.toNat_natCast, hq]
 dsimp only
 rw [h]
theorem qK {ps : List ak} (hq : ps.getD kn cr = q) (h : cC F (q.side bh) H.next none t.aO (List.replicate q.aI.toNat []) (dz q kn bh H) = .ok (aI, K)) (hr : t.rest.all (jG (q.side bh)) = false) : gJ F ps bh (kn : Int) t H = .error () := by
 unfold gJ
 rw [Int.toNat_natCast, hq]
 dsimp only
 rw [h]
 dsimp only
 rw [hr]; rfl
theorem AI {ps : List ak} (hq : ps.getD kn cr = q) (h : cC F (q.side bh) H.next none t.aO (List.replicate q.aI.toNat []) (dz q kn bh H) = .ok (aI, K)) (hr : t.rest.all (jG (q.side bh)) = true) : gJ F ps bh (kn : Int) t H = .ok (.mk H.next kn aI t.rest (!bh), K.set (H.next + 1) (ir (kn : Int) q.aI H.next t.rest bh)) := by
 unfold gJ
 rw [Int.toNat_natCast, hq]
 dsimp only
 rw [h]
 dsimp only
 rw [if_pos hr]
theorem DM {α : Type} {p : α → Bool} {l : List α} {i : Nat} (hi : i < l.length) (h : p l[i] = false) : l.all p = false := by
 rw [List.all_eq_false]
 exact ⟨l[i], List.getElem_mem hi, by simp [h]⟩
end
theorem mf {D : Nat → Prop} : bG D mg := .tup _ (ai.cons .nilp (ai.cons (.bool _) ai.nil))
theorem B3 (ps : List ak) (hP : gg ps) (bh : Bool) (F : oL) (hFm : ∀ k t H f H', F k t H = .ok (f, H') → H.more H') (t : Tree) (hln : t.CE) (hvb : ∀ y ∈ t.aO, ∀ v ∈ y.ah, v.s.length ≤ 9223372036854775807 ∧ ∀ u ∈ v.m, u.dW) (hF : ∀ y ∈ t.aO, ∀ v ∈ y.ah, ∀ u ∈ v.m, GL Tryz.prog 42 ps bh F u)
  (kn : Nat) (q : ak) (hq : ps[kn]? = some q) (H : Hp) : iz Tryz.prog 42 [m6 ps bh, .int .i64 kn, .agg t.cells] H mg (AL wc (gJ F ps bh kn t H)) := by
 have hqm := List.mem_of_getElem? hq
 have hqd : ps.getD kn cr = q := by rw [List.getD_eq_getElem?_getD, hq]; rfl
 have hb : q.ins.length ≤ 1000000 ∧ q.outs.length ≤ 1000000 := by have := hP.sides q hqm; omega
 have hsl : (q.side bh).length ≤ 1000000 := by unfold ak.side; split <;> omega
 have hr0 := (hP.aI q hqm).1
 have hr1 : q.aI ≤ 100000 := by have := (hP.aI q hqm).2; omega
 have hside : ∀ x ∈ q.side bh, 0 ≤ x.reg ∧ x.reg < q.aI ∧ x.part < (ps.length : Int) := fun x hx => hP.bW q hqm x (by unfold ak.side at hx; cases bh <;> simp_all)
 have hls := hln.s
 have hlr := hln.r
 refine cc.oU Tryz.func42 rfl rfl (aF rfl) mf (aC.seq (aC.region (aB.run II 4 rfl (aB.nil (aC.seq (aC.region (aB.run II 5 rfl (aB.c1 rfl (aG (aF rfl) wq rfl (x9 ps bh kn q hq hb)) (aB.run II 1 rfl (aB.nil (aC.seq (aC.region (aB.run II 5 rfl (aB.c2 rfl (cO (aF rfl) JD rfl rfl (EW ps bh kn q hq hr0 hr1 H)) (aB.run II 1 rfl (aB.nil (aC.seq (aC.seq (aC.region ?_)))))))))))))))))))
 refine aB.run II 4 rfl (aB.nil (aC.blk (aC.aK (Kept.aJ [.s 34, .h, .s 3, .b 3, .s 5, .b 5, .s 8, .s 9, .s 32, .s 33] rfl (by decide) (Kept.now (aC.aX (fun ((i, aI, K) : Nat × List (List cA) × Hp) => [(.s 34, .sv (.v (.int .i64 (i : Int)))), (.h, .hp K)]) _ (fun ((i, aI, K) : Nat × List (List cA) × Hp) => tQ F q bh kn t H i aI K) (fun ((i, aI, K) : Nat × List (List cA) × Hp) => t.aO.length - i) (0, _, _) rfl (tQ.begin hr1) ?_))))))
 rintro ⟨i, aI, K⟩ hI
 dsimp only at hI
 have hpr : ∀ y ∈ q.side bh, 0 ≤ y.reg ∧ y.reg < (aI.length : Int) := fun y hy => by have := hside y hy; have := hI.len; omega
 refine aC.seq (aC.region (aB.run II 1 rfl (aB.nil (aC.seq (aC.cond rfl (fun hc1 => ?_) (fun hc1 => ?_))))))
 ·have hi := dD hc1
  refine aC.skip (aC.seq (aC.blk (aC.seq (aC.region (aB.run II 1 rfl (aB.c1 rfl (aH (aF rfl) ca rfl rfl (Int.natCast_nonneg _) (cU Slot.au hi) rfl) (aB.run II 4 rfl (aB.nil (aC.seq (aC.region (aB.run II 3 rfl ?_)))))))))))
  cases hp1 : nz (t.aO[i]'hi).num (q.side bh) with
  | ok x1 => 
   refine aB.c1 rfl (aG (aF rfl) sw rfl (xa hsl hp1)) (aB.run II 6 rfl (aB.nil (aC.cI [.h, .s 3, .b 3, .s 5, .b 5, .s 8, .s 9, .s 11, .b 11, .s 12, .b 12, .s 32, .s 33, .s 34] (fun (_ : Unit) => []) (fun (_ : Unit) => (m8 (nu t.aO i) (t.aO[i]'hi).num || !iy aI (q.side bh) x1) = false) rfl ?_ ?_)))
   ·refine aC.seq (aC.drawn mixed rfl (aD.run II 6 rfl (aD.tell (d := 51) rfl (fun hg2 => ?_) (fun hg2 => ?_))))
    ·refine aD.run II 4 rfl (aD.g1 rfl (aF rfl) rfl rfl (aH (aF rfl) ca rfl rfl (J2 (tT hg2) (by omega)) (zE (tT hg2) hi hls) rfl) (aD.run II 8 rfl (aD.tell (d := 64) rfl (fun hg3 => ?_) (fun hg3 => ?_))))
     ·exact aD.run II 6 rfl (aD.nil (by kernel_rfl) (Kept.now (aC.az rfl rfl (aC.seq (aC.region (aB.run II 2 rfl (aB.nil (aC.ret (jA.fin (gh.tS (kW hqd (hI.bad hi (dh hp1) (by rw [rY (tT hg2)]; simp only [Bool.or_eq_true]; exact .inl hg3))) rfl hI.more) ⟨.inr rfl, (aE.r2 rfl (.tmp rfl (.tmp rfl .nil))).cast rfl, rfl⟩)))))))))
     ·refine aD.run II 3 rfl (aD.g1 rfl (aF rfl) rfl rfl (dJ (aF rfl) C9 rfl rfl (xk x1 (q.side bh) hsl aI hpr (H.next + 1) H.next _ _ _ K (by have := hI.nx; omega) (by have := hI.nx; omega) (by rw [hI.len]; exact hI.o1) hI.o2)) ?_)
      refine aD.run II 2 rfl (aD.nil (by kernel_rfl) (Kept.now (aC.cond rfl (fun hc4 => ?_) (fun hc4 => ?_))))
      ·exact aC.seq (aC.region (aB.run II 2 rfl (aB.nil (aC.ret (jA.fin (gh.tS (kW hqd (hI.bad hi (dh hp1) (by simp only [Bool.or_eq_true]; exact .inr hc4))) rfl hI.more) ⟨.inr rfl, (aE.r2 rfl (.tmp rfl (.tmp rfl .nil))).cast rfl, rfl⟩)))))
      ·exact aC.aK (Kept.aJ [.h, .s 3, .b 3, .s 5, .b 5, .s 8, .s 9, .s 11, .b 11, .s 12, .b 12, .s 32, .s 33, .s 34] rfl (by decide) (Kept.now (aC.skip (⟨(), by rw [rY (tT hg2)]; exact Bool.or_eq_false_iff.2 ⟨hg3, hc4⟩, rfl⟩))))
    ·refine aD.run II 16 rfl (aD.g1 rfl (aF rfl) rfl rfl (dJ (aF rfl) C9 rfl rfl (xk x1 (q.side bh) hsl aI hpr (H.next + 1) H.next _ _ _ K (by have := hI.nx; omega) (by have := hI.nx; omega) (by rw [hI.len]; exact hI.o1) hI.o2)) ?_)
     refine aD.run II 2 rfl (aD.nil (by kernel_rfl) (Kept.now (aC.cond rfl (fun hc5 => ?_) (fun hc5 => ?_))))
     ·exact aC.seq (aC.region (aB.run II 2 rfl (aB.nil (aC.ret (jA.fin (gh.tS (kW hqd (hI.bad hi (dh hp1) (by simp only [Bool.or_eq_true]; exact .inr hc5))) rfl hI.more) ⟨.inr rfl, (aE.r2 rfl (.tmp rfl (.tmp rfl .nil))).cast rfl, rfl⟩)))))
     ·exact aC.aK (Kept.aJ [.h, .s 3, .b 3, .s 5, .b 5, .s 8, .s 9, .s 11, .b 11, .s 12, .b 12, .s 32, .s 33, .s 34] rfl (by decide) (Kept.now (aC.skip (⟨(), by have : i = 0 := Lb hg2; subst this; exact Bool.or_eq_false_iff.2 ⟨rfl, hc5⟩, rfl⟩))))
   ·rintro _ hJn
    refine aC.seq (aC.region (aB.run II 4 rfl ?_))
    cases hp2 : cb F x1 (t.aO[i]'hi).ah K with
    | ok x2 => 
     refine aB.c2 rfl (cO (aF rfl) C8 rfl rfl (iz.D1 (xj ps bh F hFm x1 (t.aO[i]'hi).ah (hside _ (List.mem_of_find?_eq_some (dh hp1))).2.2 (hln.v _ (List.getElem_mem hi)) (hvb _ (List.getElem_mem hi)) (hF _ (List.getElem_mem hi)) K) hp2)) ?_
     refine aB.run II 5 rfl (aB.nil (aC.seq (aC.seq (aC.region (aB.run II 2 rfl (aB.nil (aC.aZ rfl (congrArg not rfl) (aC.skip (aC.drawn mixed rfl (aD.run II 3 rfl (aD.c1 rfl (bR (aF rfl) kO rfl rfl (hI.c1 (il hFm hp2)) rfl) (aD.run II 3 rfl (aD.c1 rfl (bV (aF rfl) ld rfl rfl (hside _ (List.mem_of_find?_eq_some (dh hp1))).1 (by have := hside _ (List.mem_of_find?_eq_some (dh hp1)); omega)) ?_)))))))))))))
     refine aD.c1 rfl (sa l7 rfl rfl (hI.c2 (il hFm hp2)) rfl rfl (zK (by have := hside _ (List.mem_of_find?_eq_some (dh hp1)); have := hI.len; omega))) ?_
     exact aD.nil (by kernel_rfl) (Kept.now (aC.region (aB.run II 2 rfl (aB.kept (Kept.oD rfl (congrArg (Hp.set _ _) (zJ _ _ _)) (Kept.aY 34 rfl (inc (by omega)) (Kept.aJ [.s 34, .h, .s 3, .b 3, .s 5, .b 5, .s 8, .s 9, .s 32, .s 33] rfl (by decide) (Kept.now ⟨(i + 1, _, _), by dsimp only; omega, hI.next hi (dh hp1) hJn hp2 (il hFm hp2), rfl⟩))))))))
    | error e2 => 
     refine aB.c1 rfl (dJ (aF rfl) C8 rfl rfl (iz.tS (xj ps bh F hFm x1 (t.aO[i]'hi).ah (hside _ (List.mem_of_find?_eq_some (dh hp1))).2.2 (hln.v _ (List.getElem_mem hi)) (hvb _ (List.getElem_mem hi)) (hF _ (List.getElem_mem hi)) K) hp2)) ?_
     exact aB.run II 5 rfl (aB.nil (aC.seq (aC.seq (aC.region (aB.run II 2 rfl (aB.nil (aC.az rfl (congrArg not rfl) (aC.seq (aC.region (aB.run II 2 rfl (aB.nil (aC.ret (jA.fin (gh.tS (kW hqd (hI.FA hi (dh hp1) hJn hp2)) rfl hI.more) ⟨.inr rfl, (aE.r2 rfl (.tmp rfl (.tmp rfl .nil))).cast rfl, rfl⟩)))))))))))))
  | error e1 => 
   refine aB.c1 rfl (aG (aF rfl) sw rfl (xb hsl hp1)) (aB.run II 6 rfl (aB.nil (aC.cI [.h, .s 3, .b 3, .s 5, .b 5, .s 8, .s 9, .s 11, .b 11, .s 12, .b 12, .s 32, .s 33, .s 34] (fun (_ : Unit) => []) (fun _ => False) rfl ?_ ?_)))
   ·exact aC.seq (aC.drawn mixed rfl (aD.run II 25 rfl (aD.nil (by kernel_rfl) (Kept.now (aC.az rfl rfl (aC.seq (aC.region (aB.run II 2 rfl (aB.nil (aC.ret (jA.fin (gh.tS (kW hqd (hI.IP hi (mj hp1))) rfl hI.more) ⟨.inr rfl, (aE.r2 rfl (.tmp rfl (.tmp rfl .nil))).cast rfl, rfl⟩)))))))))))
   ·exact fun _ hF => hF.elim
 ·have hi := dE hc1
  refine aC.exit (aC.seq (aC.seq (aC.region (aB.run II 4 rfl (aB.nil (aC.blk (aC.aK (Kept.aJ [.s 93, .h, .s 5, .b 5, .s 8, .s 9, .s 91, .s 92] rfl (by decide) (Kept.now (aC.aX (fun (j : Nat) => [(.s 93, .sv (.v (.int .i64 (j : Int))))]) _ (fun (j : Nat) => (t.rest.drop j).all (jG (q.side bh)) = t.rest.all (jG (q.side bh))) (fun (j : Nat) => t.rest.length - j) 0 rfl rfl ?_))))))))))
  rintro j hJ
  refine aC.seq (aC.region (aB.run II 1 rfl (aB.nil (aC.seq (aC.cond rfl (fun hc6 => ?_) (fun hc6 => ?_))))))
  ·have hj := dD hc6
   refine aC.skip (aC.seq (aC.blk (aC.seq (aC.region (aB.c1 rfl (aH (aF rfl) lg rfl rfl (Int.natCast_nonneg _) (cF hj) rfl) (aB.run II 3 rfl (aB.nil (aC.seq (aC.region (aB.run II 3 rfl ?_))))))))))
   cases hp3 : nz (t.rest[j]'hj).num (q.side bh) with
   | ok x3 => 
    exact aB.c1 rfl (aG (aF rfl) sw rfl (xa hsl hp3)) (aB.run II 6 rfl (aB.nil (aC.seq (aC.region (aB.run II 6 rfl (aB.nil (aC.az rfl rfl (aC.seq (aC.region (aB.run II 2 rfl (aB.nil (aC.ret (jA.fin (gh.tS (qK hqd (hI.end_ hi) (DM hj (by unfold jG; rw [dh hp3]; rfl))) rfl hI.more) ⟨.inr rfl, (aE.r2 rfl (.tmp rfl (.tmp rfl .nil))).cast rfl, rfl⟩)))))))))))))
   | error e3 => 
    refine aB.c1 rfl (aG (aF rfl) sw rfl (xb hsl hp3)) (aB.run II 6 rfl (aB.nil (aC.seq (aC.region (aB.run II 3 rfl (aB.g1 rfl (aF rfl) rfl rfl (aG (aF rfl) C7 rfl (uL _)) (aB.run II 2 rfl (aB.nil (aC.cond rfl (fun hc7 => ?_) (fun hc7 => ?_))))))))))
    ·exact aC.seq (aC.region (aB.run II 2 rfl (aB.nil (aC.ret (jA.fin (gh.tS (qK hqd (hI.end_ hi) (DM hj (by unfold jG; rw [mj hp3]; simpa using hc7))) rfl hI.more) ⟨.inr rfl, (aE.r2 rfl (.tmp rfl (.tmp rfl .nil))).cast rfl, rfl⟩)))))
    ·exact aC.skip (aC.region (aB.run II 2 rfl (aB.kept (Kept.aY 93 rfl (inc (by omega)) (Kept.aJ [.s 93, .h, .s 5, .b 5, .s 8, .s 9, .s 91, .s 92] rfl (by decide) (Kept.now ⟨j + 1, by omega, by rw [← hJ, List.drop_eq_getElem_cons hj, List.all_cons, show jG (q.side bh) t.rest[j] = true from (by unfold jG; rw [mj hp3]; simpa using hc7)]; rfl, rfl⟩))))))
  ·have hj := dE hc6
   refine aC.exit (aC.seq (aC.region (aB.run II 3 rfl (aB.c1 rfl (aG (aF rfl) wi rfl (lT _ (by have := hln.r; omega))) ?_))))
   exact aB.run II 2 rfl (aB.c1 rfl (sa wQ rfl rfl hI.o1 rfl rfl rfl) (aB.nil (aC.seq (aC.region (aB.run II 3 rfl (aB.nil (aC.ret (jA.fin (gh.D1 (AI hqd (hI.end_ hi) (by rw [← hJ, List.drop_of_length_le hj]; rfl)) rfl) ⟨.inr rfl, (aE.r2 rfl (.tmp rfl (.tmp rfl .nil))).cast rfl, rfl⟩))))))))
theorem px (ps : List ak) (bh : Bool) : ∀ (n : Nat) k t H f H', eJ ps bh n k t H = .ok (f, H') → H.more H'
 | 0, k, t, H, f, H', e => by cases e
 | n + 1, k, t, H, f, H', e => by
  have hF := px ps bh n
  have go : ∀ {bW : List Port} {rid : Nat}, H.next ≤ rid → ∀ (l : List Slot) (last : Option Int) (aI : List (List cA)) (K : Hp) (r : List (List cA) × Hp), H.more K → cC (eJ ps bh n) bW rid last l aI K = .ok r → H.more r.2 := by
   intro bW rid hr l
   induction l with
   | nil => intro last aI K r hK e; rw [cC] at e; cases e; exact hK
   | cons y l ih =>
    intro last aI K r hK e
    rw [mc] at e
    split at e
    ·cases e
    ·split at e
     ·cases e
     ·split at e
      ·cases e
      ·rename_i c hc
       exact ih _ _ _ _ ((hK.trans (il hF hc)).set hr _) e
  have e : gJ (eJ ps bh n) ps bh k t H = .ok (f, H') := e
  unfold gJ at e
  dsimp only at e
  split at e
  ·cases e
  ·rename_i r hr
   split at e
   ·have h1 := go (Nat.le_refl _) _ _ _ _ _ (((Hp.more.refl H).new _).new _) hr
    injection e with e
    injection e with e1 e2
    rw [← e2]
    exact h1.set (Nat.le_succ _) _
   ·cases e
theorem xi (ps : List ak) (hP : gg ps) (bh : Bool) : ∀ (n : Nat) (t : Tree), SizeOf.sizeOf t < n → t.lean → t.dW → GL Tryz.prog 42 ps bh (eJ ps bh n) t
 | 0, t, h, _, _ => by omega
 | n + 1, t, h, hl, hb => by
  intro k hk0 hk H
  obtain ⟨kn, rfl⟩ : ∃ kn : Nat, k = kn := ⟨k.toNat, by omega⟩
  have hkn : kn < ps.length := by omega
  exact B3 ps hP bh (eJ ps bh n) (px ps bh n) t hl.here (fun y hy v hv => ⟨hb.here.vs y hy v hv, fun u hu => hb.sub hu hv hy⟩)
   (fun y hy v hv u hu => xi ps hP bh n u (by have := Tree.sub_lt hu hv hy; omega) (hl.sub hu hv hy) (hb.sub hu hv hy)) kn ps[kn] (List.getElem?_eq_getElem hkn) H
noncomputable def loadT (ps : List ak) (bh : Bool) (t : Tree) (H : Hp) : Except Unit (Fm × Hp) := eJ ps bh (SizeOf.sizeOf t + 1) 0 t H
theorem wE (ps : List ak) (hP : gg ps) (h0 : 0 < ps.length) (bh : Bool) (t : Tree) (hl : t.lean) (hb : t.dW) (H : Hp) : iz Tryz.prog 25 [cH ps, .bool bh, .agg t.cells] H mg (AL wc (loadT ps bh t H)) := by
 have hL := xi ps hP bh _ t (Nat.lt_succ_self _) hl hb 0 (Int.le_refl _) (by omega) H
 have e0 : cH ps = .agg [.sl (ps.map ak.av)] := rfl
 refine cc.oU Tryz.func25 rfl rfl (aF rfl) mf (aC.seq (aC.region (aB.run II 4 rfl (aB.nil (aC.seq (aC.region (aB.run II 4 rfl ?_)))))))
 cases hp1 : loadT ps bh t H with
 | ok x1 => 
  exact aB.c2 rfl (cO (aF rfl) tA rfl rfl (iz.D1 hL hp1)) (aB.run II 4 rfl (aB.nil (aC.ret (jA.fin (gh.D1 rfl rfl) ⟨.inr rfl, (aE.r2 rfl (.tmp rfl (.tmp rfl .nil))).cast rfl, rfl⟩))))
 | error e1 => 
  exact aB.c1 rfl (dJ (aF rfl) tA rfl rfl (iz.tS hL hp1)) (aB.run II 4 rfl (aB.nil (aC.ret (jA.fin (gh.tS rfl rfl (Hp.more.refl H)) ⟨.inr rfl, (aE.r2 rfl (.tmp rfl (.tmp rfl .nil))).cast rfl, rfl⟩))))
/- the example of layer 36 -/
theorem wm : aa Tryz.prog 25 = true := by kernel_rfl
def KO : aN := ⟨[], [⟨[77], [⟨[97], 1, 1, [], false, false, []⟩], []⟩]⟩
def JH : Tree := .mk [.mk 1 [.mk 5 [] []]] []
def JJ : List ak := lower KO []
theorem yZ : KO.all [] = .ok [KO] := by kernel_rfl
theorem Fv : KO.dW := ⟨by decide, by decide⟩
theorem JI : gg JJ := na.parts (yg yZ).1 (by decide)
theorem Fw : 0 < JJ.length := by decide
theorem Co : JH.lean := by
 refine Tree.di.mk ⟨by decide, by decide, fun x hx => ?_⟩ fun x hx v hv u hu => ?_
 ·cases List.mem_singleton.1 hx; decide
 ·cases List.mem_singleton.1 hx
  cases List.mem_singleton.1 hv
  cases hu
theorem Ft : JH.dW := by
 have h1 : ∀ x ∈ JH.aO, ∀ v ∈ x.ah, v = .mk 5 [] [] := fun x hx v hv => by
  cases List.mem_singleton.1 hx
  exact List.mem_singleton.1 hv
 refine Tree.di.mk ⟨by decide, by decide, fun x hx => ?_, fun x hx v hv => ?_, fun x hx v hv => ?_, fun x hx v hv => ?_, fun r hr => (List.not_mem_nil hr).elim, fun r hr => (List.not_mem_nil hr).elim⟩ fun x hx v hv u hu => ?_
 ·cases List.mem_singleton.1 hx; decide
 ·rw [h1 x hx v hv]; decide
 ·rw [h1 x hx v hv]; decide
 ·rw [h1 x hx v hv]; decide
 ·rw [h1 x hx v hv] at hu; cases hu
def JK : AV := .agg [.sl [], .sl [.agg [.str [77], .sl [.agg [.str [97], .int .i64 1, .int .i64 1, .str [], .bool false, .bool false, .str []]], .sl []]]]
def JG : AV := .agg [.sl [.agg [.int .i64 1, .sl [.agg [.int .u64 5, .str [], .sl []]]]], .sl []]
theorem Fu : AV.agg JH.cells = JG := by
 simp [Tree.cells, JH, Tree.aO, Tree.rest, Slot.av, bD.av, j1, gV, JG]
def Ll (H : Hp) : Fm := .mk H.next 0 [[.mk 5 [] none]] [] true
def JT (H : Hp) : Hp := ((dz (JJ.headD cr) 0 false H).set H.next (dT [[.mk 5 [] none]])).set (H.next + 1) (ir 0 1 H.next [] false)
theorem Lk (H : Hp) : loadT JJ false JH H = .ok (Ll H, JT H) := by kernel_rfl
theorem zN : Pure Tryz.prog 24 [JK, .sl []] (.tup [cH JJ, .int .i64 0]) := pN (s := KO) (l := []) Fv (fun x hx => (List.not_mem_nil hx).elim) (by decide) yZ
theorem BY (H : Hp) : cc Tryz.prog 25 [cH JJ, .bool false, JG] H (.tup [.op (H.next + 1) 0, .bool true]) (JT H) := by
 have h := iz.D1 (wE JJ JI Fw false JH Co Ft H) (Lk H)
 rw [Fu] at h
 exact h
theorem Cq (H : Hp) : H.more (JT H) := ((((Hp.more.refl H).new _).new _).set (Nat.le_refl _) _).set (Nat.le_succ _) _
theorem wv (H : Hp) : (JT H).obj (H.next + 1) = some (ir 0 1 H.next [] false) := Hp.bk
theorem Cp (H : Hp) : (JT H).obj H.next = some (dT [[.mk 5 [] none]]) := by
 unfold JT; rw [Hp.mN (by omega)]; exact Hp.bk
theorem pT : Pure Tryz.prog 7 [] (.bool true) := by
 have e0 : JK = JK := rfl
 refine fun H => (cc.je Tryz.func7 rfl rfl (Nat.zero_le _) (.bool _) (aC.seq (aC.region (aB.run II 1 rfl (aB.nil (aC.seq (aC.region (aB.run II 7 rfl (aB.nil (aC.seq (aC.region (aB.run II 1 rfl (aB.c1 rfl (aG (aF rfl) Ci rfl zN) (aB.run II 6 rfl (aB.nil (aC.seq (aC.region (aB.run II 6 rfl ?_))))))))))))))))))
 refine aB.c2 rfl (cO (aF rfl) wm rfl rfl (BY H)) (aB.run II 5 rfl (aB.nil (aC.seq (aC.region (aB.run II 3 rfl (aB.g1 rfl (aF rfl) rfl rfl (sb (aF rfl) nB rfl rfl) (aB.run II 5 rfl (aB.g1 rfl (aF rfl) rfl rfl (bR (aF rfl) kO rfl rfl (wv H) rfl) (aB.run II 7 rfl (aB.g1 rfl (aF rfl) rfl rfl (bR (aF rfl) kO rfl rfl (wv H) rfl) (aB.g1 rfl (aF rfl) rfl rfl (bV (aF rfl) ld rfl rfl (by decide) (by decide)) (aB.g1 rfl (aF rfl) rfl rfl (bR (aF rfl) l7 rfl rfl (Cp H) rfl) (aB.run II 7 rfl ?_)))))))))))))
 exact aB.g1 rfl (aF rfl) rfl rfl (bR (aF rfl) kO rfl rfl (wv H) rfl) (aB.g1 rfl (aF rfl) rfl rfl (bV (aF rfl) ld rfl rfl (by decide) (by decide)) (aB.g1 rfl (aF rfl) rfl rfl (bR (aF rfl) l7 rfl rfl (Cp H) rfl) (aB.g1 rfl (aF rfl) rfl rfl (aH (aF rfl) w8 rfl rfl (by decide) rfl rfl) (aB.run II 5 rfl (aB.nil (aC.ret (⟨.inr rfl, (aE.r1 rfl (.tmp rfl .nil)).cast rfl, ⟨_, rfl, Cq H⟩⟩)))))))
/- ports that are the same -/
/- the law FrameEmpty -/
theorem EL {s : aN} {l : List aS} {L : List aN} (hs : s.dW) (hb : ∀ x ∈ l, x.dW ∧ x.names.length ≤ 1000) (hl : l.length ≤ 9223372036854775807) (h : s.all l = .ok L) : Pure Tryz.prog 8 [iw s l, .bool false] (.tup [cH (lower s l), (L.getD l.length mO).av, .bool true]) := by
 have := rM s l hs hb hl
 rw [h] at this; exact this
theorem EM {s : aN} {l : List aS} {e : Int} (hs : s.dW) (hb : ∀ x ∈ l, x.dW ∧ x.names.length ≤ 1000) (hl : l.length ≤ 9223372036854775807) (h : s.all l = .error e) : Pure Tryz.prog 8 [iw s l, .bool false] (.tup [.agg [.sl []], mO.av, .bool false]) := by
 have := rM s l hs hb hl
 rw [h] at this; exact this
section
variable {ps : List ak} (hP : gg ps) {k : Nat} {q : ak} (hq : ps[k]? = some q) (bh : Bool) (K : Hp)
include hP hq
end
/- the law FrameLoads -/
theorem KM : aa Tryz.prog 6 = true := by kernel_rfl
theorem C6 : aa Tryz.prog 7 = true := by kernel_rfl
theorem Gb : aa Tryz.prog 8 = true := by kernel_rfl
theorem C0 : aa Tryz.prog 9 = true := by kernel_rfl
theorem CY : fo Tryz.prog 51 3 = some 3 := by kernel_rfl
theorem Ae : Tryz.prog.underlying 4 = some TypeDesc.bool := Tryz.underlying4
theorem xy {s : aN} {m0 : aT} (h : s.msgs.head? = some m0) : (s.msgs.map aT.av)[((0 : Int)).toNat]? = some (.agg m0.cells) := by
 cases hm : s.msgs with
 | nil => rw [hm] at h; cases h
 | cons a l => rw [hm] at h; cases h; rfl
theorem uA (t : Tree) (hb : t.dW) : Pure Tryz.prog 14 [.agg t.cells, .agg t.cells] (.bool true) := by
 have h := HE t t hb
 rw [Ct] at h; exact h
theorem sX (ps : List ak) (hP : gg ps) (bh : Bool) (s : aN) (hs : s.jd) (St : Nat → aT → Prop) (S : eW ps bh s St) (m0 : aT) (h0 : s.msgs.head? = some m0) (hr : St 0 m0) (t : Tree) (hl : t.di Tree.lH) (hb : t.dW) : Pure Tryz.prog 9 [cH ps, s.av, .bool bh, .agg t.cells] (.bool true) := by
 refine fun H => ?_
 have e0 : cH ps = .agg [.sl (ps.map ak.av)] := rfl
 have hpl : 0 < ps.length := by obtain ⟨q, hq, _⟩ := S.at_ 0 m0 hr; exact (List.getElem?_eq_some_iff.1 hq).1
 have hsp := rW S hs hP _ t (Nat.lt_succ_self _) (la hl) 0 m0 hr H
 have LK1 : ∀ p, loadT ps bh t H = .ok p → t.ok s m0.name = true ∧ DY ps bh (SizeOf.sizeOf t + 1) 0 t H p.1 p.2 := fun p e => by
  cases ho : t.ok s m0.name with
  | false => have := hsp.2 ho; rw [show loadT ps bh t H = _ from this] at e; cases e
  | true => obtain ⟨f, H', q1, q2⟩ := hsp.1 ho; rw [show loadT ps bh t H = _ from q1] at e; cases e; exact ⟨rfl, q2⟩
 have LK2 : ∀ u, loadT ps bh t H = .error u → t.ok s m0.name = false := fun u e => by
  cases ho : t.ok s m0.name with
  | false => rfl
  | true => obtain ⟨f, H', q1, q2⟩ := hsp.1 ho; rw [show loadT ps bh t H = _ from q1] at e; cases e
 have SZ0 : ∀ p, loadT ps bh t H = .ok p → cc Tryz.prog 13 [p.1.ptr] p.2 (oz (some p.1)) p.2 := fun p e => Hh _ (some p.1) fun g hg => by cases hg; exact (LK1 p e).2.lies.at
 have TR0 : ∀ p, loadT ps bh t H = .ok p → cc Tryz.prog 15 [cH ps, .bool bh, p.1.ptr] p.2 (.agg t.cells) p.2 := fun p e => by
  have h := uO ps bh _ p.1 (LK1 p e).2.good p.2 (LK1 p e).2.lies.at
  rw [(LK1 p e).2.tree, Tree.au] at h; exact h
 have EQ1 : ∀ p, loadT ps bh t H = .ok p → (dI (p.1.ms : Int) == dI (t.ms : Int)) = true := fun p e => by rw [(LK1 p e).2.ms]; exact beq_self_eq_true _
 have EQ2 : ∀ p, loadT ps bh t H = .ok p → (dI (p.1.vs : Int) == dI (t.vs : Int)) = true := fun p e => by rw [(LK1 p e).2.vn]; exact beq_self_eq_true _
 have DN : ∀ p, loadT ps bh t H = .ok p → (!(p.1.done == bh)) = true := fun p e => by rw [(LK1 p e).2.done]; cases bh <;> rfl
 refine cc.je Tryz.func9 rfl rfl (aF rfl) (.bool _) (aC.seq (aC.region (aB.run II 4 rfl (aB.nil (aC.seq (aC.drawn mixed rfl (aD.run II 3 rfl (aD.c1 rfl (aG (aF rfl) Cj rfl (HT t hl)) ?_))))))))
 cases hp1 : loadT ps bh t H with
 | ok x1 => 
  refine aD.c2 rfl (cO (aF rfl) wm rfl rfl (iz.D1 (wE ps hP hpl bh t (la hl) hb H) hp1)) (aD.run II 5 rfl (aD.nil (by kernel_rfl) (Kept.now (aC.seq (aC.seq (aC.drawn mixed rfl (aD.run II 4 rfl (aD.c1 rfl (aH (aF rfl) bM rfl rfl (by decide) (xy h0) rfl) (aD.run II 3 rfl (aD.c1 rfl (aG (aF rfl) wk rfl (vw s (rU hs) t hb m0.name)) (aD.run II 2 rfl ?_)))))))))))
  iterate 2 (refine aD.g1 rfl (aF rfl) rfl (by rw [(LK1 _ hp1).1]; rfl) (eQ (aF rfl) rfl) ?_)
  refine aD.g1 rfl (aF rfl) rfl (by rw [(LK1 _ hp1).1]; rfl) (sb (aF rfl) nB rfl rfl) ?_
  refine aD.g1 rfl (aF rfl) rfl (by rw [(LK1 _ hp1).1]; rfl) (sc (aF rfl) Ae rfl rfl) ?_
  refine aD.c1 rfl (cg (aF rfl) rfl (by rw [(LK1 _ hp1).1]; rfl) rfl) ?_
  refine aD.nil (by kernel_rfl) (Kept.now (aC.aZ rfl rfl (aC.skip (aC.seq (aC.seq (aC.region (aB.run II 2 rfl (aB.nil (aC.aZ rfl (congrArg not rfl) (aC.skip (aC.seq (aC.region (aB.run II 1 rfl (aB.c1 rfl (dJ (aF rfl) Cm rfl rfl (SZ0 _ hp1)) (aB.run II 5 rfl (aB.nil (aC.seq (aC.region (aB.run II 1 rfl ?_)))))))))))))))))))
  refine aB.c1 rfl (aG (aF rfl) Ch rfl (BF t hb)) (aB.run II 5 rfl (aB.nil (aC.seq (aC.drawn mixed rfl (aD.run II 4 rfl ?_)))))
  iterate 2 (refine aD.g1 rfl (aF rfl) rfl (EQ1 _ hp1) (eQ (aF rfl) rfl) ?_)
  refine aD.g1 rfl (aF rfl) rfl (EQ1 _ hp1) (db (aF rfl) rfl rfl rfl) (aD.c1 rfl (cf (aF rfl) rfl (EQ1 _ hp1) rfl) (aD.run II 1 rfl (aD.g1 rfl (aF rfl) rfl (EQ2 _ hp1) (eQ (aF rfl) rfl) (aD.g1 rfl (aF rfl) rfl (EQ2 _ hp1) (oP (aF rfl) rfl) (aD.g1 rfl (aF rfl) rfl (EQ2 _ hp1) (sf (aF rfl) CY rfl) (aD.g1 rfl (aF rfl) rfl (EQ2 _ hp1) (bR (aF rfl) yC rfl rfl (LK1 _ hp1).2.lies.at.o1 rfl) (aD.g1 rfl (aF rfl) rfl (EQ2 _ hp1) (eQ (aF rfl) rfl) (aD.g1 rfl (aF rfl) rfl (EQ2 _ hp1) (sc (aF rfl) Ae rfl rfl) (aD.c1 rfl (cf (aF rfl) rfl (EQ2 _ hp1) rfl) (aD.run II 1 rfl (aD.g1 rfl (aF rfl) rfl (DN _ hp1) (lY (aF rfl) kQ rfl rfl rfl) ?_)))))))))))
  iterate 2 (refine aD.g1 rfl (aF rfl) rfl (DN _ hp1) (eQ (aF rfl) rfl) ?_)
  exact aD.g1 rfl (aF rfl) rfl (DN _ hp1) (dJ (aF rfl) Ck rfl rfl (TR0 _ hp1)) (aD.g1 rfl (aF rfl) rfl (DN _ hp1) (lY (aF rfl) kR rfl rfl rfl) (aD.g1 rfl (aF rfl) rfl (DN _ hp1) (aG (aF rfl) Cl rfl (uA t hb)) (aD.c1 rfl (cf (aF rfl) rfl (DN _ hp1) rfl) (aD.run II 1 rfl (aD.nil (by kernel_rfl) (Kept.now (aC.ret (⟨.inr rfl, (aE.r1 rfl (.tmp rfl .nil)).cast rfl, ⟨_, rfl, (LK1 _ hp1).2.more⟩⟩))))))))
 | error e1 => 
  refine aD.c1 rfl (dJ (aF rfl) wm rfl rfl (iz.tS (wE ps hP hpl bh t (la hl) hb H) hp1)) (aD.run II 5 rfl (aD.nil (by kernel_rfl) (Kept.now (aC.seq (aC.seq (aC.drawn mixed rfl (aD.run II 4 rfl (aD.c1 rfl (aH (aF rfl) bM rfl rfl (by decide) (xy h0) rfl) (aD.run II 3 rfl (aD.c1 rfl (aG (aF rfl) wk rfl (vw s (rU hs) t hb m0.name)) (aD.run II 2 rfl ?_)))))))))))
  iterate 2 (refine aD.g1 rfl (aF rfl) rfl (by rw [LK2 _ hp1]; rfl) (eQ (aF rfl) rfl) ?_)
  refine aD.g1 rfl (aF rfl) rfl (by rw [LK2 _ hp1]; rfl) (sb (aF rfl) nB rfl rfl) ?_
  refine aD.g1 rfl (aF rfl) rfl (by rw [LK2 _ hp1]; rfl) (sc (aF rfl) Ae rfl rfl) ?_
  refine aD.c1 rfl (cg (aF rfl) rfl (by rw [LK2 _ hp1]; rfl) rfl) ?_
  exact aD.nil (by kernel_rfl) (Kept.now (aC.aZ rfl rfl (aC.skip (aC.seq (aC.seq (aC.region (aB.run II 2 rfl (aB.nil (aC.az rfl (congrArg not rfl) (aC.seq (aC.region (aB.run II 1 rfl (aB.nil (aC.ret (⟨.inr rfl, (aE.r1 rfl (.tmp rfl .nil)).cast rfl, ⟨_, rfl, Hp.more.refl _⟩⟩)))))))))))))))
theorem zY (s : aN) (l : List aS) (t u : Tree) (hc : lr s l) (ht : t.dW) (hu : u.dW) : Pure Tryz.prog 6 [iw s l, .sl [.agg t.cells, .agg u.cells]] (.bool (fh s l [t, u])) := by
 have h := BO s l [t, u] hc (fun x hx => by rcases List.mem_cons.1 hx with rfl | hx; exact ht; cases List.mem_singleton.1 hx; exact hu) (by simp)
 simp only [List.map_cons, List.map_nil, Tree.au] at h
 exact h
structure JR (s : aN) (l : List aS) (L : List aN) (m0 m1 : aT) : Prop where
 parts : gg (lower s l)
 fP : s.jd
 Bl : (L.getD l.length mO).jd
 inS : eW (lower s l) false s fun k m => s.msgs[k]? = some m
 outS : ∃ St, eW (lower s l) true (L.getD l.length mO) St ∧ St 0 m1
 hd0 : s.msgs.head? = some m0
 hd1 : (L.getD l.length mO).msgs.head? = some m1
theorem DK {s : aN} {l : List aS} {L : List aN} (h : s.all l = .ok L) : s.jd := by
 unfold aN.all at h
 split at h
 ·cases h
 rename_i h1
 exact aN.ga (by simpa using h1)
theorem GA {s : aN} {l : List aS} {L : List aN} (h : s.all l = .ok L) (hl : l.length ≤ 40) : ∃ m0 m1, JR s l L m0 m1 := by
 have hs := DK h
 obtain ⟨h1, t, h2, I⟩ := GH h
 obtain ⟨B, C⟩ := yg h
 have ht : L.getD l.length mO = t := by rw [List.getD_eq_getElem?_getD, h2]; rfl
 have head : ∀ {r : aN}, r.jd → ∃ m, r.msgs.head? = some m := fun {r} hr => by
  cases e : r.msgs with
  | nil => have := hr.ne; rw [e] at this; simp at this
  | cons a l => exact ⟨a, rfl⟩
 obtain ⟨m0, e0⟩ := head hs
 obtain ⟨m1, e1⟩ := head I.ok
 refine ⟨m0, m1, na.parts B hl, hs, by rw [ht]; exact I.ok, C.vd hs, ⟨_, by rw [ht]; exact I.vd, ?_⟩, e0, by rw [ht]; exact e1⟩
 refine ⟨List.mem_of_mem_head? e1, ?_⟩
 have := I.root
 rw [e1, List.head?_eq_getElem?] at this
 exact this
theorem sZ (s : aN) (l : List aS) (hc : lr s l) (t u : Tree) (ht : t.fits) (hu : u.fits) (H : Hp) : DW Tryz.prog 3 [iw s l, .agg t.cells, .agg u.cells] H (.bool true) := by
 have e0 : iw s l = .agg [.sl (s.enums.map dk.av), .sl (s.msgs.map aT.av), .sl (l.map aS.av)] := rfl
 refine DW.aL Tryz.func3 rfl rfl (aF rfl) (aC.seq (aC.region (aB.run II 4 rfl (aB.nil (aC.seq (aC.seq (aC.region (aB.run II 4 rfl (aB.c1 rfl (aG (aF rfl) KM rfl (zY s l t u hc ht.dW hu.dW)) (aB.run II 1 rfl (aB.nil (aC.cond rfl (fun hc1 => ?_) (fun hc1 => ?_)))))))))))))
 ·exact aC.seq (aC.region (aB.c1 rfl (aG (aF rfl) C6 rfl pT) (aB.run II 1 rfl (aB.nil (aC.ret ⟨.inr rfl, (aE.r1 rfl (.tmp rfl .nil)).cast rfl⟩)))))
 ·refine aC.skip (aC.seq (aC.region (aB.run II 1 rfl ?_)))
  have hsm : gv l = true ∧ t.small = true ∧ u.small = true := by simp [fh] at hc1; exact ⟨hc1.2.2, hc1.1⟩
  obtain ⟨hsm, hts, hus⟩ := hsm
  have hlt := ni hts ht
  have hlu := ni hus hu
  cases hp1 : s.all l with
  | ok x1 => 
   obtain ⟨m0, m1, C⟩ := GA hp1 (mJ hsm).1
   obtain ⟨St, S1, R1⟩ := C.outS
   refine aB.c1 rfl (aG (aF rfl) Gb rfl (EL hc.s.dW (hc.steps hsm) (by have := (mJ hsm).1; omega) hp1)) ?_
   refine aB.run II 9 rfl (aB.nil (aC.seq (aC.seq (aC.region (aB.run II 2 rfl (aB.nil (aC.aZ rfl (congrArg not rfl) (aC.skip (aC.seq (aC.region (aB.run II 4 rfl (aB.c1 rfl (aG (aF rfl) C0 rfl (sX _ C.parts false s C.fP _ C.inS m0 C.hd0 (by rw [← List.head?_eq_getElem?]; exact C.hd0) t hlt ht.dW)) ?_))))))))))))
   refine aB.run II 4 rfl (aB.g1 rfl (aF rfl) rfl rfl (aG (aF rfl) C0 rfl (sX _ C.parts true _ C.Bl St S1 m1 C.hd1 R1 u hlu hu.dW)) (aB.run II 6 rfl (aB.g1 rfl (aF rfl) rfl rfl (aG (aF rfl) C0 rfl (sX _ C.parts false s C.fP _ C.inS m0 C.hd0 (by rw [← List.head?_eq_getElem?]; exact C.hd0) u hlu hu.dW)) ?_)))
   exact aB.run II 2 rfl (aB.g1 rfl (aF rfl) rfl rfl (aG (aF rfl) C6 rfl pT) (aB.run II 2 rfl (aB.nil (aC.ret ⟨.inr rfl, (aE.r1 rfl (.tmp rfl .nil)).cast rfl⟩))))
  | error e1 => 
   refine aB.c1 rfl (aG (aF rfl) Gb rfl (EM hc.s.dW (hc.steps hsm) (by have := (mJ hsm).1; omega) hp1)) ?_
   exact aB.run II 9 rfl (aB.nil (aC.seq (aC.seq (aC.region (aB.run II 2 rfl (aB.nil (aC.az rfl (congrArg not rfl) (aC.seq (aC.region (aB.c1 rfl (aG (aF rfl) C6 rfl pT) (aB.run II 1 rfl (aB.nil (aC.ret ⟨.inr rfl, (aE.r1 rfl (.tmp rfl .nil)).cast rfl⟩)))))))))))))
/- Whatever comes in of a plain type is one: the pieces, and values. No condition. -/
section
variable {P : Program} {n : Nat} {t e : TypeId} {acs : List AV}
theorem fV {k : IntKind} (hu : P.underlying t = some (.int k)) (h : Ty P n t acs) : ∃ m, acs = [.int k m] ∧ (Lit.int k m).wf = true := by
 cases n with
 | zero => exact h.elim
 | succ n => unfold Ty at h; rw [hu] at h; exact h
theorem xS (hu : P.underlying t = some .bool) (h : Ty P n t acs) : ∃ b, acs = [.bool b] := by
 cases n with
 | zero => exact h.elim
 | succ n => unfold Ty at h; rw [hu] at h; exact h
theorem fU (hu : P.underlying t = some .string) (h : Ty P n t acs) : ∃ s : aw, acs = [.str s] ∧ s.length ≤ 140737488355328 := by
 cases n with
 | zero => exact h.elim
 | succ n => unfold Ty at h; rw [hu] at h; obtain ⟨s, h1, h2⟩ := h; exact ⟨s, h1, by unfold reachBytes at h2; omega⟩
theorem dt (hu : P.underlying t = some (.slice e)) (hb : 1 ≤ P.bytesOf e) (h : Ty P n t acs) : ∃ (k : Nat) (css : List (List AV)), k < n ∧ acs = [.sl (css.map (pack P e))] ∧ css.length ≤ 140737488355328 ∧ ∀ c ∈ css, Ty P k e c := by
 cases n with
 | zero => exact h.elim
 | succ n =>
  unfold Ty at h; rw [hu] at h
  obtain ⟨css, h1, h2, h3⟩ := h
  refine ⟨n, css, by omega, h1, ?_, h3⟩
  have : css.length * 1 ≤ css.length * P.bytesOf e := Nat.mul_le_mul_left _ hb
  unfold reachBytes at h2
  omega
theorem dS {fs : Array Field} (hu : P.underlying t = some (.struct fs)) (h : Ty P n t acs) : ∃ k, k < n ∧ GJ P (Ty P k) (fs.toList.map (·.type)) acs := by
 cases n with
 | zero => exact h.elim
 | succ n => unfold Ty at h; rw [hu] at h; exact ⟨n, by omega, h⟩
theorem an {R : TypeId → List AV → Prop} {t : TypeId} {ts : List TypeId} (h : GJ P R (t :: ts) acs) : ∃ a b, acs = a ++ b ∧ R t a ∧ GJ P R ts b := by
 obtain ⟨a, b, h1, _, h3, h4⟩ := h; exact ⟨a, b, h1, h3, h4⟩
theorem fC {R : TypeId → List AV → Prop} (h : GJ P R [] acs) : acs = [] := h
theorem cN {fs : Array Field} (hu : P.underlying t = some (.struct fs)) (cs : List AV) : pack P t cs = .agg cs := by unfold pack; rw [hu]
theorem eZ {α : Type} {f : α → List AV} {Q : α → Prop} : ∀ {css : List (List AV)}, (∀ c ∈ css, ∃ x : α, c = f x ∧ Q x) → ∃ xs : List α, css = xs.map f ∧ ∀ x ∈ xs, Q x
 | [], _ => ⟨[], rfl, by simp⟩
 | c :: css, h => by
  obtain ⟨x, h1, h2⟩ := h c (by simp)
  obtain ⟨xs, h3, h4⟩ := eZ (css := css) fun c hc => h c (by simp [hc])
  exact ⟨x :: xs, by simp [h1, h3], by intro y hy; rcases List.mem_cons.1 hy with rfl | hy; exact h2; exact h4 y hy⟩
end
theorem dy {α : Type} {P : Program} {t : TypeId} {f : α → List AV} {g : α → AV} (h : ∀ x, pack P t (f x) = g x) (xs : List α) : (xs.map f).map (pack P t) = xs.map g := by
 rw [List.map_map]; congr 1; funext x; exact h x
theorem GO {m : Int} (h : (Lit.int .u64 m).wf = true) : ∃ k : Nat, m = (k : Int) ∧ k < 18446744073709551616 := by
 have : 0 ≤ m ∧ m ≤ 18446744073709551615 := by simpa [Lit.wf, IntKind.min, IntKind.max, IntKind.signed, IntKind.bits] using h
 exact ⟨m.toNat, by omega, by omega⟩
abbrev TY := Ty Tryz.prog
theorem H9 (m : Int) : pack Tryz.prog 3 [.int .i64 m] = jj m := by unfold pack; rw [Tryz.underlying3]; rfl
theorem Gp {n : Nat} {acs : List AV} (h : TY n 102 acs) : ∃ f : Rw, acs = f.cells ∧ f.s.length ≤ 140737488355328 ∧ f.n < 18446744073709551616 := by
 obtain ⟨k, _, h⟩ := dS Tryz.underlying102 h
 obtain ⟨a1, b1, rfl, h1, wa1⟩ := an h; obtain ⟨s1, rfl, _⟩ := fV Tryz.underlying3 h1
 obtain ⟨a2, b2, rfl, h1, wa2⟩ := an wa1; obtain ⟨s2, rfl, _⟩ := fV Tryz.underlying3 h1
 obtain ⟨a3, b3, rfl, h1, wa3⟩ := an wa2; obtain ⟨s3, rfl, w3⟩ := fV Tryz.underlying80 h1
 obtain ⟨a4, b4, rfl, h1, wa4⟩ := an wa3; obtain ⟨s4, rfl, w4⟩ := fU Tryz.underlying9 h1
 obtain rfl := fC wa4
 obtain ⟨k3, rfl, hk⟩ := GO w3
 exact ⟨⟨s1, s2, k3, s4⟩, rfl, w4, hk⟩
theorem H7 (f : Rw) : pack Tryz.prog 102 f.cells = f.av := cN Tryz.underlying102 _
theorem HZ (f : bD) : pack Tryz.prog 82 f.cells = f.av := by rw [cN Tryz.underlying82, bD.au]
theorem E6 (f : Slot) : pack Tryz.prog 85 f.cells = f.av := by rw [cN Tryz.underlying85, Slot.au]
theorem E5 (f : Tree) : pack Tryz.prog 32 f.cells = f.av := by rw [cN Tryz.underlying32, Tree.au]
def bD.fits (v : bD) : Prop := v.n < 18446744073709551616 ∧ v.s.length ≤ 140737488355328 ∧ v.m.length ≤ 140737488355328 ∧ ∀ u ∈ v.m, u.fits
def Slot.fits (x : Slot) : Prop := x.ah.length ≤ 140737488355328 ∧ ∀ v ∈ x.ah, v.fits
theorem Ag {n : Nat} {acs : List AV} (ih : ∀ k < n, ∀ acs, TY k 32 acs → ∃ t : Tree, acs = t.cells ∧ t.fits) (h : TY n 82 acs) : ∃ v : bD, acs = v.cells ∧ v.fits := by
 obtain ⟨k, hk, h⟩ := dS Tryz.underlying82 h
 obtain ⟨a1, b1, rfl, h1, wa1⟩ := an h; obtain ⟨s1, rfl, w1⟩ := fV Tryz.underlying80 h1
 obtain ⟨a2, b2, rfl, h1, wa2⟩ := an wa1; obtain ⟨s2, rfl, w2⟩ := fU Tryz.underlying9 h1
 obtain ⟨a3, b3, rfl, h1, wa3⟩ := an wa2; obtain ⟨k3, l3, hk3, rfl, e3, h3⟩ := dt Tryz.underlying67 (by decide +kernel) h1
 obtain rfl := fC wa3
 obtain ⟨k1, rfl, hk1⟩ := GO w1
 obtain ⟨xs, rfl, hx⟩ := eZ (f := Tree.cells) (Q := Tree.fits) fun c hc => ih k3 (by omega) c (h3 c hc)
 rw [dy E5]
 exact ⟨.mk k1 s2 xs, rfl, hk1, w2, by rw [List.length_map] at e3; exact e3, hx⟩
theorem Dj {n : Nat} {acs : List AV} (ih : ∀ k < n, ∀ acs, TY k 32 acs → ∃ t : Tree, acs = t.cells ∧ t.fits) (h : TY n 85 acs) : ∃ v : Slot, acs = v.cells ∧ v.fits := by
 obtain ⟨k, hk, h⟩ := dS Tryz.underlying85 h
 obtain ⟨a1, b1, rfl, h1, wa1⟩ := an h; obtain ⟨s1, rfl, w1⟩ := fV Tryz.underlying3 h1
 obtain ⟨a3, b3, rfl, h1, wa3⟩ := an wa1; obtain ⟨k3, l3, hk3, rfl, e3, h3⟩ := dt Tryz.underlying83 (by decide +kernel) h1
 obtain rfl := fC wa3
 obtain ⟨xs, rfl, hx⟩ := eZ (f := bD.cells) (Q := bD.fits) fun c hc => Ag (n := k3) (fun j hj => ih j (by omega)) (h3 c hc)
 rw [dy HZ]
 exact ⟨.mk s1 xs, rfl, by rw [List.length_map] at e3; exact e3, hx⟩
theorem xR : ∀ (n : Nat) (acs : List AV), TY n 32 acs → ∃ t : Tree, acs = t.cells ∧ t.fits := by
 intro n
 induction n using Nat.strongRecOn with
 | _ n ih =>
  intro acs h
  obtain ⟨k, hk, h⟩ := dS Tryz.underlying32 h
  obtain ⟨a1, b1, rfl, h1, wa1⟩ := an h; obtain ⟨k1, l1, hk1, rfl, e1, h1⟩ := dt Tryz.underlying29 (by decide +kernel) h1
  obtain ⟨a2, b2, rfl, h2, wa2⟩ := an wa1; obtain ⟨k2, l2, hk2, rfl, e2, h2⟩ := dt Tryz.underlying30 (by decide +kernel) h2
  obtain rfl := fC wa2
  obtain ⟨xs, rfl, hx⟩ := eZ (f := Slot.cells) (Q := Slot.fits) fun c hc => Dj (n := k1) (fun j hj => ih j (by omega)) (h1 c hc)
  obtain ⟨ys, rfl, hy⟩ := eZ (f := Rw.cells) (Q := fun r => r.s.length ≤ 140737488355328 ∧ r.n < 18446744073709551616) fun c hc => Gp (h2 c hc)
  rw [dy E6, dy H7]
  refine ⟨.mk xs ys, rfl, Tree.di.mk ⟨by rw [List.length_map] at e1; exact e1, by rw [List.length_map] at e2; exact e2, fun x h => (hx x h).1, fun x h v hv => ((hx x h).2 v hv).2.2.1, fun x h v hv => ((hx x h).2 v hv).2.1, fun x h v hv => ((hx x h).2 v hv).1, fun r h => (hy r h).1, fun r h => (hy r h).2⟩ fun x h v hv => ((hx x h).2 v hv).2.2.2⟩
/- Whatever comes in as a schema is one. No condition. -/
theorem Gr {n : Nat} {acs : List AV} (h : TY n 72 acs) : ∃ f : ag, acs = f.cells := by
 obtain ⟨k, _, h⟩ := dS Tryz.underlying72 h
 obtain ⟨a1, b1, rfl, h1, wa1⟩ := an h; obtain ⟨s1, rfl, _⟩ := fU Tryz.underlying9 h1
 obtain ⟨a2, b2, rfl, h1, wa2⟩ := an wa1; obtain ⟨s2, rfl, _⟩ := fV Tryz.underlying3 h1
 obtain ⟨a3, b3, rfl, h1, wa3⟩ := an wa2; obtain ⟨s3, rfl, _⟩ := fV Tryz.underlying3 h1
 obtain ⟨a4, b4, rfl, h1, wa4⟩ := an wa3; obtain ⟨s4, rfl, _⟩ := fU Tryz.underlying9 h1
 obtain ⟨a5, b5, rfl, h1, wa5⟩ := an wa4; obtain ⟨s5, rfl⟩ := xS Tryz.underlying4 h1
 obtain ⟨a6, b6, rfl, h1, wa6⟩ := an wa5; obtain ⟨s6, rfl⟩ := xS Tryz.underlying4 h1
 obtain ⟨a7, b7, rfl, h1, wa7⟩ := an wa6; obtain ⟨s7, rfl, _⟩ := fU Tryz.underlying9 h1
 obtain rfl := fC wa7
 exact ⟨⟨s1, s2, s3, s4, s5, s6, s7⟩, rfl⟩
theorem Hd (f : ag) : pack Tryz.prog 72 f.cells = f.av := cN Tryz.underlying72 _
theorem Gq {n : Nat} {acs : List AV} (h : TY n 75 acs) : ∃ m : aT, acs = m.cells ∧ m.fields.length ≤ 140737488355328 := by
 obtain ⟨k, _, h⟩ := dS Tryz.underlying75 h
 obtain ⟨a1, b1, rfl, h1, wa1⟩ := an h; obtain ⟨s1, rfl, _⟩ := fU Tryz.underlying9 h1
 obtain ⟨a2, b2, rfl, h1, wa2⟩ := an wa1; obtain ⟨k2, l2, _, rfl, e2, h2⟩ := dt Tryz.underlying73 (by decide +kernel) h1
 obtain ⟨a3, b3, rfl, h1, wa3⟩ := an wa2; obtain ⟨k3, l3, _, rfl, e3, h3⟩ := dt Tryz.underlying46 (by decide +kernel) h1
 obtain rfl := fC wa3
 obtain ⟨xs, rfl, _⟩ := eZ (f := ag.cells) (Q := fun _ => True) fun c hc => (by obtain ⟨f, hf⟩ := Gr (h2 c hc); exact ⟨f, hf, trivial⟩)
 obtain ⟨ys, rfl, _⟩ := eZ (f := fun m : Int => [AV.int .i64 m]) (Q := fun _ => True) fun c hc => (by obtain ⟨m, hm, _⟩ := fV Tryz.underlying3 (h3 c hc); exact ⟨m, hm, trivial⟩)
 rw [dy Hd, dy H9]
 exact ⟨⟨s1, xs, ys⟩, rfl, by simpa using e2⟩
theorem H8 (f : aT) : pack Tryz.prog 75 f.cells = f.av := cN Tryz.underlying75 _
theorem Gl {n : Nat} {acs : List AV} (h : TY n 117 acs) : ∃ f : jX, acs = f.cells := by
 obtain ⟨k, _, h⟩ := dS Tryz.underlying117 h
 obtain ⟨a1, b1, rfl, h1, wa1⟩ := an h; obtain ⟨s1, rfl, _⟩ := fU Tryz.underlying9 h1
 obtain ⟨a2, b2, rfl, h1, wa2⟩ := an wa1; obtain ⟨s2, rfl, _⟩ := fV Tryz.underlying3 h1
 obtain rfl := fC wa2
 exact ⟨⟨s1, s2⟩, rfl⟩
theorem HY (f : jX) : pack Tryz.prog 117 f.cells = f.av := cN Tryz.underlying117 _
theorem Gs {n : Nat} {acs : List AV} (h : TY n 115 acs) : ∃ m : dk, acs = m.cells ∧ m.values.length ≤ 140737488355328 := by
 obtain ⟨k, _, h⟩ := dS Tryz.underlying115 h
 obtain ⟨a1, b1, rfl, h1, wa1⟩ := an h; obtain ⟨s1, rfl, _⟩ := fU Tryz.underlying9 h1
 obtain ⟨a2, b2, rfl, h1, wa2⟩ := an wa1; obtain ⟨k2, l2, _, rfl, e2, h2⟩ := dt Tryz.underlying113 (by decide +kernel) h1
 obtain rfl := fC wa2
 obtain ⟨xs, rfl, _⟩ := eZ (f := jX.cells) (Q := fun _ => True) fun c hc => (by obtain ⟨f, hf⟩ := Gl (h2 c hc); exact ⟨f, hf, trivial⟩)
 rw [dy HY]
 exact ⟨⟨s1, xs⟩, rfl, by simpa using e2⟩
theorem He (f : dk) : pack Tryz.prog 115 f.cells = f.av := cN Tryz.underlying115 _
theorem Gn {n : Nat} {acs : List AV} (h : TY n 25 acs) : ∃ s : aN, acs = s.cells ∧ s.lens := by
 obtain ⟨k, _, h⟩ := dS Tryz.underlying25 h
 obtain ⟨a1, b1, rfl, h1, wa1⟩ := an h; obtain ⟨k1, l1, _, rfl, e1, h1⟩ := dt Tryz.underlying22 (by decide +kernel) h1
 obtain ⟨a2, b2, rfl, h2, wa2⟩ := an wa1; obtain ⟨k2, l2, _, rfl, e2, h2⟩ := dt Tryz.underlying23 (by decide +kernel) h2
 obtain rfl := fC wa2
 obtain ⟨xs, rfl, hx⟩ := eZ (f := dk.cells) (Q := fun m => m.values.length ≤ 140737488355328) fun c hc => Gs (h1 c hc)
 obtain ⟨ys, rfl, hy⟩ := eZ (f := aT.cells) (Q := fun m => m.fields.length ≤ 140737488355328) fun c hc => Gq (h2 c hc)
 rw [dy He, dy H8]
 exact ⟨⟨xs, ys⟩, rfl, ⟨by simpa using e1, by simpa using e2, hx, hy⟩⟩
/- The last text's frame: what a row lists of the package variables; arguments of plain types. No condition. -/
theorem KN : aa Tryz.prog 2 = true := by kernel_rfl
theorem qk {H : Type} {enc : TypeId × Value → H} {a : Assume} {C : Checked} {os : Os} {f : FuncId} {fn : Func} {s : ChangeSpec} {conds : List PathCond} {apart fresh handsOn again : Bool} {X : World → Array Value → Prop}
  (hX : ∀ (w w' : World) (args : Array Value), w.heap = w'.heap → X w args → X w' args) (own : ownKnob C.prog.godebug = none) (started : os.Started) (noInit : C.prog.inits.idxOf? f = none) (hfn : C.prog.funcs[f]? = some fn)
  (witness : ∃ (w : World) (tape : Tape) (i : Input), w.os = os ∧ (w.forCall tape i).Shaped C.prog ∧ i.vars = [] ∧ Input.okWide C.prog (w.forCall tape i) .any w.heap.size f i ∧
   ((s.pre enc C.prog fn conds apart (w.forCall tape i).memory i.args ∧ X (w.forCall tape i).memory i.args) ∧ sizedMet enc C.prog fn (OpenSpec.ofChange s) apart (w.forCall tape i).memory i.args) ∧ a.holds C.prog (lone (Frame.enter C.prog f i.args .normal) [] (w.forCall tape i)))
  (contract : ∀ (W : World) (base : Nat) (args : Array Value) (ds gs : List (DataW H)) (before : List MemPlace), (∀ (j : Nat) t v, fn.params[j]? = some t → args[j]? = some v → Value.okWide C.prog W .any base t v) →
   DataW.Whole enc C.prog fn.params.toList s.vars apart W args.toList ds gs before → (DataW.weightsEach C.prog (fn.params.toList ++ s.plain.varTypes C.prog) (ds ++ gs)).all (· ≤ reachBytes) = true → X W args → W.ShapedOpen C.prog →
   Calls C.prog f args W fun e W' => ∃ v, e = .returned v ∧ s.post enc C.prog fn apart fresh handsOn again W args v W') :
  ReturnsInHanded a C os f .any (fun w args => (s.pre enc C.prog fn conds apart w args ∧ X w args) ∧ sizedMet enc C.prog fn (OpenSpec.ofChange s) apart w args) (s.post enc C.prog fn apart fresh handsOn again) := by
 refine returnsInHanded_of_calls own started noInit witness fun w tape i _ hsh _ hok hpre _ => ?_
 obtain ⟨_, _, _, KN, hfn2, _, _, _, _, hval⟩ := hok
 cases Option.some.inj (hfn2.symm.trans hfn)
 obtain ⟨⟨⟨ds, gs, before, hw, _⟩, hx⟩, hz⟩ := hpre
 refine (contract (w.forCall tape i) w.heap.size i.args ds gs before hval (DataW.Whole.of_heap (w' := w.forCall tape i) (by rfl) hw) (hz.weights hw) (hX _ _ _ (by rfl) hx) hsh).mono ?_
 rintro e W' ⟨v, rfl, hp⟩
 exact ChangeSpec.post_blind hp
abbrev qE : List (String × DataW Unit) := [("unicode/utf8.acceptRanges", Rows.laid_unicode_utf8_acceptRanges), ("unicode/utf8.first", Rows.laid_unicode_utf8_first)]
theorem GI : (Rows.laid_unicode_utf8_acceptRanges : DataW Unit) = Lib.acceptData := by rfl
theorem JF : (Rows.laid_unicode_utf8_first : DataW Unit) = Lib.firstData := by rfl
theorem IX {W : World} (h : laidMetH Tryz.prog qE W) : Ga W ∧ gN ≤ W.heap.size := by
 rw [MakeChecks.laidMetH_plain _ _ _ (by kernel_rfl)] at h
 have h1 : Lib.VarReads Tryz.prog W "unicode/utf8.first" Lib.firstData := JF ▸ Lib.laidMet.reads h (by simp [qE])
 have h2 : Lib.VarReads Tryz.prog W "unicode/utf8.acceptRanges" Lib.acceptData := GI ▸ Lib.laidMet.reads h (by simp [qE])
 refine ⟨utf8Tabs_of_readsT (ρ := Tryz.qC) (U8Types.of196 Tryz.CF) ⟨by kernel_rfl, by kernel_rfl, by kernel_rfl, by kernel_rfl, by kernel_rfl, by kernel_rfl, by kernel_rfl⟩ h1 h2, ?_⟩
 obtain ⟨g, t, cs, fuel, p, hg, _, hv, _⟩ := h2
 obtain rfl : 1 = g := Option.some.inj ((show Tryz.prog.globalNamed "unicode/utf8.acceptRanges" = some 1 by kernel_rfl).symm.trans hg)
 simp only [World.var?, hg, Option.bind_some] at hv
 split at hv
 ·rename_i e
  have := (Array.getElem?_eq_some_iff.1 e).1
  exact this
 ·cases hv
theorem H4 (s : aw) : pack Tryz.prog 9 [.str s] = .str s := by unfold pack; rw [Tryz.underlying9]; rfl
theorem AK {x : aS} (h : x.dv.fits) : x.tree.fits := by
 obtain ⟨h1, h2, h3, h4⟩ := h
 refine Tree.di.mk ⟨?_, ?_, ?_, ?_, ?_, ?_, ?_, ?_⟩ ?_ <;> simp [aS.tree, Tree.aO, Tree.rest, Slot.ah]
 ·exact h3
 ·exact h2
 ·exact h1
 ·exact h4
theorem FN {x : aS} (hf : x.dv.fits) (hn : x.names.length ≤ 140737488355328) (q2 : x.msg.length ≤ 140737488355328) (q3 : x.field.length ≤ 140737488355328) (q4 : x.dest.length ≤ 140737488355328) (q5 : x.also.length ≤ 140737488355328) : x.lens := by
 have hb := (AK hf).dW
 obtain ⟨h1, h2, h3, h4⟩ := hf
 exact ⟨⟨Nat.le_trans h2 (by omega), fun t ht => (h4 t ht).dW, Nat.le_trans hn (by omega)⟩, hb, hn, q2, q3, q4, q5, h2, h1⟩
theorem Gm {n : Nat} {acs : List AV} (h : TY n 108 acs) : ∃ x : aS, acs = x.cells ∧ x.lens := by
 obtain ⟨k, _, h⟩ := dS Tryz.underlying108 h
 obtain ⟨a1, b1, rfl, h1, wa1⟩ := an h; obtain ⟨s1, rfl, _⟩ := fV Tryz.underlying3 h1
 obtain ⟨a2, b2, rfl, h1, wa2⟩ := an wa1; obtain ⟨s2, rfl, q2⟩ := fU Tryz.underlying9 h1
 obtain ⟨a3, b3, rfl, h1, wa3⟩ := an wa2; obtain ⟨s3, rfl, q3⟩ := fU Tryz.underlying9 h1
 obtain ⟨a4, b4, rfl, h1, wa4⟩ := an wa3; obtain ⟨s4, rfl, q4⟩ := fU Tryz.underlying9 h1
 obtain ⟨a5, b5, rfl, h1, wa5⟩ := an wa4; obtain ⟨s5, rfl, q5⟩ := fU Tryz.underlying9 h1
 obtain ⟨a6, b6, rfl, h1, wa6⟩ := an wa5; obtain ⟨s6, rfl, _⟩ := fV Tryz.underlying3 h1
 obtain ⟨a7, b7, rfl, h1, wa7⟩ := an wa6; obtain ⟨s7, rfl, _⟩ := fV Tryz.underlying3 h1
 obtain ⟨a8, b8, rfl, h1, wa8⟩ := an wa7; obtain ⟨s8, rfl, _⟩ := fV Tryz.underlying3 h1
 obtain ⟨a9, b9, rfl, h1, wa9⟩ := an wa8; obtain ⟨k9, l9, _, rfl, e9, h9⟩ := dt Tryz.underlying106 (by decide +kernel) h1
 obtain ⟨aA, bA, rfl, h1, waA⟩ := an wa9; obtain ⟨v, rfl, hv⟩ := Ag (fun j _ acs h => xR j acs h) h1
 obtain rfl := fC waA
 obtain ⟨xs, rfl, _⟩ := eZ (f := fun s : aw => [AV.str s]) (Q := fun _ => True) fun c hc => (by obtain ⟨f, hf, _⟩ := fU Tryz.underlying9 (h9 c hc); exact ⟨f, hf, trivial⟩)
 rw [dy H4]
 exact ⟨⟨s1, s2, s3, s4, s5, s6, s7, s8, xs, v⟩, rfl, FN hv (by simpa using e9) q2 q3 q4 q5⟩
theorem H5 (x : aS) : pack Tryz.prog 108 x.cells = x.av := cN Tryz.underlying108 _
theorem yr {n : Nat} {acs : List AV} (h : TY n 26 acs) : ∃ l : List aS, acs = [.sl (l.map aS.av)] ∧ l.length ≤ 140737488355328 ∧ ∀ x ∈ l, x.lens := by
 obtain ⟨k, css, _, rfl, e, h3⟩ := dt Tryz.underlying26 (by decide +kernel) h
 obtain ⟨xs, rfl, hx⟩ := eZ (f := aS.cells) (Q := aS.lens) fun c hc => Gm (h3 c hc)
 rw [dy H5]
 exact ⟨xs, rfl, by simpa using e, hx⟩
theorem Dk {n : Nat} {acs : List AV} (h : TY n 28 acs) : ∃ (s : aN) (l : List aS), acs = s.cells ++ [.sl (l.map aS.av)] ∧ lr s l := by
 obtain ⟨k, _, h⟩ := dS Tryz.underlying28 h
 obtain ⟨a1, b1, rfl, h1, wa1⟩ := an h; obtain ⟨s, rfl, hs⟩ := Gn h1
 obtain ⟨a2, b2, rfl, h1, wa2⟩ := an wa1; obtain ⟨l, rfl, hl, hx⟩ := yr h1
 obtain rfl := fC wa2
 exact ⟨s, l, by simp, hs, hl, hx⟩
def sV : List TypeId := [28, 26, 108, 106, 25, 22, 115, 113, 117, 23, 75, 73, 72, 46, 3, 9, 4, 80, 32, 29, 85, 83, 82, 67, 30, 102]
theorem rP : sV.all (lV Tryz.prog sV) = true := by decide +kernel
section
variable {H : Type} {enc : TypeId × Value → H} {W : World}
theorem rR {r : Reach} {b0 : Nat} {v : Value} {d : DataW H} {ps : List MemPlace} (hval : Value.okWide Tryz.prog W r b0 32 v) (hd : DataW.Trod enc Tryz.prog W 0 (fun _ => true) true 32 v d ps) (hw : ∀ k ∈ d.weights Tryz.prog 32, k ≤ reachBytes) :
  ∃ t : Tree, t.fits ∧ V (A4 W) v (.agg t.cells) := by
 obtain ⟨acs, n, h1, h2⟩ := uS sV rP (by decide) hval hd hw
 obtain ⟨s, rfl, hs⟩ := xR n _ h2
 exact ⟨s, hs, cN Tryz.underlying32 _ ▸ h1⟩
theorem zc {r : Reach} {b0 : Nat} {v : Value} {d : DataW H} {ps : List MemPlace} (hval : Value.okWide Tryz.prog W r b0 28 v) (hd : DataW.Trod enc Tryz.prog W 0 (fun _ => true) true 28 v d ps) (hw : ∀ k ∈ d.weights Tryz.prog 28, k ≤ reachBytes) :
  ∃ (s : aN) (l : List aS), lr s l ∧ V (A4 W) v (iw s l) := by
 obtain ⟨acs, n, h1, h2⟩ := uS sV rP (by decide) hval hd hw
 obtain ⟨s, l, rfl, hs⟩ := Dk h2
 rw [cN Tryz.underlying28] at h1
 exact ⟨s, l, hs, h1⟩
end
end Go.Proofs.YtlijgcifhhcfaaaGreatDoor.X
