/- the law FrameEmpty -/
import Derived.Test.YtlijgcifhhcfaaaGreatDoorZBJ
import Derived.Test.YtlijgcifhhcfaaaGreatDoorZBC
import Derived.Test.YtlijgcifhhcfaaaGreatDoorZBI
import Derived.ProofKit
import Derived.LaidMore
import Derived.OpenShut
import Derived.HandedShaped
import Derived.LaidLaws
import Derived.Lib.LaidU8T
set_option linter.unusedVariables false
set_option linter.unusedSimpArgs false
set_option linter.unusedSectionVars false
set_option maxRecDepth 100000
namespace Go.Proofs.YtlijgcifhhcfaaaGreatDoor.X
open Go Go.RowKit Go.Proofs
theorem Hl : ab Tryz.prog 11 = true := by kernel_rfl
theorem Iy : ab Tryz.prog 6 = true := by kernel_rfl
theorem B1 : ab Tryz.prog 7 = true := by kernel_rfl
theorem FL : ab Tryz.prog 8 = true := by kernel_rfl
theorem BU : fo Tryz.prog 37 0 = some 0 := by kernel_rfl
theorem BT : fo Tryz.prog 48 4 = some 4 := by kernel_rfl
theorem BS : fo Tryz.prog 51 3 = some 3 := by kernel_rfl
theorem Gx : lk Tryz.prog 35 = some (false, 1) := by kernel_rfl
theorem IN : Tryz.prog.underlying 4 = some TypeDesc.bool := Tryz.underlying4
theorem FU : Tryz.prog.underlying 49 = some (TypeDesc.slice 86) := Tryz.underlying49
theorem Cz {s : aN} {l : List aS} {L : List aN} (hs : s.dj) (hb : ∀ x ∈ l, x.dj ∧ x.names.length ≤ 1000) (hl : l.length ≤ 9223372036854775807) (h : s.all l = .ok L) : Pure Tryz.prog 8 [jU s l, .bool false] (.tup [cS (lower s l), (L.getD l.length py).av, .bool true]) := by
 have := q7 s l hs hb hl
 rw [h] at this; exact this
theorem DA {s : aN} {l : List aS} {e : Int} (hs : s.dj) (hb : ∀ x ∈ l, x.dj ∧ x.names.length ≤ 1000) (hl : l.length ≤ 9223372036854775807) (h : s.all l = .error e) : Pure Tryz.prog 8 [jU s l, .bool false] (.tup [.agg [.sl []], py.av, .bool false]) := by
 have := q7 s l hs hb hl
 rw [h] at this; exact this
theorem yg (s : aN) (l : List aS) : lower s l = (l.foldl gj.step (jN s)).all := rfl
theorem AO {s : aN} {l : List aS} {L : List aN} (h : s.all l = .ok L) (hl : l.length ≤ 40) : iE (lower s l) := by
 rw [yg]; exact mu.parts (x9 h).1 hl
theorem tq {ps : List aj} (hP : iE ps) {k : Nat} {q : aj} (hq : ps[k]? = some q) (bh : Bool) (H : Hp) : (fJ q k bh H).Good ps bh 1 := by
 have hm := List.mem_of_getElem? hq
 refine .mk 0 _ q hq ?_ ?_ (fun x hx => ?_) (Nat.zero_le _) (fun l hl => ?_) fun l hl c hc => ?_
 ·have := hP.sides q hm
  unfold aj.side; split <;> omega
 ·have := hP.sides q hm
  omega
 ·have := hP.bc q hm x (by unfold aj.side at hx; cases bh <;> simp_all)
  show 0 ≤ x.reg ∧ x.reg < ((List.replicate q.aJ.toNat ([] : List cU)).length : Int)
  rw [List.length_replicate]; omega
 ·rw [List.eq_of_mem_replicate hl]; simp
 ·rw [List.eq_of_mem_replicate hl] at hc; cases hc
theorem ve (q : aj) (k : Nat) (bh : Bool) (H : Hp) (r : Int) : (fJ q k bh H).row r = [] := by
 show (List.replicate q.aJ.toNat ([] : List cU)).getD r.toNat [] = []
 rw [List.getD_eq_getElem?_getD, List.getElem?_replicate]
 split <;> rfl
theorem tp (ps : List aj) (q : aj) (k : Nat) (bh : Bool) (H : Hp) : sT ps bh 1 (fJ q k bh H) = .mk [] [] := by
 rw [sT]
 unfold oB
 congr 1
 rw [List.filterMap_eq_nil_iff]
 intro x hx
 rw [ve, if_pos rfl]
section
variable {ps : List aj} (hP : iE ps) {k : Nat} {q : aj} (hq : ps[k]? = some q) (bh : Bool) (K : Hp)
include hP hq
theorem rR : cT Tryz.prog 13 [.op (K.next + 1) 0] (dD q k bh K) (.tup [.int .i64 1, .int .i64 0]) (dD q k bh K) := by
 have hA := mh q k bh K (by have := hP.aJ q (List.mem_of_getElem? hq); omega)
 have h := GP (dD q k bh K) (some (fJ q k bh K)) fun g hg => by cases hg; exact hA
 have e1 : (fJ q k bh K).ms = 1 := by rw [Fm.wi]; show 1 + dK (List.replicate _ _) = 1; rw [nE]
 have e2 : (fJ q k bh K).vs = 0 := by rw [Fm.wA]; show dJ (List.replicate _ _) = 0; rw [nD]
 have e3 : oI (some (fJ q k bh K)) = .tup [.int .i64 (dm ((fJ q k bh K).ms : Int)), .int .i64 (dm ((fJ q k bh K).vs : Int))] := rfl
 rw [e3, e1, e2] at h
 exact h
theorem rP : cT Tryz.prog 15 [cS ps, .bool bh, .op (K.next + 1) 0] (dD q k bh K) (.agg [.sl [], .sl []]) (dD q k bh K) := by
 have hA := mh q k bh K (by have := hP.aJ q (List.mem_of_getElem? hq); omega)
 have h := tC ps bh 1 _ (tq hP hq bh K) _ hA
 rw [tp] at h
 exact h
end
theorem zw : Pure Tryz.prog 14 [.agg [.sl [], .sl []], .agg [.sl [], .sl []]] (.bool true) := by
 have h := Fh (.mk [] []) (.mk [] []) (Tree.fk.mk ⟨by decide, by decide, fun x hx => (List.not_mem_nil hx).elim, fun x hx => (List.not_mem_nil hx).elim, fun x hx => (List.not_mem_nil hx).elim, fun x hx => (List.not_mem_nil hx).elim, fun x hx => (List.not_mem_nil hx).elim, fun x hx => (List.not_mem_nil hx).elim⟩ fun x hx => (List.not_mem_nil hx).elim)
 rw [Bm] at h
 exact h
theorem uw (K : Hp) : cT Tryz.prog 13 [.nilp] K (.tup [.int .i64 0, .int .i64 0]) K := rS K
theorem rU (s : aN) (l : List aS) (hc : mw s l) (bh : Bool) (H : Hp) : CN Tryz.prog 4 [jU s l, .bool bh] H (.bool true) := by
 have e0 : jU s l = .agg [.sl (s.enums.map dU.av), .sl (s.msgs.map aT.av), .sl (l.map aS.av)] := rfl
 refine CN.aL Tryz.func4 rfl rfl (aF rfl) (aC.seq (aC.region (aB.run II 2 rfl (aB.nil (aC.seq (aC.seq (aC.region (aB.run II 1 rfl (aB.c1 rfl (aG (aF rfl) Iy rfl (AG s l [] hc (fun t ht => (List.not_mem_nil ht).elim) (by decide))) (aB.run II 1 rfl (aB.nil (aC.cond rfl (fun hc1 => ?_) (fun hc1 => ?_)))))))))))))
 ·exact aC.seq (aC.region (aB.c1 rfl (aG (aF rfl) B1 rfl o5) (aB.run II 1 rfl (aB.nil (aC.ret ⟨.inr rfl, (aE.r1 rfl (.tmp rfl .nil)).cast rfl⟩)))))
 ·refine aC.skip (aC.seq (aC.region (aB.run II 1 rfl ?_)))
  have hsm : gK l = true := by simp [gE] at hc1; exact hc1.2
  cases hp1 : s.all l with
  | ok x1 => 
   refine aB.c1 rfl (aG (aF rfl) FL rfl (Cz hc.s.dj (hc.steps hsm) (by have := (lU hsm).1; omega) hp1)) ?_
   refine aB.run II 9 rfl (aB.nil (aC.seq (aC.seq (aC.region (aB.run II 2 rfl (aB.nil (aC.aZ rfl (congrArg not rfl) (aC.skip (aC.seq (aC.seq (aC.region (aB.run II 1 rfl (aB.nil (aC.blk (aC.aK (Kept.aI [.s 8, .h, .s 1, .s 5, .b 5] rfl (by decide) (Kept.now (aC.aX (fun ((i, K) : Nat × Hp) => [(.s 8, .sv (.v (.int .i64 (i : Int)))), (.h, .hp K)]) _ (fun ((i, K) : Nat × Hp) => True) (fun ((i, K) : Nat × Hp) => (lower s l).length - i) (0, _) rfl trivial ?_))))))))))))))))))
   rintro ⟨i, K⟩ hI
   have hP := AO hp1 (lU hsm).1
   have hPl := hP.len
   refine aC.seq (aC.seq (aC.region (aB.run II 5 rfl (aB.nil (aC.cond rfl (fun hc2 => ?_) (fun hc2 => ?_))))))
   ·have hi := ch hc2
    refine aC.skip (aC.seq (aC.blk (aC.seq (aC.region (aB.run II 3 rfl (aB.c2 rfl (cK (aF rfl) Bf rfl rfl (wR (lower s l) bh i _ (List.getElem?_eq_getElem hi) (hP.aJ _ (List.getElem_mem hi)).1 (by have := (hP.aJ _ (List.getElem_mem hi)).2; omega) K)) ?_))))))
    refine aB.run II 1 rfl (aB.nil (aC.seq (aC.region (aB.run II 3 rfl (aB.c1 rfl (aH (aF rfl) dP rfl rfl (Int.natCast_nonneg _) (bz hi) rfl) (aB.run II 3 rfl (aB.nil (aC.cE [.h, .s 1, .s 5, .b 5, .s 8, .s 9] (fun (x : AV) => [(.s 10, .sv (.v x))]) (fun (x : AV) => x = .sl ((((lower s l)[i]'hi).side bh).map Port.av)) rfl ?_ ?_))))))))
    ·refine aC.seq (aC.region (aB.run II 1 rfl (aB.nil (aC.cond rfl (fun hc3 => ?_) (fun hc3 => ?_)))))
     ·exact aC.region (aB.run II 3 rfl (aB.c1 rfl (aH (aF rfl) dP rfl rfl (Int.natCast_nonneg _) (bz hi) rfl) (aB.run II 3 rfl (aB.kept (Kept.aI [.s 10, .h, .s 1, .s 5, .b 5, .s 8, .s 9] rfl (by decide) (Kept.now ⟨_, by rw [hc3]; rfl, rfl⟩))))))
     ·exact aC.aK (Kept.aI [.s 10, .h, .s 1, .s 5, .b 5, .s 8, .s 9] rfl (by decide) (Kept.now (aC.skip ⟨_, by rw [hc3]; rfl, rfl⟩)))
    ·rintro x hX
     subst hX
     have hsl : ((lower s l)[i].side bh).length ≤ 1000000 := by have := hP.sides _ (List.getElem_mem hi); unfold aj.side; split <;> omega
     refine aC.seq (aC.seq (aC.drawn mixed rfl (aD.run II 1 rfl (aD.c1 rfl (ux (aF rfl) oV rfl rfl) (aD.run II 4 rfl (aD.g1 rfl (aF rfl) rfl rfl (bJ (aF rfl) iW rfl rfl (Hp.dZ _ _) rfl) (aD.run II 4 rfl (aD.g1 rfl (aF rfl) rfl (by simp) (eG (aF rfl) rfl) (aD.g1 rfl (aF rfl) rfl (by simp) (ld (aF rfl) rfl) (aD.g1 rfl (aF rfl) rfl (by simp) (oa (aF rfl) BS rfl) (aD.g1 rfl (aF rfl) rfl (by simp) (bJ (aF rfl) wq rfl rfl (Hp.dZ _ _) rfl) (aD.g1 rfl (aF rfl) rfl (by simp) (eG (aF rfl) rfl) ?_))))))))))))
     refine aD.g1 rfl (aF rfl) rfl (by simp) (Ad (aF rfl) IN rfl rfl) (aD.c1 rfl (cJ (aF rfl) rfl (by simp) rfl) (aD.run II 1 rfl (aD.g1 rfl (aF rfl) rfl (by cases bh <;> rfl) (eG (aF rfl) rfl) ?_)))
     refine aD.g1 rfl (aF rfl) rfl (by cases bh <;> rfl) (ld (aF rfl) rfl) ?_
     refine aD.g1 rfl (aF rfl) rfl (by cases bh <;> rfl) (oa (aF rfl) pS rfl) ?_
     refine aD.g1 rfl (aF rfl) rfl (by cases bh <;> rfl) (bJ (aF rfl) jO rfl rfl (Hp.dZ _ _) rfl) ?_
     refine aD.g1 rfl (aF rfl) rfl (by cases bh <;> rfl) (A9 (aF rfl) FU rfl) ?_
     refine aD.g1 rfl (aF rfl) rfl (by cases bh <;> rfl) (o9 (aF rfl) BU rfl) ?_
     refine aD.g1 rfl (aF rfl) rfl (by cases bh <;> rfl) (ko (aF rfl) Gx rfl rfl rfl) ?_
     refine aD.g1 rfl (aF rfl) rfl (by cases bh <;> rfl) (eG (aF rfl) rfl) ?_
     refine aD.g1 rfl (aF rfl) rfl (by cases bh <;> rfl) (aH (aF rfl) dP rfl rfl (Int.natCast_nonneg _) (bz hi) rfl) ?_
     refine aD.g1 rfl (aF rfl) rfl (by cases bh <;> rfl) (Ac (aF rfl) BT rfl) ?_
     refine aD.g1 rfl (aF rfl) rfl (by cases bh <;> rfl) (kq (aF rfl) iW rfl rfl) ?_
     refine aD.g1 rfl (aF rfl) rfl (by cases bh <;> rfl) (dM (aF rfl) rfl rfl rfl) ?_
     refine aD.c1 rfl (cJ (aF rfl) rfl (by cases bh <;> rfl) rfl) ?_
     refine aD.run II 1 rfl (aD.g1 rfl (aF rfl) rfl (by have := (hP.aJ _ (List.getElem_mem hi)).1; simp; omega) (ko (aF rfl) jk rfl rfl rfl) ?_)
     iterate 2 (refine aD.g1 rfl (aF rfl) rfl (by have := (hP.aJ _ (List.getElem_mem hi)).1; simp; omega) (eG (aF rfl) rfl) ?_)
     refine aD.g1 rfl (aF rfl) rfl (by have := (hP.aJ _ (List.getElem_mem hi)).1; simp; omega) (aG (aF rfl) ry rfl (rL (lower s l) bh i _ (List.getElem?_eq_getElem hi) (by have := hP.sides _ (List.getElem_mem hi); omega))) ?_
     refine aD.g1 rfl (aF rfl) rfl (by have := (hP.aJ _ (List.getElem_mem hi)).1; simp; omega) (eG (aF rfl) rfl) ?_
     refine aD.g1 rfl (aF rfl) rfl (by have := (hP.aJ _ (List.getElem_mem hi)).1; simp; omega) (aG (aF rfl) Hl rfl (sh _ hsl)) ?_
     refine aD.g1 rfl (aF rfl) rfl (by have := (hP.aJ _ (List.getElem_mem hi)).1; simp; omega) (nG (aF rfl) rfl rfl) ?_
     refine aD.c1 rfl (cJ (aF rfl) rfl (by have := (hP.aJ _ (List.getElem_mem hi)).1; simp; omega) rfl) ?_
     refine aD.nil (by kernel_rfl) (Kept.now (aC.aZ rfl (congrArg not rfl) (aC.skip (aC.seq (aC.region (aB.run II 1 rfl (aB.c1 rfl (ck (aF rfl) vb rfl rfl (rR hP (List.getElem?_eq_getElem hi) bh K)) ?_)))))))
     refine aB.run II 5 rfl (aB.nil (aC.seq (aC.region (aB.run II 10 rfl (aB.g1 rfl (aF rfl) rfl rfl (ck (aF rfl) Bd rfl rfl (rP hP (List.getElem?_eq_getElem hi) bh K)) ?_)))))
     exact aB.run II 1 rfl (aB.g1 rfl (aF rfl) rfl rfl (aG (aF rfl) Be rfl zw) (aB.run II 2 rfl (aB.nil (aC.aZ rfl (congrArg not rfl) (aC.skip (aC.region (aB.run II 3 rfl (aB.kept (Kept.aY 8 rfl (inc (by omega)) (Kept.aI [.s 8, .h, .s 1, .s 5, .b 5] rfl (by decide) (Kept.now ⟨(i + 1, _), by dsimp only; omega, trivial, rfl⟩)))))))))))
   ·have hi := cj hc2
    exact aC.exit (aC.seq (aC.region (aB.c1 rfl (ck (aF rfl) vb rfl rfl (uw _)) (aB.run II 5 rfl (aB.nil (aC.seq (aC.region (aB.run II 7 rfl (aB.g1 rfl (aF rfl) rfl rfl (aG (aF rfl) B1 rfl o5) (aB.run II 2 rfl (aB.nil (aC.ret ⟨.inr rfl, (aE.r1 rfl (.tmp rfl .nil)).cast rfl⟩))))))))))))
  | error e1 => 
   refine aB.c1 rfl (aG (aF rfl) FL rfl (DA hc.s.dj (hc.steps hsm) (by have := (lU hsm).1; omega) hp1)) ?_
   exact aB.run II 9 rfl (aB.nil (aC.seq (aC.seq (aC.region (aB.run II 2 rfl (aB.nil (aC.ar rfl (congrArg not rfl) (aC.seq (aC.region (aB.c1 rfl (aG (aF rfl) B1 rfl o5) (aB.run II 1 rfl (aB.nil (aC.ret ⟨.inr rfl, (aE.r1 rfl (.tmp rfl .nil)).cast rfl⟩)))))))))))))
/- How much a value holds. No condition. -/
structure Tree.Js (t : Tree) : Prop where
 s : t.aU.length ≤ 140737488355328
 r : t.rest.length ≤ 140737488355328
 v : ∀ x ∈ t.aU, x.bT.length ≤ 140737488355328
 m : ∀ x ∈ t.aU, ∀ v ∈ x.bT, v.m.length ≤ 140737488355328
 vs : ∀ x ∈ t.aU, ∀ v ∈ x.bT, v.s.length ≤ 140737488355328
 vn : ∀ x ∈ t.aU, ∀ v ∈ x.bT, v.n < 18446744073709551616
 rs : ∀ r ∈ t.rest, r.s.length ≤ 140737488355328
 rn : ∀ r ∈ t.rest, r.n < 18446744073709551616
def Tree.fits (t : Tree) : Prop := t.fk Tree.Js
theorem Tree.fits.dj {t : Tree} (h : t.fits) : t.dj := fun u hu => by
 have h1 := h u hu
 exact ⟨Nat.le_trans h1.s (by omega), Nat.le_trans h1.r (by omega), fun x hx => Nat.le_trans (h1.v x hx) (by omega), fun x hx v hv => Nat.le_trans (h1.m x hx v hv) (by omega), fun x hx v hv => Nat.le_trans (h1.vs x hx v hv) (by omega), h1.vn, fun r hr => Nat.le_trans (h1.rs r hr) (by omega), h1.rn⟩
/- Whatever comes in of a plain type is one: the pieces, and values. No condition. -/
section
variable {P : Program} {n : Nat} {t e : TypeId} {acs : List AV}
theorem ew {k : IntKind} (hu : P.underlying t = some (.int k)) (h : Ty P n t acs) : ∃ m, acs = [.int k m] ∧ (Lit.int k m).wf = true := by
 cases n with
 | zero => exact h.elim
 | succ n => unfold Ty at h; rw [hu] at h; exact h
theorem qz (hu : P.underlying t = some .bool) (h : Ty P n t acs) : ∃ b, acs = [.bool b] := by
 cases n with
 | zero => exact h.elim
 | succ n => unfold Ty at h; rw [hu] at h; exact h
theorem ev (hu : P.underlying t = some .string) (h : Ty P n t acs) : ∃ s : au, acs = [.str s] ∧ s.length ≤ 140737488355328 := by
 cases n with
 | zero => exact h.elim
 | succ n => unfold Ty at h; rw [hu] at h; obtain ⟨s, h1, h2⟩ := h; exact ⟨s, h1, by unfold reachBytes at h2; omega⟩
theorem dc (hu : P.underlying t = some (.slice e)) (hb : 1 ≤ P.bytesOf e) (h : Ty P n t acs) : ∃ (k : Nat) (css : List (List AV)), k < n ∧ acs = [.sl (css.map (pack P e))] ∧ css.length ≤ 140737488355328 ∧ ∀ c ∈ css, Ty P k e c := by
 cases n with
 | zero => exact h.elim
 | succ n =>
  unfold Ty at h; rw [hu] at h
  obtain ⟨css, h1, h2, h3⟩ := h
  refine ⟨n, css, by omega, h1, ?_, h3⟩
  have : css.length * 1 ≤ css.length * P.bytesOf e := Nat.mul_le_mul_left _ hb
  unfold reachBytes at h2
  omega
theorem dA {fs : Array Field} (hu : P.underlying t = some (.struct fs)) (h : Ty P n t acs) : ∃ k, k < n ∧ Em P (Ty P k) (fs.toList.map (·.type)) acs := by
 cases n with
 | zero => exact h.elim
 | succ n => unfold Ty at h; rw [hu] at h; exact ⟨n, by omega, h⟩
theorem al {R : TypeId → List AV → Prop} {t : TypeId} {ts : List TypeId} (h : Em P R (t :: ts) acs) : ∃ a b, acs = a ++ b ∧ R t a ∧ Em P R ts b := by
 obtain ⟨a, b, h1, _, h3, h4⟩ := h; exact ⟨a, b, h1, h3, h4⟩
theorem eY {R : TypeId → List AV → Prop} (h : Em P R [] acs) : acs = [] := h
theorem c6 {fs : Array Field} (hu : P.underlying t = some (.struct fs)) (cs : List AV) : pack P t cs = .agg cs := by unfold pack; rw [hu]
theorem eM {α : Type} {f : α → List AV} {Q : α → Prop} : ∀ {css : List (List AV)}, (∀ c ∈ css, ∃ x : α, c = f x ∧ Q x) → ∃ xs : List α, css = xs.map f ∧ ∀ x ∈ xs, Q x
 | [], _ => ⟨[], rfl, by simp⟩
 | c :: css, h => by
  obtain ⟨x, h1, h2⟩ := h c (by simp)
  obtain ⟨xs, h3, h4⟩ := eM (css := css) fun c hc => h c (by simp [hc])
  exact ⟨x :: xs, by simp [h1, h3], by intro y hy; rcases List.mem_cons.1 hy with rfl | hy; exact h2; exact h4 y hy⟩
end
theorem dh {α : Type} {P : Program} {t : TypeId} {f : α → List AV} {g : α → AV} (h : ∀ x, pack P t (f x) = g x) (xs : List α) : (xs.map f).map (pack P t) = xs.map g := by
 rw [List.map_map]; congr 1; funext x; exact h x
theorem Es {m : Int} (h : (Lit.int .u64 m).wf = true) : ∃ k : Nat, m = (k : Int) ∧ k < 18446744073709551616 := by
 have : 0 ≤ m ∧ m ≤ 18446744073709551615 := by simpa [Lit.wf, IntKind.min, IntKind.max, IntKind.signed, IntKind.bits] using h
 exact ⟨m.toNat, by omega, by omega⟩
abbrev TY := Ty Tryz.prog
theorem GK (m : Int) : pack Tryz.prog 3 [.int .i64 m] = jQ m := by unfold pack; rw [Tryz.underlying3]; rfl
theorem FY {n : Nat} {acs : List AV} (h : TY n 102 acs) : ∃ f : Rw, acs = f.cells ∧ f.s.length ≤ 140737488355328 ∧ f.n < 18446744073709551616 := by
 obtain ⟨k, _, h⟩ := dA Tryz.underlying102 h
 obtain ⟨a1, b1, rfl, h1, wa1⟩ := al h; obtain ⟨s1, rfl, _⟩ := ew Tryz.underlying3 h1
 obtain ⟨a2, b2, rfl, h1, wa2⟩ := al wa1; obtain ⟨s2, rfl, _⟩ := ew Tryz.underlying3 h1
 obtain ⟨a3, b3, rfl, h1, wa3⟩ := al wa2; obtain ⟨s3, rfl, w3⟩ := ew Tryz.underlying80 h1
 obtain ⟨a4, b4, rfl, h1, wa4⟩ := al wa3; obtain ⟨s4, rfl, w4⟩ := ev Tryz.underlying9 h1
 obtain rfl := eY wa4
 obtain ⟨k3, rfl, hk⟩ := Es w3
 exact ⟨⟨s1, s2, k3, s4⟩, rfl, w4, hk⟩
theorem GI (f : Rw) : pack Tryz.prog 102 f.cells = f.av := c6 Tryz.underlying102 _
theorem GF (f : bS) : pack Tryz.prog 82 f.cells = f.av := by rw [c6 Tryz.underlying82, bS.bK]
theorem DR (f : Slot) : pack Tryz.prog 85 f.cells = f.av := by rw [c6 Tryz.underlying85, Slot.bK]
theorem DQ (f : Tree) : pack Tryz.prog 32 f.cells = f.av := by rw [c6 Tryz.underlying32, Tree.bK]
def bS.fits (v : bS) : Prop := v.n < 18446744073709551616 ∧ v.s.length ≤ 140737488355328 ∧ v.m.length ≤ 140737488355328 ∧ ∀ u ∈ v.m, u.fits
def Slot.fits (x : Slot) : Prop := x.bT.length ≤ 140737488355328 ∧ ∀ v ∈ x.bT, v.fits
theorem z8 {n : Nat} {acs : List AV} (ih : ∀ k < n, ∀ acs, TY k 32 acs → ∃ t : Tree, acs = t.cells ∧ t.fits) (h : TY n 82 acs) : ∃ v : bS, acs = v.cells ∧ v.fits := by
 obtain ⟨k, hk, h⟩ := dA Tryz.underlying82 h
 obtain ⟨a1, b1, rfl, h1, wa1⟩ := al h; obtain ⟨s1, rfl, w1⟩ := ew Tryz.underlying80 h1
 obtain ⟨a2, b2, rfl, h1, wa2⟩ := al wa1; obtain ⟨s2, rfl, w2⟩ := ev Tryz.underlying9 h1
 obtain ⟨a3, b3, rfl, h1, wa3⟩ := al wa2; obtain ⟨k3, l3, hk3, rfl, e3, h3⟩ := dc Tryz.underlying67 (by decide +kernel) h1
 obtain rfl := eY wa3
 obtain ⟨k1, rfl, hk1⟩ := Es w1
 obtain ⟨xs, rfl, hx⟩ := eM (f := Tree.cells) (Q := Tree.fits) fun c hc => ih k3 (by omega) c (h3 c hc)
 rw [dh DQ]
 exact ⟨.mk k1 s2 xs, rfl, hk1, w2, by rw [List.length_map] at e3; exact e3, hx⟩
theorem Ca {n : Nat} {acs : List AV} (ih : ∀ k < n, ∀ acs, TY k 32 acs → ∃ t : Tree, acs = t.cells ∧ t.fits) (h : TY n 85 acs) : ∃ v : Slot, acs = v.cells ∧ v.fits := by
 obtain ⟨k, hk, h⟩ := dA Tryz.underlying85 h
 obtain ⟨a1, b1, rfl, h1, wa1⟩ := al h; obtain ⟨s1, rfl, w1⟩ := ew Tryz.underlying3 h1
 obtain ⟨a3, b3, rfl, h1, wa3⟩ := al wa1; obtain ⟨k3, l3, hk3, rfl, e3, h3⟩ := dc Tryz.underlying83 (by decide +kernel) h1
 obtain rfl := eY wa3
 obtain ⟨xs, rfl, hx⟩ := eM (f := bS.cells) (Q := bS.fits) fun c hc => z8 (n := k3) (fun j hj => ih j (by omega)) (h3 c hc)
 rw [dh GF]
 exact ⟨.mk s1 xs, rfl, by rw [List.length_map] at e3; exact e3, hx⟩
theorem C9 : ∀ (n : Nat) (acs : List AV), TY n 32 acs → ∃ t : Tree, acs = t.cells ∧ t.fits := by
 intro n
 induction n using Nat.strongRecOn with
 | _ n ih =>
  intro acs h
  obtain ⟨k, hk, h⟩ := dA Tryz.underlying32 h
  obtain ⟨a1, b1, rfl, h1, wa1⟩ := al h; obtain ⟨k1, l1, hk1, rfl, e1, h1⟩ := dc Tryz.underlying29 (by decide +kernel) h1
  obtain ⟨a2, b2, rfl, h2, wa2⟩ := al wa1; obtain ⟨k2, l2, hk2, rfl, e2, h2⟩ := dc Tryz.underlying30 (by decide +kernel) h2
  obtain rfl := eY wa2
  obtain ⟨xs, rfl, hx⟩ := eM (f := Slot.cells) (Q := Slot.fits) fun c hc => Ca (n := k1) (fun j hj => ih j (by omega)) (h1 c hc)
  obtain ⟨ys, rfl, hy⟩ := eM (f := Rw.cells) (Q := fun r => r.s.length ≤ 140737488355328 ∧ r.n < 18446744073709551616) fun c hc => FY (h2 c hc)
  rw [dh DR, dh GI]
  refine ⟨.mk xs ys, rfl, Tree.fk.mk ⟨by rw [List.length_map] at e1; exact e1, by rw [List.length_map] at e2; exact e2, fun x h => (hx x h).1, fun x h v hv => ((hx x h).2 v hv).2.2.1, fun x h v hv => ((hx x h).2 v hv).2.1, fun x h v hv => ((hx x h).2 v hv).1, fun r h => (hy r h).1, fun r h => (hy r h).2⟩ fun x h v hv => ((hx x h).2 v hv).2.2.2⟩
/- Whatever comes in as a schema is one. No condition. -/
theorem F0 {n : Nat} {acs : List AV} (h : TY n 72 acs) : ∃ f : ah, acs = f.cells := by
 obtain ⟨k, _, h⟩ := dA Tryz.underlying72 h
 obtain ⟨a1, b1, rfl, h1, wa1⟩ := al h; obtain ⟨s1, rfl, _⟩ := ev Tryz.underlying9 h1
 obtain ⟨a2, b2, rfl, h1, wa2⟩ := al wa1; obtain ⟨s2, rfl, _⟩ := ew Tryz.underlying3 h1
 obtain ⟨a3, b3, rfl, h1, wa3⟩ := al wa2; obtain ⟨s3, rfl, _⟩ := ew Tryz.underlying3 h1
 obtain ⟨a4, b4, rfl, h1, wa4⟩ := al wa3; obtain ⟨s4, rfl, _⟩ := ev Tryz.underlying9 h1
 obtain ⟨a5, b5, rfl, h1, wa5⟩ := al wa4; obtain ⟨s5, rfl⟩ := qz Tryz.underlying4 h1
 obtain ⟨a6, b6, rfl, h1, wa6⟩ := al wa5; obtain ⟨s6, rfl⟩ := qz Tryz.underlying4 h1
 obtain ⟨a7, b7, rfl, h1, wa7⟩ := al wa6; obtain ⟨s7, rfl, _⟩ := ev Tryz.underlying9 h1
 obtain rfl := eY wa7
 exact ⟨⟨s1, s2, s3, s4, s5, s6, s7⟩, rfl⟩
theorem GL (f : ah) : pack Tryz.prog 72 f.cells = f.av := c6 Tryz.underlying72 _
theorem FZ {n : Nat} {acs : List AV} (h : TY n 75 acs) : ∃ m : aT, acs = m.cells ∧ m.fields.length ≤ 140737488355328 := by
 obtain ⟨k, _, h⟩ := dA Tryz.underlying75 h
 obtain ⟨a1, b1, rfl, h1, wa1⟩ := al h; obtain ⟨s1, rfl, _⟩ := ev Tryz.underlying9 h1
 obtain ⟨a2, b2, rfl, h1, wa2⟩ := al wa1; obtain ⟨k2, l2, _, rfl, e2, h2⟩ := dc Tryz.underlying73 (by decide +kernel) h1
 obtain ⟨a3, b3, rfl, h1, wa3⟩ := al wa2; obtain ⟨k3, l3, _, rfl, e3, h3⟩ := dc Tryz.underlying46 (by decide +kernel) h1
 obtain rfl := eY wa3
 obtain ⟨xs, rfl, _⟩ := eM (f := ah.cells) (Q := fun _ => True) fun c hc => (by obtain ⟨f, hf⟩ := F0 (h2 c hc); exact ⟨f, hf, trivial⟩)
 obtain ⟨ys, rfl, _⟩ := eM (f := fun m : Int => [AV.int .i64 m]) (Q := fun _ => True) fun c hc => (by obtain ⟨m, hm, _⟩ := ew Tryz.underlying3 (h3 c hc); exact ⟨m, hm, trivial⟩)
 rw [dh GL, dh GK]
 exact ⟨⟨s1, xs, ys⟩, rfl, by simpa using e2⟩
theorem GJ (f : aT) : pack Tryz.prog 75 f.cells = f.av := c6 Tryz.underlying75 _
theorem FV {n : Nat} {acs : List AV} (h : TY n 117 acs) : ∃ f : iu, acs = f.cells := by
 obtain ⟨k, _, h⟩ := dA Tryz.underlying117 h
 obtain ⟨a1, b1, rfl, h1, wa1⟩ := al h; obtain ⟨s1, rfl, _⟩ := ev Tryz.underlying9 h1
 obtain ⟨a2, b2, rfl, h1, wa2⟩ := al wa1; obtain ⟨s2, rfl, _⟩ := ew Tryz.underlying3 h1
 obtain rfl := eY wa2
 exact ⟨⟨s1, s2⟩, rfl⟩
theorem GD (f : iu) : pack Tryz.prog 117 f.cells = f.av := c6 Tryz.underlying117 _
theorem F1 {n : Nat} {acs : List AV} (h : TY n 115 acs) : ∃ m : dU, acs = m.cells ∧ m.values.length ≤ 140737488355328 := by
 obtain ⟨k, _, h⟩ := dA Tryz.underlying115 h
 obtain ⟨a1, b1, rfl, h1, wa1⟩ := al h; obtain ⟨s1, rfl, _⟩ := ev Tryz.underlying9 h1
 obtain ⟨a2, b2, rfl, h1, wa2⟩ := al wa1; obtain ⟨k2, l2, _, rfl, e2, h2⟩ := dc Tryz.underlying113 (by decide +kernel) h1
 obtain rfl := eY wa2
 obtain ⟨xs, rfl, _⟩ := eM (f := iu.cells) (Q := fun _ => True) fun c hc => (by obtain ⟨f, hf⟩ := FV (h2 c hc); exact ⟨f, hf, trivial⟩)
 rw [dh GD]
 exact ⟨⟨s1, xs⟩, rfl, by simpa using e2⟩
theorem GM (f : dU) : pack Tryz.prog 115 f.cells = f.av := c6 Tryz.underlying115 _
theorem FX {n : Nat} {acs : List AV} (h : TY n 25 acs) : ∃ s : aN, acs = s.cells ∧ s.lens := by
 obtain ⟨k, _, h⟩ := dA Tryz.underlying25 h
 obtain ⟨a1, b1, rfl, h1, wa1⟩ := al h; obtain ⟨k1, l1, _, rfl, e1, h1⟩ := dc Tryz.underlying22 (by decide +kernel) h1
 obtain ⟨a2, b2, rfl, h2, wa2⟩ := al wa1; obtain ⟨k2, l2, _, rfl, e2, h2⟩ := dc Tryz.underlying23 (by decide +kernel) h2
 obtain rfl := eY wa2
 obtain ⟨xs, rfl, hx⟩ := eM (f := dU.cells) (Q := fun m => m.values.length ≤ 140737488355328) fun c hc => F1 (h1 c hc)
 obtain ⟨ys, rfl, hy⟩ := eM (f := aT.cells) (Q := fun m => m.fields.length ≤ 140737488355328) fun c hc => FZ (h2 c hc)
 rw [dh GM, dh GJ]
 exact ⟨⟨xs, ys⟩, rfl, ⟨by simpa using e1, by simpa using e2, hx, hy⟩⟩
/- The last text's frame: what a row lists of the package variables; arguments of plain types. No condition. -/
theorem Iz : ab Tryz.prog 2 = true := by kernel_rfl
theorem pz {H : Type} {enc : TypeId × Value → H} {a : Assume} {C : Checked} {os : Os} {f : FuncId} {fn : Func} {s : ChangeSpec} {conds : List PathCond} {apart fresh handsOn again : Bool} {X : World → Array Value → Prop}
  (hX : ∀ (w w' : World) (args : Array Value), w.heap = w'.heap → X w args → X w' args) (own : ownKnob C.prog.godebug = none) (started : os.Started) (noInit : C.prog.inits.idxOf? f = none) (hfn : C.prog.funcs[f]? = some fn)
  (witness : ∃ (w : World) (tape : Tape) (i : Input), w.os = os ∧ (w.forCall tape i).Shaped C.prog ∧ i.vars = [] ∧ Input.okWide C.prog (w.forCall tape i) .any w.heap.size f i ∧
   ((s.pre enc C.prog fn conds apart (w.forCall tape i).memory i.args ∧ X (w.forCall tape i).memory i.args) ∧ sizedMet enc C.prog fn (OpenSpec.ofChange s) apart (w.forCall tape i).memory i.args) ∧ a.holds C.prog (lone (Frame.enter C.prog f i.args .normal) [] (w.forCall tape i)))
  (contract : ∀ (W : World) (base : Nat) (args : Array Value) (ds gs : List (DataW H)) (before : List MemPlace), (∀ (j : Nat) t v, fn.params[j]? = some t → args[j]? = some v → Value.okWide C.prog W .any base t v) →
   DataW.Whole enc C.prog fn.params.toList s.vars apart W args.toList ds gs before → (DataW.weightsEach C.prog (fn.params.toList ++ s.plain.varTypes C.prog) (ds ++ gs)).all (· ≤ reachBytes) = true → X W args → W.ShapedOpen C.prog →
   Calls C.prog f args W fun e W' => ∃ v, e = .returned v ∧ s.post enc C.prog fn apart fresh handsOn again W args v W') :
  ReturnsInHanded a C os f .any (fun w args => (s.pre enc C.prog fn conds apart w args ∧ X w args) ∧ sizedMet enc C.prog fn (OpenSpec.ofChange s) apart w args) (s.post enc C.prog fn apart fresh handsOn again) := by
 refine returnsInHanded_of_calls own started noInit witness fun w tape i _ hsh _ hok hpre _ => ?_
 obtain ⟨_, _, _, Iz, hfn2, _, _, _, _, hval⟩ := hok
 cases Option.some.inj (hfn2.symm.trans hfn)
 obtain ⟨⟨⟨ds, gs, before, hw, _⟩, hx⟩, hz⟩ := hpre
 refine (contract (w.forCall tape i) w.heap.size i.args ds gs before hval (DataW.Whole.of_heap (w' := w.forCall tape i) (by rfl) hw) (hz.weights hw) (hX _ _ _ (by rfl) hx) hsh).mono ?_
 rintro e W' ⟨v, rfl, hp⟩
 exact ChangeSpec.post_blind hp
abbrev pH : List (String × DataW Unit) := [("unicode/utf8.acceptRanges", Rows.laid_unicode_utf8_acceptRanges), ("unicode/utf8.first", Rows.laid_unicode_utf8_first)]
theorem El : (Rows.laid_unicode_utf8_acceptRanges : DataW Unit) = Lib.acceptData := by rfl
theorem Hn : (Rows.laid_unicode_utf8_first : DataW Unit) = Lib.firstData := by rfl
theorem HA {W : World} (h : laidMetH Tryz.prog pH W) : FK W ∧ gN ≤ W.heap.size := by
 rw [MakeChecks.laidMetH_plain _ _ _ (by kernel_rfl)] at h
 have h1 : Lib.VarReads Tryz.prog W "unicode/utf8.first" Lib.firstData := Hn ▸ Lib.laidMet.reads h (by simp [pH])
 have h2 : Lib.VarReads Tryz.prog W "unicode/utf8.acceptRanges" Lib.acceptData := El ▸ Lib.laidMet.reads h (by simp [pH])
 refine ⟨utf8Tabs_of_readsT (ρ := Tryz.pF) (U8Types.of196 Tryz.BC) ⟨by kernel_rfl, by kernel_rfl, by kernel_rfl, by kernel_rfl, by kernel_rfl, by kernel_rfl, by kernel_rfl⟩ h1 h2, ?_⟩
 obtain ⟨g, t, cs, fuel, p, hg, _, hv, _⟩ := h2
 obtain rfl : 1 = g := Option.some.inj ((show Tryz.prog.globalNamed "unicode/utf8.acceptRanges" = some 1 by kernel_rfl).symm.trans hg)
 simp only [World.var?, hg, Option.bind_some] at hv
 split at hv
 ·rename_i e
  have := (Array.getElem?_eq_some_iff.1 e).1
  exact this
 ·cases hv
theorem GG (s : au) : pack Tryz.prog 9 [.str s] = .str s := by unfold pack; rw [Tryz.underlying9]; rfl
theorem zB {x : aS} (h : x.dv.fits) : x.tree.fits := by
 obtain ⟨h1, h2, h3, h4⟩ := h
 refine Tree.fk.mk ⟨?_, ?_, ?_, ?_, ?_, ?_, ?_, ?_⟩ ?_ <;> simp [aS.tree, Tree.aU, Tree.rest, Slot.bT]
 ·exact h3
 ·exact h2
 ·exact h1
 ·exact h4
theorem Dz {x : aS} (hf : x.dv.fits) (hn : x.names.length ≤ 140737488355328) (q2 : x.msg.length ≤ 140737488355328) (q3 : x.field.length ≤ 140737488355328) (q4 : x.dest.length ≤ 140737488355328) (q5 : x.also.length ≤ 140737488355328) : x.lens := by
 have hb := (zB hf).dj
 obtain ⟨h1, h2, h3, h4⟩ := hf
 exact ⟨⟨Nat.le_trans h2 (by omega), fun t ht => (h4 t ht).dj, Nat.le_trans hn (by omega)⟩, hb, hn, q2, q3, q4, q5, h2, h1⟩
theorem FW {n : Nat} {acs : List AV} (h : TY n 108 acs) : ∃ x : aS, acs = x.cells ∧ x.lens := by
 obtain ⟨k, _, h⟩ := dA Tryz.underlying108 h
 obtain ⟨a1, b1, rfl, h1, wa1⟩ := al h; obtain ⟨s1, rfl, _⟩ := ew Tryz.underlying3 h1
 obtain ⟨a2, b2, rfl, h1, wa2⟩ := al wa1; obtain ⟨s2, rfl, q2⟩ := ev Tryz.underlying9 h1
 obtain ⟨a3, b3, rfl, h1, wa3⟩ := al wa2; obtain ⟨s3, rfl, q3⟩ := ev Tryz.underlying9 h1
 obtain ⟨a4, b4, rfl, h1, wa4⟩ := al wa3; obtain ⟨s4, rfl, q4⟩ := ev Tryz.underlying9 h1
 obtain ⟨a5, b5, rfl, h1, wa5⟩ := al wa4; obtain ⟨s5, rfl, q5⟩ := ev Tryz.underlying9 h1
 obtain ⟨a6, b6, rfl, h1, wa6⟩ := al wa5; obtain ⟨s6, rfl, _⟩ := ew Tryz.underlying3 h1
 obtain ⟨a7, b7, rfl, h1, wa7⟩ := al wa6; obtain ⟨s7, rfl, _⟩ := ew Tryz.underlying3 h1
 obtain ⟨a8, b8, rfl, h1, wa8⟩ := al wa7; obtain ⟨s8, rfl, _⟩ := ew Tryz.underlying3 h1
 obtain ⟨a9, b9, rfl, h1, wa9⟩ := al wa8; obtain ⟨k9, l9, _, rfl, e9, h9⟩ := dc Tryz.underlying106 (by decide +kernel) h1
 obtain ⟨aA, bA, rfl, h1, waA⟩ := al wa9; obtain ⟨v, rfl, hv⟩ := z8 (fun j _ acs h => C9 j acs h) h1
 obtain rfl := eY waA
 obtain ⟨xs, rfl, _⟩ := eM (f := fun s : au => [AV.str s]) (Q := fun _ => True) fun c hc => (by obtain ⟨f, hf, _⟩ := ev Tryz.underlying9 (h9 c hc); exact ⟨f, hf, trivial⟩)
 rw [dh GG]
 exact ⟨⟨s1, s2, s3, s4, s5, s6, s7, s8, xs, v⟩, rfl, Dz hv (by simpa using e9) q2 q3 q4 q5⟩
theorem GH (x : aS) : pack Tryz.prog 108 x.cells = x.av := c6 Tryz.underlying108 _
theorem xj {n : Nat} {acs : List AV} (h : TY n 26 acs) : ∃ l : List aS, acs = [.sl (l.map aS.av)] ∧ l.length ≤ 140737488355328 ∧ ∀ x ∈ l, x.lens := by
 obtain ⟨k, css, _, rfl, e, h3⟩ := dc Tryz.underlying26 (by decide +kernel) h
 obtain ⟨xs, rfl, hx⟩ := eM (f := aS.cells) (Q := aS.lens) fun c hc => FW (h3 c hc)
 rw [dh GH]
 exact ⟨xs, rfl, by simpa using e, hx⟩
theorem Cb {n : Nat} {acs : List AV} (h : TY n 28 acs) : ∃ (s : aN) (l : List aS), acs = s.cells ++ [.sl (l.map aS.av)] ∧ mw s l := by
 obtain ⟨k, _, h⟩ := dA Tryz.underlying28 h
 obtain ⟨a1, b1, rfl, h1, wa1⟩ := al h; obtain ⟨s, rfl, hs⟩ := FX h1
 obtain ⟨a2, b2, rfl, h1, wa2⟩ := al wa1; obtain ⟨l, rfl, hl, hx⟩ := xj h1
 obtain rfl := eY wa2
 exact ⟨s, l, by simp, hs, hl, hx⟩
def rO : List TypeId := [28, 26, 108, 106, 25, 22, 115, 113, 117, 23, 75, 73, 72, 46, 3, 9, 4, 80, 32, 29, 85, 83, 82, 67, 30, 102]
theorem qb : rO.all (kj Tryz.prog rO) = true := by decide +kernel
section
variable {H : Type} {enc : TypeId × Value → H} {W : World}
theorem yX {r : Reach} {b0 : Nat} {v : Value} {d : DataW H} {ps : List MemPlace} (hval : Value.okWide Tryz.prog W r b0 28 v) (hd : DataW.Trod enc Tryz.prog W 0 (fun _ => true) true 28 v d ps) (hw : ∀ k ∈ d.weights Tryz.prog 28, k ≤ reachBytes) :
  ∃ (s : aN) (l : List aS), mw s l ∧ V (zT W) v (jU s l) := by
 obtain ⟨acs, n, h1, h2⟩ := tG rO qb (by decide) hval hd hw
 obtain ⟨s, l, rfl, hs⟩ := Cb h2
 rw [c6 Tryz.underlying28] at h1
 exact ⟨s, l, hs, h1⟩
theorem open_bool {r : Reach} {b0 : Nat} {v : Value} {d : DataW H} {ps : List MemPlace} (hval : Value.okWide Tryz.prog W r b0 4 v) (hd : DataW.Trod enc Tryz.prog W 0 (fun _ => true) true 4 v d ps) (hw : ∀ k ∈ d.weights Tryz.prog 4, k ≤ reachBytes) :
  ∃ b : Bool, V (zT W) v (.bool b) := by
 obtain ⟨acs, n, h1, h2⟩ := tG rO qb (by decide) hval hd hw
 obtain ⟨b, rfl⟩ := qz Tryz.underlying4 h2
 have e2 : ∀ x, pack Tryz.prog 4 [x] = x := fun x => by unfold pack; rw [Tryz.underlying4]; rfl
 rw [e2] at h1
 exact ⟨b, h1⟩
end
end Go.Proofs.YtlijgcifhhcfaaaGreatDoor.X
