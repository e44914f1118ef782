/- what a case is: Small (ref15, ref24, law31); a case's program (law36) -/
import Derived.Test.YtgmdapgedlachaaGreatDoorZFD
import Derived.Test.YtgmdapgedlachaaGreatDoorZFH
import Derived.Test.YtgmdapgedlachaaGreatDoorZFG
import Derived.Test.YtgmdapgedlachaaGreatDoorZFC
import Derived.RangeFuncSeq
import Derived.RangeFuncRecord
import Derived.OrdersIn
import Derived.TacticsIn
import Derived.ControlIn
import Derived.LoopNIn
import Derived.RangeFuncIn
import Derived.RangeFuncLeaves
set_option linter.unusedVariables false
set_option linter.unusedSimpArgs false
set_option linter.unusedSectionVars false
set_option maxRecDepth 100000
namespace Go.Proofs.YtgmdapgedlachaaGreatDoor.X
open Go Go.RowKit Go.Proofs
structure aL.lens (s : aL) : Prop where
 e : s.enums.length ≤ 140737488355328
 m : s.msgs.length ≤ 140737488355328
 v : ∀ x ∈ s.enums, x.values.length ≤ 140737488355328
 f : ∀ x ∈ s.msgs, x.fields.length ≤ 140737488355328
theorem aL.lens.eK {s : aL} (h : s.lens) : s.eK := ⟨Nat.le_trans h.e (by omega), Nat.le_trans h.m (by omega)⟩
theorem aL.lens.vi {s : aL} (h : s.lens) {i : Nat} (hi : i < s.enums.length) : s.enums[i].values.length ≤ 140737488355328 := h.v _ (List.getElem_mem hi)
theorem aL.lens.fi {s : aL} (h : s.lens) {i : Nat} (hi : i < s.msgs.length) : s.msgs[i].fields.length ≤ 140737488355328 := h.f _ (List.getElem_mem hi)
def CC : List eQ → Int → Int
 | [], n => n
 | e :: l, n => if n < 200 then CC l (dc (dc (n + (e.values.length : Int)) + dc ((e.name.length : Int).tdiv 10))) else n
def CA : List aU → Int → Int
 | [], n => n
 | e :: l, n => if n < 200 then CA l (dc (dc (dc (n + (e.fields.length : Int)) + (e.ai.length : Int)) + dc ((e.name.length : Int).tdiv 10))) else n
theorem CB {l : List eQ} {i : Nat} {n : Int} (h : i < l.length) : CC (l.drop i) n = if n < 200 then CC (l.drop (i + 1)) (dc (dc (n + (l[i].values.length : Int)) + dc ((l[i].name.length : Int).tdiv 10))) else n := by rw [List.drop_eq_getElem_cons h]; rfl
theorem Bz {l : List aU} {i : Nat} {n : Int} (h : i < l.length) : CA (l.drop i) n = if n < 200 then CA (l.drop (i + 1)) (dc (dc (dc (n + (l[i].fields.length : Int)) + (l[i].ai.length : Int)) + dc ((l[i].name.length : Int).tdiv 10))) else n := by rw [List.drop_eq_getElem_cons h]; rfl
theorem Dy {l : List eQ} {i : Nat} {n : Int} (h : l.length ≤ i) : CC (l.drop i) n = n := by rw [List.drop_of_length_le h]; rfl
theorem Dx {l : List aU} {i : Nat} {n : Int} (h : l.length ≤ i) : CA (l.drop i) n = n := by rw [List.drop_of_length_le h]; rfl
def aL.Hd (s : aL) : Int := CC s.enums (dc ((s.enums.length : Int) + (s.msgs.length : Int)))
def aL.Kg (s : aL) : Int := CA s.msgs s.Hd
def l6 (e : eQ) : Bool := e.values.any fun v => decide (1000 < v.name.length)
def l5 (m : aU) : Bool := m.fields.any fun f => decide (1000 < f.name.length) || decide (1000 < f.ref.length) || decide (1000 < f.one.length)
def aL.small (s : aL) : Bool := !decide (200 ≤ s.Kg) && !s.enums.any l6 && !s.msgs.any l5
theorem IC (s : aL) (hs : s.lens) : Pure Tryz.prog 21 [s.av] (.bool s.small) := by
 have he := hs.e
 have hm := hs.m
 refine Pure.gn 14 II mixed Tryz.func21 rfl rfl fun H => (aG.jn 999 0 [.h, .s 1, .b 1] (fun (n : Int) => [(.s 3, .sv (.v (.int .i64 n)))]) (fun (n : Int) => n = s.Hd) rfl ?_ ?_)
 ·refine aG.lq [.s 4, .s 3, .h, .s 1, .b 1] (fun ((i, n) : Nat × Int) => [(.s 4, .sv (.v (.int .i64 (i : Int)))), (.s 3, .sv (.v (.int .i64 n)))]) (fun ((i, n) : Nat × Int) => CC (s.enums.drop i) n = s.Hd) (fun ((i, n) : Nat × Int) => s.enums.length - i) (0, _) rfl rfl (by simp [aL.Hd]) ?_
  rintro ⟨i, n⟩ hI
  refine aC (fun hg1 => ?_) (fun hg1 => ?_)
  ·have hi := cz hg1
   have hS := @CB s.enums i n hi
   refine aC (fun hc2 => ?_) (fun hc2 => ?_)
   ·refine ⟨rfl, ?_⟩
    iterate 2 (refine aF.d1 rfl (bP (aH rfl) dw rfl rfl (ca hi) rfl) ?_)
    exact ⟨by kernel_rfl, (.b1 4 rfl (inc (by omega)) rfl ⟨(i + 1, _), (by dsimp only; omega), by simp only [List.length_map] at *; grind, rfl⟩)⟩
   ·exact .bc [.s 3, .h, .s 1, .b 1] rfl ⟨_, by grind, rfl⟩
  ·have hi := dA hg1
   have hS := @Dy s.enums i n hi
   exact .bc [.s 3, .h, .s 1, .b 1] rfl ⟨_, by grind, rfl⟩
 ·rintro n hF6
  refine aG.jn 999 999 [.h, .s 1, .b 1] (fun (n : Int) => [(.s 3, .sv (.v (.int .i64 n)))]) (fun (n : Int) => n = s.Kg) rfl ?_ ?_
  ·refine aG.lq [.s 5, .s 3, .h, .s 1, .b 1] (fun ((i, n) : Nat × Int) => [(.s 5, .sv (.v (.int .i64 (i : Int)))), (.s 3, .sv (.v (.int .i64 n)))]) (fun ((i, n) : Nat × Int) => CA (s.msgs.drop i) n = s.Kg) (fun ((i, n) : Nat × Int) => s.msgs.length - i) (0, _) rfl rfl (by subst hF6; rfl) ?_
   rintro ⟨i, n⟩ hI
   refine aC (fun hg3 => ?_) (fun hg3 => ?_)
   ·have hi := cz hg3
    have hS := @Bz s.msgs i n hi
    refine aC (fun hc4 => ?_) (fun hc4 => ?_)
    ·refine ⟨rfl, ?_⟩
     iterate 3 (refine aF.d1 rfl (bP (aH rfl) bW rfl rfl (ca hi) rfl) ?_)
     exact ⟨by kernel_rfl, (.b1 5 rfl (inc (by omega)) rfl ⟨(i + 1, _), (by dsimp only; omega), by simp only [List.length_map] at *; grind, rfl⟩)⟩
    ·exact .bc [.s 3, .h, .s 1, .b 1] rfl ⟨_, by grind, rfl⟩
   ·have hi := dA hg3
    have hS := @Dx s.msgs i n hi
    exact .bc [.s 3, .h, .s 1, .b 1] rfl ⟨_, by grind, rfl⟩
  ·rintro n hF10
   refine aC (fun hc5 => ?_) (fun hc5 => ?_)
   ·exact aN rfl rfl rfl (by grind [aL.small, l6, l5])
   ·refine aG.lq [.s 6, .h, .s 1, .b 1] (fun (i : Nat) => [(.s 6, .sv (.v (.int .i64 (i : Int))))]) (fun (i : Nat) => s.enums.any l6 = (s.enums.drop i).any l6) (fun (i : Nat) => s.enums.length - i) 0 rfl rfl (by simp) ?_
    rintro i hI
    refine aC (fun hc6 => ?_) (fun hc6 => ?_)
    ·have hi := cz hc6
     have hS := bz (p := l6) hi
     have hv := hs.vi hi
     refine aG.lq [.s 7, .h, .s 1, .b 1, .s 6] (fun (k : Nat) => [(.s 7, .sv (.v (.int .i64 (k : Int))))]) (fun (k : Nat) => ((s.enums[i]'hi).values.drop k).any (fun v : ks => decide (1000 < v.name.length)) = (s.enums[i]'hi).values.any (fun v : ks => decide (1000 < v.name.length))) (fun (k : Nat) => (s.enums[i]'hi).values.length - k) 0 rfl rfl (by simp) ?_
     rintro k hK
     refine aB.ii rfl dw rfl rfl (ca hi) rfl (aC (fun hc7 => ?_) (fun hc7 => ?_))
     ·have hk := cz hc7
      have hT := bz (p := (fun v : ks => decide (1000 < v.name.length))) hk
      refine aB.ii rfl dw rfl rfl (ca hi) rfl (aB.ii rfl gz rfl rfl (ca hk) rfl (aC (fun hc8 => ?_) (fun hc8 => ?_)))
      ·exact aN rfl rfl rfl (by grind [aL.small, l6, l5])
      ·exact .b1 7 rfl (inc (by omega)) rfl ⟨k + 1, by omega, by grind, rfl⟩
     ·have hk := dA hc7
      have hT := cZ (p := (fun v : ks => decide (1000 < v.name.length))) hk
      exact .b1 6 rfl (inc (by omega)) rfl ⟨i + 1, by omega, by grind [l6], rfl⟩
    ·have hi := dA hc6
     have hS := cZ (p := l6) hi
     refine aG.lq [.s 8, .h, .s 1, .b 1] (fun (i : Nat) => [(.s 8, .sv (.v (.int .i64 (i : Int))))]) (fun (i : Nat) => s.msgs.any l5 = (s.msgs.drop i).any l5) (fun (i : Nat) => s.msgs.length - i) 0 rfl rfl (by simp) ?_
     rintro i hJ
     refine aC (fun hc9 => ?_) (fun hc9 => ?_)
     ·have hi := cz hc9
      have hS := bz (p := l5) hi
      have hv := hs.fi hi
      refine aG.lq [.s 9, .h, .s 1, .b 1, .s 8] (fun (k : Nat) => [(.s 9, .sv (.v (.int .i64 (k : Int))))]) (fun (k : Nat) => ((s.msgs[i]'hi).fields.drop k).any (fun f : ae => decide (1000 < f.name.length) || decide (1000 < f.ref.length) || decide (1000 < f.one.length)) = (s.msgs[i]'hi).fields.any (fun f : ae => decide (1000 < f.name.length) || decide (1000 < f.ref.length) || decide (1000 < f.one.length))) (fun (k : Nat) => (s.msgs[i]'hi).fields.length - k) 0 rfl rfl (by simp) ?_
      rintro k hK
      refine aB.ii rfl bW rfl rfl (ca hi) rfl (aC (fun hc10 => ?_) (fun hc10 => ?_))
      ·have hk := cz hc10
       have hT := bz (p := (fun f : ae => decide (1000 < f.name.length) || decide (1000 < f.ref.length) || decide (1000 < f.one.length))) hk
       refine aB.ii rfl bW rfl rfl (ca hi) rfl (aB.ii rfl bY rfl rfl (ca hk) rfl (aC (fun hg11 => ?_) (fun hg11 => ?_)))
       ·exact aN rfl rfl rfl (by grind [aL.small, l6, l5])
       ·refine aC (fun hg12 => ?_) (fun hg12 => ?_)
        ·exact aN rfl rfl rfl (by grind [aL.small, l6, l5])
        ·refine aC (fun hc13 => ?_) (fun hc13 => ?_)
         ·exact aN rfl rfl rfl (by grind [aL.small, l6, l5])
         ·exact .b1 9 rfl (inc (by omega)) rfl ⟨k + 1, by omega, by grind, rfl⟩
      ·have hk := dA hc10
       have hT := cZ (p := (fun f : ae => decide (1000 < f.name.length) || decide (1000 < f.ref.length) || decide (1000 < f.one.length))) hk
       exact .b1 8 rfl (inc (by omega)) rfl ⟨i + 1, by omega, by grind [l5], rfl⟩
     ·have hi := dA hc9
      have hS := cZ (p := l5) hi
      exact aN rfl rfl rfl (by grind [aL.small, l6, l5])
def nv : List aw → Int → Int
 | [], n => n
 | s :: l, n => if n < 500 then nv l (dc (n + (s.length : Int))) else n
theorem yo {l : List aw} {i : Nat} {n : Int} (h : i < l.length) : nv (l.drop i) n = if n < 500 then nv (l.drop (i + 1)) (dc (n + (l[i].length : Int))) else n := by rw [List.drop_eq_getElem_cons h]; rfl
theorem gY {l : List aw} {i : Nat} {n : Int} (h : l.length ≤ i) : nv (l.drop i) n = n := by rw [List.drop_of_length_le h]; rfl
def aS.CD (x : aS) : Int := dc (dc (dc (dc ((x.msg.length : Int) + (x.field.length : Int)) + (x.dest.length : Int)) + (x.also.length : Int)) + dc (10 * (x.names.length : Int)))
def aS.tree (x : aS) : Tree := .mk [.mk 0 [x.dv]] []
def aS.lit (x : aS) : Bool := !(decide (500 ≤ nv x.names x.CD) || !x.tree.small)
def iQ (l : List aS) : Bool := (l.take 41).all aS.lit && decide (l.length ≤ 40)
theorem xf {l : List aS} {i : Nat} (hi : i < l.length) (h : i ≤ 40) : ((l.take 41).drop i).all aS.lit = (l[i].lit && ((l.take 41).drop (i + 1)).all aS.lit) := by
 have h2 : i < (l.take 41).length := by rw [List.length_take]; omega
 rw [List.drop_eq_getElem_cons h2]
 simp
theorem JR {l : List aS} {i : Nat} (h : l.length ≤ i ∨ 40 < i) : ((l.take 41).drop i).all aS.lit = true := by
 rw [List.drop_of_length_le (by rw [List.length_take]; omega)]; rfl
theorem oB {l : List aS} {i : Nat} (hi : i < l.length) (h : i ≤ 40) (hI : ((l.take 41).drop i).all aS.lit = (l.take 41).all aS.lit) (hx : l[i].lit = false) : iQ l = false := by
 rw [xf hi h, hx, Bool.false_and] at hI
 unfold iQ; rw [← hI]; rfl
theorem rP {l : List aS} {i : Nat} (hi : i < l.length) (h : i ≤ 40) (hI : ((l.take 41).drop i).all aS.lit = (l.take 41).all aS.lit) (hx : l[i].lit = true) : ((l.take 41).drop (i + 1)).all aS.lit = (l.take 41).all aS.lit := by
 rw [xf hi h, hx, Bool.true_and] at hI
 exact hI
theorem rQ {l : List aS} {i : Nat} (h : l.length ≤ i ∨ 40 < i) (hI : ((l.take 41).drop i).all aS.lit = (l.take 41).all aS.lit) : decide (((l.map aS.av).length : Int) ≤ 40) = iQ l := by
 rw [JR h] at hI
 unfold iQ; rw [← hI, List.length_map, Bool.true_and]
 exact decide_eq_decide.2 (by omega)
theorem A5 (x : aS) (hb : x.tree.eK) : Pure Tryz.prog 20 [.agg [.sl [.agg [.int .i64 0, .sl [.agg [.int .u64 (x.dv.n : Int), .str x.dv.s, .sl (x.dv.m.map Tree.av)]]]], .sl []]] (.bool x.tree.small) := by
 have := wv x.tree hb
 simp only [aS.tree, Tree.cells, Tree.aO, Tree.rest, List.map_cons, List.map_nil, Slot.bC, Slot.cells, Slot.num, Slot.ag, bF.bC, bF.cells] at this
 exact this
theorem gZ {l : List aw} {n : Int} (h : 500 ≤ n) : nv l n = n := by
 cases l with
 | nil => rfl
 | cons s l => unfold nv; rw [if_neg (by omega)]
theorem ES (l : List aS) (hl : l.length ≤ 140737488355328) (hb : ∀ x ∈ l, x.names.length ≤ 140737488355328 ∧ x.tree.eK) : Pure Tryz.prog 22 [.sl (l.map aS.av)] (.bool (iQ l)) := by
 refine Pure.go II mixed Tryz.func22 rfl rfl fun H => (aG.lq [.s 3, .h, .s 0] (fun (i : Nat) => [(.s 3, .sv (.v (.int .i64 (i : Int))))]) (fun (i : Nat) => ((l.take 41).drop i).all aS.lit = (l.take 41).all aS.lit) (fun (i : Nat) => l.length - i) 0 rfl rfl rfl ?_)
 rintro i hI
 refine aC (fun hg1 => ?_) (fun hg1 => ?_)
 ·have hi := cz hg1
  have hnm := (hb _ (List.getElem_mem hi)).1
  refine aC (fun hc2 => ?_) (fun hc2 => ?_)
  ·refine aB.ii rfl mN rfl rfl (dS (fun _ => rfl) hi) rfl (aG.lq [.s 6, .s 5, .h, .s 0, .s 3, .s 4, .b 4] (fun ((k, n) : Nat × Int) => [(.s 6, .sv (.v (.int .i64 (k : Int)))), (.s 5, .sv (.v (.int .i64 n)))]) (fun ((k, n) : Nat × Int) => nv ((l[i]'hi).names.drop k) n = nv (l[i]'hi).names (l[i]'hi).CD) (fun ((k, n) : Nat × Int) => (l[i]'hi).names.length - k) (0, _) rfl rfl (by simp [aS.CD]) ?_)
   rintro ⟨k, n⟩ hK
   refine aC (fun hg3 => ?_) (fun hg3 => ?_)
   ·have hk := cz hg3
    have hS := @yo (l[i]'hi).names k n hk
    refine aC (fun hc4 => ?_) (fun hc4 => ?_)
    ·exact aB.ii rfl cY rfl rfl (ca hk) rfl (.b1 6 rfl (inc (by omega)) rfl ⟨(k + 1, _), (by dsimp only; omega), by grind, rfl⟩)
    ·refine aC (fun hg5 => ?_) (fun hg5 => ?_)
     ·exact cD rfl rfl rfl (congrArg AV.bool (oB hi (by have := of_decide_eq_true hc2; omega) hI (by unfold aS.lit; grind [gY, gZ])).symm)
     ·refine aB.jc rfl (Fn rfl) rfl (A5 (l[i]'hi) (hb _ (List.getElem_mem hi)).2) (aC (fun hc6 => ?_) (fun hc6 => ?_))
      ·exact cD rfl rfl rfl (congrArg AV.bool (oB hi (by have := of_decide_eq_true hc2; omega) hI (by unfold aS.lit; grind [gY, gZ])).symm)
      ·exact .b1 3 rfl (inc (by omega)) rfl ⟨i + 1, by omega, rP hi (by have := of_decide_eq_true hc2; omega) hI (by unfold aS.lit; grind [gY, gZ]), rfl⟩
   ·have hk := dA hg3
    have hS := @gY (l[i]'hi).names k n hk
    refine aC (fun hg7 => ?_) (fun hg7 => ?_)
    ·exact cD rfl rfl rfl (congrArg AV.bool (oB hi (by have := of_decide_eq_true hc2; omega) hI (by unfold aS.lit; grind [gY, gZ])).symm)
    ·refine aB.jc rfl (Fn rfl) rfl (A5 (l[i]'hi) (hb _ (List.getElem_mem hi)).2) (aC (fun hc8 => ?_) (fun hc8 => ?_))
     ·exact cD rfl rfl rfl (congrArg AV.bool (oB hi (by have := of_decide_eq_true hc2; omega) hI (by unfold aS.lit; grind [gY, gZ])).symm)
     ·exact .b1 3 rfl (inc (by omega)) rfl ⟨i + 1, by omega, rP hi (by have := of_decide_eq_true hc2; omega) hI (by unfold aS.lit; grind [gY, gZ]), rfl⟩
  ·exact aN rfl rfl rfl (rQ (.inr (by have := of_decide_eq_false hc2; omega)) hI)
 ·have hi := dA hg1
  exact aN rfl rfl rfl (rQ (.inl hi) hI)
theorem oA {l : List aS} (h : iQ l = true) : l.length ≤ 40 ∧ ∀ x ∈ l, x.lit = true := by
 simp only [iQ, Bool.and_eq_true, decide_eq_true_eq] at h
 rw [List.take_of_length_le (by omega), List.all_eq_true] at h
 exact ⟨h.2, h.1⟩
structure aS.lens (x : aS) : Prop where
 b : x.eK
 t : x.tree.eK
 n : x.names.length ≤ 140737488355328
 m : x.msg.length ≤ 140737488355328
 f : x.field.length ≤ 140737488355328
 d : x.dest.length ≤ 140737488355328
 a : x.also.length ≤ 140737488355328
 s : x.dv.s.length ≤ 140737488355328
 u : x.dv.n < 18446744073709551616
theorem Cn {x : aS} (h : x.lens) (hl : x.lit = true) : x.names.length ≤ 1000 := by
 apply Classical.byContradiction
 intro hn
 simp only [aS.lit, Bool.not_eq_true', Bool.or_eq_false_iff, decide_eq_false_iff_not] at hl
 have h1 := h.n; have h2 := h.m; have h3 := h.f; have h4 := h.d; have h5 := h.a
 have e : x.CD = (x.msg.length : Int) + x.field.length + x.dest.length + x.also.length + 10 * x.names.length := by
  unfold aS.CD
  show IntKind.i64.wrap _ = _
  repeat rw [show dc = IntKind.i64.wrap from rfl]
  rw [fI (n := (x.msg.length : Int) + (x.field.length : Int)) (by omega) (by omega), fI (n := (x.msg.length : Int) + (x.field.length : Int) + (x.dest.length : Int)) (by omega) (by omega), fI (n := (x.msg.length : Int) + (x.field.length : Int) + (x.dest.length : Int) + (x.also.length : Int)) (by omega) (by omega), fI (n := 10 * (x.names.length : Int)) (by omega) (by omega), fI (by omega) (by omega)]
 have : 500 ≤ x.CD := by omega
 rw [gZ this] at hl
 exact hl.1 this
structure m5 (s : aL) (l : List aS) : Prop where
 s : s.lens
 n : l.length ≤ 140737488355328
 b : ∀ x ∈ l, x.lens
def kL (s : aL) (l : List aS) : AV := .agg [.sl (s.enums.map eQ.av), .sl (s.msgs.map aU.av), .sl (l.map aS.av)]
def gp (s : aL) (l : List aS) (ts : List Tree) : Bool := ts.all Tree.small && (s.small && iQ l)
theorem m5.steps {s : aL} {l : List aS} (h : m5 s l) (hs : iQ l = true) : ∀ x ∈ l, x.eK ∧ x.names.length ≤ 1000 := fun x hx => ⟨(h.b x hx).b, Cn (h.b x hx) ((oA hs).2 x hx)⟩
theorem J5 {l : List Tree} {i : Nat} (hi : i < l.length) (hI : (l.drop i).all Tree.small = l.all Tree.small) (h : l[i].small = true) : (l.drop (i + 1)).all Tree.small = l.all Tree.small := by
 rw [List.drop_eq_getElem_cons hi, List.all_cons, h, Bool.true_and] at hI; exact hI
theorem No {s : aL} {ls : List aS} {l : List Tree} {i : Nat} (hi : i < l.length) (hI : (l.drop i).all Tree.small = l.all Tree.small) (h : l[i].small = false) : false = gp s ls l := by
 rw [List.drop_eq_getElem_cons hi, List.all_cons, h, Bool.false_and] at hI
 unfold gp; rw [← hI]; rfl
theorem G6 {s : aL} {ls : List aS} {l : List Tree} {i : Nat} (hi : l.length ≤ i) (hI : (l.drop i).all Tree.small = l.all Tree.small) : gp s ls l = (s.small && iQ ls) := by
 rw [List.drop_of_length_le hi] at hI
 unfold gp; rw [← hI]; rfl
theorem E4 (s : aL) (l : List aS) (ts : List Tree) (hc : m5 s l) (ht : ∀ t ∈ ts, t.eK) (hn : ts.length ≤ 9223372036854775807) : Pure Tryz.prog 7 [kL s l, .sl (ts.map Tree.av)] (.bool (gp s l ts)) := by
 have e0 : kL s l = .agg [.sl (s.enums.map eQ.av), .sl (s.msgs.map aU.av), .sl (l.map aS.av)] := rfl
 refine Pure.go II mixed Tryz.func7 rfl rfl fun H => (aG.lq [.s 5, .h, .s 1, .s 2, .b 2] (fun (i : Nat) => [(.s 5, .sv (.v (.int .i64 (i : Int))))]) (fun (i : Nat) => (ts.drop i).all Tree.small = ts.all Tree.small) (fun (i : Nat) => ts.length - i) 0 rfl rfl rfl ?_)
 rintro i hI
 refine aC (fun hc1 => ?_) (fun hc1 => ?_)
 ·have hi := cz hc1
  refine aB.ii rfl lQ rfl rfl (dS Tree.bC hi) rfl (aB.jc rfl (Fn rfl) rfl (wv (ts[i]'hi) (ht _ (List.getElem_mem hi))) (aC (fun hc2 => ?_) (fun hc2 => ?_)))
  ·exact aN rfl rfl rfl (No hi hI (by simpa using hc2))
  ·exact .b1 5 rfl (inc (by omega)) rfl ⟨i + 1, by omega, J5 hi hI (by simpa using hc2), rfl⟩
 ·have hi := dA hc1
  refine aB.jc rfl (Fn rfl) rfl (IC s hc.s) (aC (fun hg3 => ?_) (fun hg3 => ?_))
  ·exact aB.jc rfl (Fn rfl) rfl (ES l hc.n (fun x hx => ⟨(hc.b x hx).n, (hc.b x hx).t⟩)) (cD rfl rfl rfl (congrArg AV.bool ((G6 hi hI).trans (by rw [show s.small = true from (by simpa using hg3), Bool.true_and])).symm))
  ·exact cD rfl rfl rfl (congrArg AV.bool ((G6 hi hI).trans (by rw [show s.small = false from (by simpa using hg3), Bool.false_and])).symm)
theorem ry {s : aL} {l : List aS} {L : List aL} (hs : s.eK) (hb : ∀ x ∈ l, x.eK ∧ x.names.length ≤ 1000) (hl : l.length ≤ 9223372036854775807) (h : s.all l = .ok L) : Pure Tryz.prog 26 [s.av, .sl (l.map aS.av)] (.tup [cA (lower s l), .int .i64 0]) := by
 have := IN s l hs hb hl
 unfold lO at this
 rw [h] at this; exact this
theorem Bf : ∀ {l : List aS} {s : aL} {acc L : List aL}, aL.dy l s acc = .ok L → L.length = acc.length + l.length
 | [], _, _, _, h => by cases h; rfl
 | x :: l, s, acc, L, h => by
  unfold aL.dy at h
  split at h
  ·have := Bf h; simp at this ⊢; omega
  ·cases h
theorem AR {s : aL} {l : List aS} {L : List aL} (h : s.all l = .ok L) : L.length = l.length + 1 := by
 unfold aL.all at h
 split at h
 ·cases h
 ·split at h
  ·cases h
  ·have := Bf h; simpa [Nat.add_comm] using this
theorem JT {s : aL} {l : List aS} {L : List aL} (h : s.all l = .ok L) : (L.map aL.av)[(((l.map aS.av).length : Nat) : Int).toNat]? = some (.agg (L.getD l.length oG).cells) := by
 have hL := AR h
 rw [Int.toNat_natCast, List.length_map, List.getElem?_map, List.getD_eq_getElem?_getD, List.getElem?_eq_getElem (by omega)]; rfl
open Go Go.RowKit

def FF (ro : Option Nat) : Fence := { Fence.wide with round := ro }
def vp (o : Oper) : Bool := match o.op with | .defer _ => false | _ => true
theorem BM {o : Oper} (h : vp o = true) : ∀ c, o.op ≠ .defer c := fun c e => by unfold vp at h; rw [e] at h; cases h
theorem rD {ro : Option Nat} {P : Program} {o : Oper} {a : Act} {w : World} {K : Act → World → Prop} {Q : Exit → Act → World → Prop} (hd : vp o = true) (h : o.wp P a w K Q) : o.wpIn (FF ro) 3 P a w K Q := by
 refine ⟨fun _ _ => trivial, ?_⟩
 rw [Oper.semAt_eq _ _ _ (BM hd)]
 unfold Oper.wp at h
 generalize (execOp a.eval o).run P w = r at h ⊢
 cases r with
 | ok x w' =>
  cases x <;> simp only [Oper.upon, Oper.uponIn] at h ⊢ <;> first | exact h | skip
  ·exact ⟨fun _ => by omega, callsIn_wide.2 h⟩
  ·exact ⟨fun _ => by omega, fun c cs _ => let ⟨v, w2, r, s⟩ := h c cs; ⟨v, w2, r, stepsIn_wide.2 s⟩⟩
 | halt x w' => cases x <;> simp only [Oper.upon, Oper.uponIn] at h ⊢ <;> exact h
def mX (E : eB) (ro : Option Nat) (P : Program) (N : Nat) (ops : Array Oper) (o : Oper) (s : St) (R : List aI) (ws : St) : Prop :=
 ∀ t, Reads R s t → ∀ G L a w, Rel E N G L a w t → ∀ (K : Act → World → Prop) (Q : Exit → Act → World → Prop),
  (∀ a' w' G' L', Rel E N G' L' a' w' (ws ++ t) → K a' w') → if Region.wanted o (yielded ops a.tmps) then o.wpIn (FF ro) 3 P a w K Q else K (a.put o.dst undef) w
def PI (E : eB) (ro : Option Nat) (P : Program) (N : Nat) (o : Oper) (s : St) (R : List aI) (ws : St) : Prop :=
 ∀ t, Reads R s t → ∀ G L a w, Rel E N G L a w t → ∀ (K : Act → World → Prop) (Q : Exit → Act → World → Prop),
  (∀ v w' G' L', Rel E N G' L' (a.put o.dst v) w' (ws ++ t) → K (a.put o.dst v) w') → o.wpIn (FF ro) 3 P a w K Q
def ar (E : eB) (ro : Option Nat) (P : Program) (N : Nat) (c : Code) (s : St) (Q : Exit → St → Prop) : Prop :=
 ∀ a w, Fits E N s a w → c.wpIn (FF ro) 3 P (fun e a' w' => ∃ s', Fits E N s' a' w' ∧ Q e s') a w
section
variable {P : Program} {N : Nat} {ops : Array Oper} {s : St} {E : eB} {ro : Option Nat}
theorem mX.of {o : Oper} {R : List aI} {ws : St} (hd : vp o = true) (h : bq P N ops o s R ws) : mX E ro P N ops o s R ws := by
 intro t hR G L a w hr K Q hK
 have := h t hR E G L a w hr K Q hK
 split
 ·rename_i hw; rw [if_pos hw] at this; exact rD hd this
 ·rename_i hw; rw [if_neg hw] at this; exact this
theorem mX.on {o : Oper} {R : List aI} {ws : St} {d : Nat} {b : Bool} (hN : d < N) (hg : gL ops o = some (d, b)) (hc : get s (.s d) = some (.sv (.v (.bool b)))) (h : PI E ro P N o s R ws) : mX E ro P N ops o s (.s d :: R) ws := by
 intro t hR G L a w hr K Q hK
 rw [m7 hr hN hg (by rw [hR (.s d) (List.mem_cons_self ..)]; exact hc), beq_self_eq_true, if_pos rfl]
 exact h t (hR.mono fun c hc => List.mem_cons_of_mem _ hc) G L a w hr K Q fun v w' G' L' hr' => hK _ _ G' L' hr'
end
inductive ng (E : eB) (ro : Option Nat) (P : Program) (N : Nat) (ops : Array Oper) : List Oper → St → List (List aI × St) → St → Prop where
 | nil (s : St) : ng E ro P N ops [] s [] s
 | cons {o : Oper} {l : List Oper} {s : St} {R : List aI} {ws : St} {rs : List (List aI × St)} {s' : St} : mX E ro P N ops o s R ws → ng E ro P N ops l (ws ++ s) rs s' → ng E ro P N ops (o :: l) s ((R, ws) :: rs) s'
section
variable {P : Program} {N : Nat} {ops : Array Oper}
theorem ng.spec {E : eB} {ro : Option Nat} {l : List Oper} {s s' : St} {rs : List (List aI × St)} (h : ng E ro P N ops l s rs s') : l.length = rs.length ∧ (∀ (i : Nat) o, l[i]? = some o → ∃ R ws s1, rs[i]? = some (R, ws) ∧ mX E ro P N ops o s1 R ws ∧ ∀ (c : aI) (k : Nat), get s1 c = get (lX (fun j => decide (j < k + i)) k rs s) c) ∧ ∀ (c : aI) (k : Nat), get s' c = get (lX (fun _ => true) k rs s) c := by
 induction h with
 | nil s => exact ⟨rfl, fun i o h => by simp at h, fun c k => rfl⟩
 | @cons o l s R ws rs s' hs _ ih =>
  obtain ⟨h1, h2, h3⟩ := ih
  refine ⟨by simp [h1], fun i o' hi => ?_, fun c k => ?_⟩
  ·cases i with
   | zero =>
    simp at hi; subst hi
    refine ⟨R, ws, s, rfl, hs, fun c k => ?_⟩
    have : get (lX (fun j => decide (j < k + 0)) k ((R, ws) :: rs) s) c = get (lX (fun _ => false) k ((R, ws) :: rs) s) c := by
     refine db c _ k _ _ _ _ rfl fun i r _ _ => ?_
     simp
    rw [this]
    have hid : ∀ (rs : List (List aI × St)) (k : Nat) (u : St), lX (fun _ => false) k rs u = u := by
     intro rs
     induction rs with
     | nil => intro k u; rfl
     | cons q rs ih => intro k u; simp only [lX]; exact ih _ _
    rw [hid]
   | succ i =>
    obtain ⟨R', ws', s1, q1, q2, q3⟩ := h2 i o' (by simpa using hi)
    refine ⟨R', ws', s1, by simpa using q1, q2, fun c k => ?_⟩
    rw [q3 c (k + 1)]
    have : decide (k < k + (i + 1)) = true := by simp
    simp only [lX, this, if_true]
    rw [show k + 1 + i = k + (i + 1) by omega]
  ·rw [h3 c (k + 1)]
   simp only [lX, if_true]
theorem tg {ro : Option Nat} {i : Nat} {o : Oper} (hi : ops[i]? = some o) {K : Act → World → Prop} {Q : Exit → Act → World → Prop} {a : Act} {w : World} (h : if Region.wanted o (yielded ops a.tmps) then o.wpIn (FF ro) 3 P a w K Q else K (a.put o.dst undef) w) : wpOpIn (FF ro) 3 P ops Q i K a w := by
 unfold wpOpIn
 simp only [hi]
 split
 ·rename_i hw; rw [if_pos hw] at h; exact h
 ·rename_i hw; rw [if_neg hw] at h; exact ⟨fun _ _ => trivial, h⟩
theorem ar.draw {E : eB} {ro : Option Nat} {s s' : St} {id : Nat} {l : List Oper} {rs : List (List aI × St)} {Q : Exit → St → Prop} (hm : P.follows .mixedOrders = true) (hc : ng E ro P N l.toArray l s rs s') (hback : fU 0 (l.map dD) = true) (hord : gE 0 rs (qi [] (l.map dD)) = true) (hQ : Kept s' (Q .normal)) :
  ar E ro P N (.region id l.toArray true) s Q := by
 intro a w ⟨G, L, hr⟩
 obtain ⟨hlen, hstep, hend⟩ := hc.spec
 have hsize : l.toArray.size = l.length := by simp
 have hop : ∀ (i : Nat) o, l.toArray[i]? = some o → l[i]? = some o := fun i o h => by simpa using h
 have hbk : ∀ i o, l.toArray[i]? = some o → ∀ e ∈ dD o, e < i := fun i o h e he => by
  have := pn hback i (dD o) (by simp [hop i o h]) e he
  omega
 refine wpIn_region_any hm ?_
 have hr0 : Rel E N G L a { w with drawn := w.drawn + 1 } s := by
  obtain ⟨H0, gH, hokH, hmayH⟩ := hr.heap
  have hst := hokH.stay (w' := { w with drawn := w.drawn + 1 }) (Gh.le.refl G) rfl (fun b hb => (hokH.aa hb).2) (fun _ _ => rfl) (Nat.le_refl _)
  refine ⟨hr.size, hr.defs, hr.ge, hr.kn, hr.old, hr.obs, hr.obn, ⟨hr.fr.os, hr.fr.tape, hr.fr.output, hr.fr.size, hr.fr.block⟩, hr.slot, hr.box, hr.tok, hr.disj, ⟨H0, gH, hst.1, fun b hb => hmayH b ((hst.2 b).1 hb)⟩, fun c b hc H2 g2 e2 => ?_, hr.nobox, hr.notok⟩
  rw [gH] at g2; cases g2
  exact hr.hdisj c b hc _ gH ((hst.2 b).1 e2)
 -- whatever has come up: the state behind it
 have key : ∀ (fuel : Nat) (listed : Array Bool) (t : St) (a : Act) (w : World), listed.size = l.length →
   (∀ j o, l[j]? = some o → listed.getD j false = true → ∀ e ∈ dD o, listed.getD e false = true) → (∀ c, get t c = get (lX (fun j => listed.getD j false) 0 rs s) c) → Fits E N t a w →
   (l.length ≤ fuel + yc listed.toList) → wpAnyIn (FF ro) 3 P .any l.toArray (fun e a' w' => ∃ s', Fits E N s' a' w' ∧ Q e s') fuel listed a w := by
  have fin : ∀ (listed : Array Bool) (t : St) (a : Act) (w : World), listed.size = l.length → (∀ c, get t c = get (lX (fun j => listed.getD j false) 0 rs s) c) → Fits E N t a w → Region.ready .any l.toArray listed = [] → ∃ s', Fits E N s' a w ∧ Q .normal s' := by
   intro listed t a w hsz ht ⟨G, L, hr⟩ hnil
   have hall := uR (by rw [hsz, hsize]) hbk hnil
   refine hQ E N a w ⟨G, L, hr.ext fun c => ?_⟩
   rw [ht c, hend c 0]
   refine db c rs 0 _ _ _ _ rfl fun i r hi _ => ?_
   have hlt : i < rs.length := (List.getElem?_eq_some_iff.1 hi).1
   simp only [Nat.zero_add]
   exact (hall i (by rw [hsize]; omega)).symm
  intro fuel
  induction fuel with
  | zero =>
   intro listed t a w hsz hcl ht hf hcount
   have hnil : Region.ready .any l.toArray listed = [] := by
    cases hrd : Region.ready .any l.toArray listed with
    | nil => rfl
    | cons i r =>
     exfalso
     have hi : i ∈ Region.ready .any l.toArray listed := by rw [hrd]; exact List.mem_cons_self ..
     unfold Region.ready at hi
     rw [List.mem_filter] at hi
     have h1 : listed.getD i true = false := by
      have := hi.2
      simp only [Bool.and_eq_true, Bool.not_eq_true'] at this
      exact this.1
     have hlt : i < listed.size := by
      rcases Nat.lt_or_ge i listed.size with h | h
      ·exact h
      ·rw [Array.getD_eq_getD_getElem?, Array.getElem?_eq_none h] at h1; cases h1
     have h2 : listed[i] = false := by
      rw [Array.getD_eq_getD_getElem?, Array.getElem?_eq_getElem hlt] at h1; simpa using h1
     have h3 := vz listed.toList i (by rw [Array.getElem?_toList, Array.getElem?_eq_getElem hlt, h2])
     have h4 : listed.toList.length = listed.size := Array.length_toList
     omega
   exact ⟨hnil, fin listed t a w hsz ht hf hnil⟩
  | succ fuel ih =>
   intro listed t a w hsz hcl ht ⟨G, L, hr⟩ hcount
   refine ⟨fun hnil => fin listed t a w hsz ht ⟨G, L, hr⟩ hnil, fun i hi => ?_⟩
   unfold Region.ready at hi
   rw [List.mem_filter] at hi
   obtain ⟨hi1, hi2⟩ := hi
   simp only [Bool.and_eq_true, Bool.not_eq_true'] at hi2
   have hlt : i < l.length := by simpa using hi1
   have hlt' : i < listed.size := by omega
   have hli : listed[i] = false := by
    have := hi2.1
    rw [Array.getD_eq_getD_getElem?, Array.getElem?_eq_getElem hlt'] at this; simpa using this
   have hlif : listed.getD i false = false := by rw [Array.getD_eq_getD_getElem?, Array.getElem?_eq_getElem hlt']; simpa using hli
   have ho : l[i]? = some l[i] := List.getElem?_eq_getElem hlt
   obtain ⟨R, ws, s1, q1, q2, q3⟩ := hstep i l[i] ho
   -- what it waits for has come up
   have hedge : ∀ e ∈ dD l[i], listed.getD e false = true := by
    intro e he
    have h2 := hi2.2
    simp only [List.getElem?_toArray, ho, Option.map_some, Option.getD_some] at h2
    rw [Array.all_eq_true'] at h2
    unfold dD at he
    obtain ⟨x, hx, rfl⟩ := List.mem_map.1 he
    obtain ⟨hx1, hx2⟩ := List.mem_filter.1 hx
    have := h2 x (Array.mem_toList_iff.1 hx1)
    simpa [hx2] using this
   -- closed under what is waited for
   have hanc : ∀ (j : Nat), (j = i ∨ listed.getD j false = true) → j < l.length → ∀ k ∈ (qi [] (l.map dD)).getD j [], listed.getD k false = true := by
    intro j
    induction j using Nat.strongRecOn with
    | _ j ihj =>
     intro hj hjl k hk
     have hoj : l[j]? = some l[j] := List.getElem?_eq_getElem hjl
     obtain ⟨x, hx1, hx2⟩ := po (l.map dD) [] j (dD l[j]) (by simp [hjl])
     simp only [List.length_nil, Nat.zero_add] at hx1 hx2
     have hk' : k ∈ x := by rw [List.getD_eq_getElem?_getD, hx1] at hk; exact hk
     have hej : ∀ e ∈ dD l[j], listed.getD e false = true := by
      rcases hj with rfl | hj
      ·exact hedge
      ·exact hcl j l[j] hoj hj
     rcases hx2 k hk' with h | ⟨m, hm1, y, hy, hmlt, hky⟩
     ·exact hej k h
     ·refine ihj m hmlt (.inr (hej m hm1)) (by omega) k ?_
      rw [List.getD_eq_getElem?_getD, hy]; exact hky
   have hrlt : ∀ (j : Nat) q, rs[j]? = some q → j < l.length := fun j q h => by have := (List.getElem?_eq_some_iff.1 h).1; omega
   have hreads : Reads R s1 t := by
    intro c hc
    rw [ht c, q3 c 0]
    refine db c rs 0 _ _ _ _ rfl fun j q hj hne => ?_
    simp only [Nat.zero_add]
    have hwc := pU hne
    by_cases hji : j < i
    ·have hcf : na q (R, ws) = true := by
      simp only [na, Bool.or_eq_true]
      exact .inl (k6 hwc (List.mem_append.2 (.inl hc)))
     have hmem := jQ hord j i q (R, ws) hji hj q1 hcf
     simp only [Nat.zero_add] at hmem
     rw [hanc i (.inl rfl) hlt j hmem]
     simp [hji]
    ·by_cases hje : j = i
     ·subst hje
      rw [hlif]; simp
     ·have hcf : na (R, ws) q = true := by
       simp only [na, Bool.or_eq_true]
       exact .inr (k6 hc hwc)
      cases hlj : listed.getD j false with
      | false => simp [hji]
      | true =>
       exfalso
       have hmem := jQ hord i j (R, ws) q (by omega) q1 hj hcf
       simp only [Nat.zero_add] at hmem
       have := hanc j (.inr hlj) (hrlt j q hj) i hmem
       rw [hlif] at this; cases this
   refine tg (by simp [ho]) (q2 t hreads G L a w hr _ _ fun a' w' G' L' hr' => ?_)
   have hset : ∀ j, (listed.setIfInBounds i true).getD j false = if j = i then true else listed.getD j false := by
    intro j
    rw [Array.getD_eq_getD_getElem?, Array.getD_eq_getD_getElem?]
    by_cases hj : j = i
    ·subst hj
     rw [Array.getElem?_setIfInBounds_self_of_lt hlt']; simp
    ·rw [Array.getElem?_setIfInBounds_ne (Ne.symm hj), if_neg hj]
   refine ih (listed.setIfInBounds i true) (ws ++ t) a' w' (by simpa using hsz) ?_ ?_ ⟨G', L', hr'⟩ ?_
   ·intro j o hj hlj e he
    rw [hset] at hlj ⊢
    split
    ·rfl
    ·by_cases hji : j = i
     ·subst hji
      rw [ho] at hj; cases hj
      exact hedge e he
     ·rw [if_neg hji] at hlj
      exact hcl j o hj hlj e he
   ·intro c
    have hf : (fun j => (listed.setIfInBounds i true).getD j false) = fun j => if j = i then true else listed.getD j false := funext hset
    rw [hf, get_append]
    cases hw : get ws c with
    | none =>
     simp only
     rw [ht c]
     refine db c rs 0 _ _ _ _ rfl fun j q hj hne => ?_
     simp only [Nat.zero_add]
     by_cases hji : j = i
     ·subst hji
      rw [q1] at hj; cases hj
      exact absurd hw hne
     ·rw [if_neg hji]
    | some v =>
     simp only
     symm
     refine rN c rs 0 _ s i (R, ws) v q1 (by simp) hw fun j q hij hj hfj => ?_
     simp only [Nat.zero_add] at hfj
     rw [if_neg (by omega)] at hfj
     cases hqc : get q.2 c with
     | none => rfl
     | some u =>
      exfalso
      have hwc : c ∈ cw (R, ws) := pU (by rw [hw]; simp)
      have hqw : c ∈ cw q := pU (by rw [hqc]; simp)
      have hcf : na (R, ws) q = true := by
       simp only [na, Bool.or_eq_true]
       exact .inl (k6 hwc (List.mem_append.2 (.inr hqw)))
      have hmem := jQ hord i j (R, ws) q hij q1 hj hcf
      simp only [Nat.zero_add] at hmem
      have := hanc j (.inr hfj) (hrlt j q hj) i hmem
      rw [hlif] at this; cases this
   ·have e1 : (listed.setIfInBounds i true).toList = listed.toList.set i true := by simp
    have hcnt := qz listed.toList i (by rw [Array.getElem?_toList, Array.getElem?_eq_getElem hlt', hli])
    rw [e1, hcnt]
    omega
 have h0 := key l.length (Array.replicate l.length false) s a { w with drawn := w.drawn + 1 } (by simp) (fun j o hj hlj => by
  rw [Array.getD_eq_getD_getElem?] at hlj
  have hj' := (List.getElem?_eq_some_iff.1 hj).1
  simp [hj'] at hlj) (fun c => by
  have : get (lX (fun j => (Array.replicate l.length false).getD j false) 0 rs s) c = get (lX (fun _ => false) 0 rs s) c := by
   refine db c rs 0 _ _ _ _ rfl fun j q hj _ => ?_
   have hj' := (List.getElem?_eq_some_iff.1 hj).1
   have : j < l.length := by omega
   simp [Array.getD_eq_getD_getElem?, this]
  rw [this]
  have hid : ∀ (rs : List (List aI × St)) (k : Nat) (u : St), lX (fun _ => false) k rs u = u := by
   intro rs
   induction rs with
   | nil => intro k u; rfl
   | cons q rs ih => intro k u; simp only [lX]; exact ih _ _
  rw [hid]) ⟨G, L, hr0⟩ (by omega)
 simpa using h0

end
section
variable {P : Program} {N : Nat} {s : St} {E : eB} {ro : Option Nat} {Q : Exit → St → Prop}
theorem lj {ops : Array Oper} {QQ : Exit → Act → World → Prop} (hq : ¬ LetsOut QQ) : ∀ {l : List Oper} {a : Act} {w : World}, l.all vp = true → wpList P ops QQ l a w → wpListIn (FF ro) 3 P ops QQ l a w
 | [], a, w, _, h => h
 | o :: l, a, w, hd, h => by
  rw [List.all_cons, Bool.and_eq_true] at hd
  unfold wpList at h
  unfold wpListIn
  split
  ·rename_i hw
   rw [if_pos hw] at h
   rcases h with h | h
   ·exact rD hd.1 (Oper.wp_mono (fun a w => lj hq hd.2) h)
   ·exact absurd h.2 hq
  ·rename_i hw
   rw [if_neg hw] at h
   exact ⟨fun _ _ => trivial, lj hq hd.2 h⟩
theorem ar.mono {c : Code} {Q' : Exit → St → Prop} (h : ar E ro P N c s Q) (hq : ∀ e s', Q e s' → Q' e s') : ar E ro P N c s Q' :=
 fun a w hf => wpIn_mono (h a w hf) fun e _ _ ⟨s', h1, h2⟩ => ⟨s', h1, hq e s' h2⟩
theorem ar.region {id : Nat} {l : List Oper} (h : aD P N l.toArray l s (Q .normal)) (hd : l.all vp = true := by rfl) : ar E ro P N (.region id l.toArray false) s Q := by
 intro a w hf
 refine wpIn_mono (wpIn_region_lit (lj (QQ := fun e a' w' => e = .normal ∧ ∃ s', Fits E N s' a' w' ∧ Q .normal s') ?_ hd (h E a w hf _ fun a' w' s' h1 h2 => ⟨rfl, s', h1, h2⟩))) ?_
 ·rintro ⟨a, w, h, _⟩; cases h
 ·rintro e a' w' ⟨rfl, h⟩; exact h
theorem ar.seq {c d : Code} (h : ar E ro P N c s fun e s' => match e with | .normal => ar E ro P N d s' Q | e => Q e s') : ar E ro P N (.seq c d) s Q := by
 intro a w hf
 refine wpIn_seq (wpIn_mono (h a w hf) ?_)
 rintro e a' w' ⟨s', h1, h2⟩
 cases e with
 | normal => exact h2 a' w' h1
 | _ => exact ⟨s', h1, h2⟩
theorem ar.skip (h : Q .normal s) : ar E ro P N .skip s Q := fun a w hf => wpIn_skip ⟨s, hf, h⟩
theorem ar.exit {id : Nat} (h : Q (.exit id) s) : ar E ro P N (.exit id) s Q := fun a w hf => wpIn_exit ⟨s, hf, h⟩
theorem ar.block {id : Nat} {c : Code} (h : ar E ro P N c s fun e s' => match e with | .exit id' => if id' = id then Q .normal s' else Q (.exit id') s' | e => Q e s') : ar E ro P N (.block id c) s Q := by
 intro a w hf
 refine wpIn_block (wpIn_mono (h a w hf) ?_)
 rintro e a' w' ⟨s', h1, h2⟩
 cases e with
 | exit id' =>
  simp only [Exit.inBlock] at h2 ⊢
  split
  ·rename_i hid; rw [if_pos hid] at h2; exact ⟨s', h1, h2⟩
  ·rename_i hid; rw [if_neg hid] at h2; exact ⟨s', h1, h2⟩
 | _ => exact ⟨s', h1, h2⟩
theorem ar.cond {t : Nat} {c d : Code} {b : Bool} (hc : get s (.s t) = some (.sv (.v (.bool b)))) (h1 : b = true → ar E ro P N c s Q) (h2 : b = false → ar E ro P N d s Q) : ar E ro P N (.cond (.tmp t) c d) s Q := by
 intro a w ⟨G, L, hr⟩
 exact wpIn_cond_split (uL hr hc) (fun e => h1 e a w ⟨G, L, hr⟩) (fun e => h2 e a w ⟨G, L, hr⟩)
theorem ar.q7 {t : Nat} {c d : Code} {b : Bool} (hc : get s (.s t) = some (.sv (.v (.bool b)))) (hb : b = false) (h : ar E ro P N d s Q) : ar E ro P N (.cond (.tmp t) c d) s Q :=
 ar.cond hc (fun e => by rw [hb] at e; cases e) (fun _ => h)
theorem ar.loop {c : Code} (T : Nat → St → Prop) (hT : ∀ n s, T n s → ar E ro P N c s fun e s' => match e with | .normal => ∃ m, m < n ∧ T m s' | e => Q e s') {n : Nat} (h0 : T n s) : ar E ro P N (.loop c) s Q := by
 intro a w hf
 have key : ∀ (k n : Nat) (s : St) (a : Act) (w : World), n < k → T n s → Fits E N s a w → Code.roundsIn (FF ro) 3 P c (fun e a' w' => ∃ s', Fits E N s' a' w' ∧ Q e s') k a w := by
  intro k
  induction k with
  | zero => intro n s a w h; omega
  | succ k ih =>
   intro n s a w hk hT1 hf1
   unfold Code.roundsIn
   refine wpIn_mono (hT n s hT1 a w hf1) ?_
   rintro e a' w' ⟨s', h1, h2⟩
   cases e with
   | normal =>
    obtain ⟨m, hlt, hTm⟩ := h2
    exact ih m s' a' w' (by omega) hTm h1
   | _ => exact ⟨s', h1, h2⟩
 exact wpIn_loop_rounds (n + 1) (key (n + 1) n s a w (by omega) h0 hf)
theorem ar.cy {c : Code} (h : Kept s fun s' => ar E ro P N c s' Q) : ar E ro P N c s Q := by
 intro a w hf
 obtain ⟨s', h1, h2⟩ := h E N a w hf
 exact h2 a w h1
theorem aK.PN {c : Code} (h : aK P N c s Q) : ar E none P N c s Q := fun a w hf => wpIn_wide.2 (h E a w hf)
end
def bU (E : eB) (ro : Option Nat) (P : Program) (N : Nat) (ops : Array Oper) (A : List (List Nat)) (Q : St → Prop) (acc : List (List aI × St)) (l : List Oper) (s : St) : Prop := ∃ rs s', ng E ro P N ops l s rs s' ∧ gE 0 (acc ++ rs) A = true ∧ Kept s' Q
section
variable {P : Program} {N : Nat} {ops : Array Oper} {l : List Oper} {s : St} {Q : St → Prop} {o : Oper} {R : List aI} {E : eB} {ro : Option Nat} {A : List (List Nat)} {acc : List (List aI × St)}
theorem bU.nil (ho : gE 0 acc A = true) (hk : Kept s Q) : bU E ro P N ops A Q acc [] s := ⟨[], s, .nil s, by simpa using ho, hk⟩
theorem bU.cons {ws : St} (hs : mX E ro P N ops o s R ws) (h : bU E ro P N ops A Q (acc ++ [(R, ws)]) l (ws ++ s)) : bU E ro P N ops A Q acc (o :: l) s := by
 obtain ⟨rs, s', h1, h2, h3⟩ := h
 exact ⟨(R, ws) :: rs, s', .cons hs h1, by simpa using h2, h3⟩
theorem bU.c1 {c : aI} {v : CV} (hg : o.guard = none) (ho : aW P N o s R [(c, v)]) (h : bU E ro P N ops A Q (acc ++ [(R, [(c, v)])]) l ((c, v) :: s)) (hd : vp o = true := by rfl) : bU E ro P N ops A Q acc (o :: l) s := bU.cons (mX.of hd (bq.free hg ho)) h
theorem bU.g1 {c : aI} {v : CV} {d : Nat} {b b' : Bool} (hg : gL ops o = some (d, b)) (hN : d < N) (hc : get s (.s d) = some (.sv (.v (.bool b')))) (hb : b' = b) (ho : aW P N o s R [(c, v)]) (h : bU E ro P N ops A Q (acc ++ [(.s d :: R, [(c, v)])]) l ((c, v) :: s)) (hd : vp o = true := by rfl) : bU E ro P N ops A Q acc (o :: l) s := bU.cons (mX.of hd (bq.on hN hg (hb ▸ hc) ho)) h
theorem bU.h2 {c c' : aI} {v u : CV} {d : Nat} {b b' : Bool} (hg : gL ops o = some (d, b)) (hN : d < N) (hc : get s (.s d) = some (.sv (.v (.bool b')))) (hb : b' = b) (ho : PI E ro P N o s R [(c, v), (c', u)]) (h : bU E ro P N ops A Q (acc ++ [(.s d :: R, [(c, v), (c', u)])]) l ((c, v) :: (c', u) :: s)) : bU E ro P N ops A Q acc (o :: l) s := bU.cons (mX.on hN hg (hb ▸ hc) ho) h
theorem bU.split {d : Nat} {b : Bool} (hc : get s (.s d) = some (.sv (.v (.bool b)))) (h1 : b = true → bU E ro P N ops A Q acc l s) (h2 : b = false → bU E ro P N ops A Q acc l s) : bU E ro P N ops A Q acc l s := by
 cases b
 ·exact h2 rfl
 ·exact h1 rfl
end
theorem ar.drawn {P : Program} {N : Nat} {s : St} {E : eB} {ro : Option Nat} {id : Nat} {l : List Oper} {Q : Exit → St → Prop} (hm : P.follows .mixedOrders = true) (hback : fU 0 (l.map dD) = true) (h : bU E ro P N l.toArray (qi [] (l.map dD)) (Q .normal) [] l s) : ar E ro P N (.region id l.toArray true) s Q := by
 obtain ⟨rs, s', h1, h2, h3⟩ := h
 exact ar.draw hm h1 hback (by simpa using h2) h3

theorem Hu (ro : Option Nat) (n : Nat) : (FF ro).room n := fun _ h => by cases h
theorem Dg {ro : Option Nat} {n m : Nat} {P : Program} {c : Code} {Q : Exit → Act → World → Prop} {a : Act} {w : World} (h : c.wpIn (FF ro) n P Q a w) : c.wpIn (FF ro) m P Q a w :=
 fun b k cs h1 h2 _ => h b k cs h1 h2 (Hu _ _)
def PH (G : Gh) (w : World) (H : Hp) (r : AV) (H' : Hp) : Ending → World → Prop := fun e w' =>
 ∃ v G', e = .returned v ∧ V G' v r ∧ nf (aa G H w) G G' w ∧ fx G' w' ∧ dz G' w' H' ∧ Fr (aa G H w) w w' ∧ ∀ b, aa G' H' w' b → w.heap.size ≤ b ∨ aa G H w b
def YS (P : Program) (B : eB) (l : Nat) (args : List AV) (Ha Hb : Hp) : Prop :=
 ∀ G w cargs, GE ⟨G, w, aa G Ha w, []⟩ → fx G w → dz G w Ha → VL G cargs args → Fr B.M B.w0 w → nf B.M B.G0 G B.w0 → (∀ b, aa G Ha w b → B.may b) →
  YieldAt (FF none) 2 P l cargs w (PH G w Ha (.bool true) Hb)
section
variable {P : Program} {N : Nat} {s : St} {E : eB} {d : Nat} {ty : TypeId} {pos : String} {af : Array Edge} {g : Option (Nat × Bool)}
theorem Eu {x : Operand} {l : Nat} {xs : Array Operand} {tys : Array TypeId} {«as» : List AV} {H H' : Hp} (hN : d < N) (hx : cV x s = some (.yf l)) (ha : kY xs.toList s = some «as») (hH : get s .h = some (.hp H)) (hY : YS P E l «as» H H') :
  PI E none P N ⟨some d, .call { callee := .value x, args := xs, argTypes := tys }, ty, pos, af, g⟩ s ((rd x ++ nO xs.toList) ++ [.h]) [(.s d, .sv (.v (.bool true))), (.h, .hp H')] := by
 intro t hR G L a w hr K Q hK
 obtain ⟨h1, h2⟩ := jR hr hR.left.right ha
 have hv := aT hr hR.left.left hx
 generalize hav : a.eval x = u at hv
 cases hv
 obtain ⟨H2, hH2, hok, hmay⟩ := hr.heap
 have hHt : get t .h = some (.hp H) := by rw [hR .h (by simp)]; exact hH
 rw [hHt] at hH2; cases hH2
 obtain ⟨fn, tmps, assign, body, hy, hround⟩ := hY G w ((xs.toList.map a.eval).toArray) (hr.vx hHt) hr.kn hok (Gx (by simpa using h1) h2) hr.fr ⟨hr.old, hr.obs, hr.obn⟩ hmay
 have e : #[] ++ Array.map a.eval xs ++ #[] = (xs.toList.map a.eval).toArray := by apply Array.ext'; simp
 have he : (execOp a.eval ⟨some d, .call { callee := .value x, args := xs, argTypes := tys }, ty, pos, af, g⟩).run P w = .ok (.round l fn tmps assign body) w := by
  simp only [execOp, resolve, hav, Deferred.ofValue, Sem.run_bind, Sem.run_pure, Result.andThen_ok, invoke]
  first | rw [e, hy] | (rw [show #[] ++ Array.map a.eval xs = (xs.toList.map a.eval).toArray by apply Array.ext'; simp, hy])
 refine ⟨fun _ _ => trivial, ?_⟩
 rw [Oper.semAt_eq _ _ _ (BM rfl), he, Oper.uponIn_round]
 refine ⟨fun _ => by omega, hround.mono ?_⟩
 rintro e' w' ⟨v, G', rfl, hv, hx', hkn, hok', hf, hft⟩
 exact hK v w' G' L ((hr.called hHt hx' hkn hok' hf hft).put d hN v (.v _) hv)
end
def mZ (P : Program) (gf : FuncId) (caps : List AV) (H : Hp) (ys : List (List AV × Hp × Hp)) (H' : Hp) : Prop :=
 ∀ G w cargs l, GE ⟨G, w, aa G H w, []⟩ → fx G w → dz G w H → VL G cargs caps → (∀ y ∈ ys, YS P ⟨G, w, aa G H w, []⟩ l y.1 y.2.1 y.2.2) →
  Calls P gf (#[.func (.yield l) #[] #[]] ++ cargs) w fun e w' => (∃ v, e = .returned v) ∧ ∃ G', nf (aa G H w) G G' w ∧ fx G' w' ∧ dz G' w' H' ∧ Fr (aa G H w) w w' ∧ ∀ b, aa G' H' w' b → w.heap.size ≤ b ∨ aa G H w b
theorem mZ.ah {P : Program} {gf : FuncId} {fn : Func} {c : Code} {N : Nat} {caps : List AV} {H : Hp} {ys : List (List AV × Hp × Hp)} {H' : Hp} (hf : P.funcs[gf]? = some fn) (hb : fn.body = some c) (hN : fn.ntmps = N) (hle : caps.length + 1 ≤ N) (hres : fn.results = #[])
  (h : ∀ E l, (∀ y ∈ ys, YS P E l y.1 y.2.1 y.2.2) → ar E none P N c ((.h, .hp H) :: fF (.yf l :: caps) 0) fun e s' => (e = .normal ∨ e = .ret) ∧ get s' .h = some (.hp H')) : mZ P gf caps H ys H' := by
 intro G w cargs l hg hk hH hV hY
 refine calls_of_wp hf hb ?_
 have hV' : VL G (#[.func (.yield l) #[] #[]] ++ cargs) (.yf l :: caps) := by
  refine ⟨by simp [hV.1]; omega, fun j x e => ?_⟩
  cases j with
  | zero => simp at e; subst e; simpa [Array.getD_eq_getD_getElem?, Array.getElem?_append] using V.yf l
  | succ j =>
   have := hV.2 j x (by simpa using e)
   simpa [Array.getD_eq_getD_getElem?, Array.getElem?_append] using this
 have h0 := uf hN (args := .yf l :: caps) (by simpa using hle) hg hk hH hV'
 refine wp_mono (wpIn_wide.1 (h ⟨G, w, aa G H w, []⟩ l hY _ w h0)) ?_
 rintro e a' w' ⟨s', ⟨G', L', hr⟩, he, hh⟩
 obtain ⟨v, hv, hV'⟩ := aM.r0 (P := P) (s := s') hres _ _ _ _ _ _ hr
 obtain ⟨H2, g, hok, hmay⟩ := hr.heap
 rw [hh] at g; cases g
 have hpost : (∃ v2, Ending.returned v = .returned v2) ∧ ∃ G', nf (aa G H w) G G' w ∧ fx G' w' ∧ dz G' w' H' ∧ Fr (aa G H w) w w' ∧ ∀ b, aa G' H' w' b → w.heap.size ≤ b ∨ aa G H w b :=
  ⟨⟨v, rfl⟩, G', ⟨hr.old, hr.obs, hr.obn⟩, hr.kn, hok, hr.fr, hmay⟩
 rcases he with rfl | rfl
 ·exact ⟨hr.defs, v, hv, hpost⟩
 ·exact ⟨hr.defs, v, hv, hpost⟩
theorem KO {w w' : World} {b : Nat} (h : w'.heap[b]? = w.heap[b]?) (o : Nat) : w'.cell? ⟨b, o, none⟩ = w.cell? ⟨b, o, none⟩ := by
 simp only [World.cell?, h]
theorem p9 {G : Gh} {w : World} {b : Nat} {o o' : Obj} (hk : fx G w) (hb : w.heap[b]? = some o) (hnc : ∀ x y z, o ≠ .cells x y z) : fx G (w.putObj b o') := by
 intro b1 o1 v e
 have h1 := hk b1 o1 v e
 have hne : b1 ≠ b := by
  rintro rfl
  unfold World.cell? at h1
  rw [hb] at h1
  cases o <;> first | exact absurd rfl (hnc _ _ _) | simp at h1
 rw [KO (World.putObj_heap_other hne)]
 exact h1
theorem Rel.Jp {E : eB} {N : Nat} {G : Gh} {L : Loc} {a : Act} {w : World} {s : St} {H : Hp} (h : Rel E N G L a w s) (hH : get s .h = some (.hp H)) {b : Nat} {o o' : Obj} {ds : List Deferred} (hb : w.heap[b]? = some o) (hnc : ∀ x y z, o ≠ .cells x y z) (hgn : gN ≤ b) (hlt : b < E.w0.heap.size) (hM : ¬ E.M b) :
  Rel ⟨E.G0, E.w0.putObj b o', E.M, ds⟩ N G L { a with defers := ds } (w.putObj b o') s := by
 obtain ⟨H0, g0, hok, hmay⟩ := h.heap
 rw [hH] at g0; cases g0
 obtain ⟨h1, h2, h3⟩ := h.ge
 have hnm : ¬ E.may b := fun e => by rcases e with e | e; exact absurd hlt (Nat.not_lt.2 e); exact hM e
 have hoth : ∀ k, k ≠ b → (w.putObj b o').heap[k]? = w.heap[k]? := fun k hk => World.putObj_heap_other hk
 have hne : ∀ k, aa G H w k → k ≠ b := fun k hk e => hnm (e ▸ hmay k hk)
 have hneo : ∀ c k, owns s L c k → k ≠ b := fun c k hk e => hnm (e ▸ (iy h hk).2)
 have hst := hok.stay (w' := w.putObj b o') (Gh.le.refl G) rfl (fun b hb => (hok.aa hb).2) (fun k hk => hoth k (hne k hk)) (by simp)
 have hsz : (E.w0.putObj b o').heap.size = E.w0.heap.size := by simp
 refine ⟨h.size, rfl, ⟨JY (fun k hk => World.putObj_heap_other (by omega)) h1, by simpa using h2, h3⟩, p9 h.kn hb hnc, fun b o hb => h.old b o (by simpa using hb), h.obs, fun id b e => by simpa using h.obn id b e,
  ⟨h.fr.os, h.fr.tape, h.fr.output, by simpa using h.fr.size, fun k hk hno => ?_⟩, fun n x g => h.slot n x g, fun k cv g hl => ?_, fun k m el esz xs g => ?_, h.disj,
  ⟨H, hH, hst.1, fun k hk => ?_⟩, fun c k hc H2 g2 hf => ?_, h.nobox, h.notok⟩
 ·by_cases e : k = b
  ·subst e
   rw [World.putObj_heap_same (Nat.lt_of_lt_of_le hlt h.fr.size), World.putObj_heap_same hlt]
  ·rw [hoth k e, World.putObj_heap_other e]
   exact h.fr.block k (by simpa using hk) hno
 ·have hB := (h.box k cv g hl).stay (G' := G) (w' := w.putObj b o') (Gh.le.refl G) (fun _ _ e => .inl ⟨_, e⟩) (fun q hq => hoth q (hneo (.b k) q ⟨⟨cv, g, hl⟩, hq⟩)) (fun _ _ _ => rfl)
  obtain ⟨blk, o, q1, q2, q3, q4, q5, q6⟩ := hB
  refine ⟨blk, o, q1, ?_, q3, q4, q5, ?_⟩
  ·rcases q2 with e | e
   ·exact .inl (by simpa using e)
   ·exact .inr e
  ·cases hk : cv.link with
   | some id => rw [hk] at q6; exact q6
   | none => rw [hk] at q6; exact ⟨by simpa using q6.1, q6.2⟩
 ·have hT := (h.tok k m el esz xs g).stay (G' := G) (w' := w.putObj b o') (Gh.le.refl G) (fun _ _ e => .inl ⟨_, e⟩) (fun v q hv hq => hoth q (hneo (.t k) q ⟨⟨m, el, esz, xs, g⟩, v, hv, hq⟩)) (fun _ _ _ _ _ => rfl)
  obtain ⟨v, q1, q2, q3⟩ := hT
  refine ⟨v, q1, q2, fun blk hb => ⟨?_, (q3 blk hb).2⟩⟩
  rcases (q3 blk hb).1 with e | e
  ·exact .inl (by simpa using e)
  ·exact .inr e
 ·rcases hmay k ((hst.2 k).1 hk) with e | e
  ·exact .inl (by simpa using e)
  ·exact .inr e
 ·rw [hH] at g2; cases g2
  exact h.hdisj c k hc H hH ((hst.2 k).1 hf)
theorem Rel.PF {E : eB} {N : Nat} {G : Gh} {L : Loc} {a : Act} {w : World} {s : St} {H : Hp} (h : Rel E N G L a w s) (hH : get s .h = some (.hp H)) (hbx : ∀ k, get s (.b k) = none) (htk : ∀ k, get s (.t k) = none) {b : Nat} {o o' : Obj} {ds : List Deferred} (hb : w.heap[b]? = some o) (hnc : ∀ x y z, o ≠ .cells x y z) (hgn : gN ≤ b) (hnf : ¬ aa G H w b) :
  Rel ⟨G, w.putObj b o', aa G H w, ds⟩ N G L { a with defers := ds } (w.putObj b o') s := by
 obtain ⟨H0, g0, hok, hmay⟩ := h.heap
 rw [hH] at g0; cases g0
 obtain ⟨h1, h2, h3⟩ := h.vx hH
 have hoth : ∀ k, k ≠ b → (w.putObj b o').heap[k]? = w.heap[k]? := fun k hk => World.putObj_heap_other hk
 have hne : ∀ k, aa G H w k → k ≠ b := fun k hk e => hnf (e ▸ hk)
 have hst := hok.stay (w' := w.putObj b o') (Gh.le.refl G) rfl (fun b hb => (hok.aa hb).2) (fun k hk => hoth k (hne k hk)) (by simp)
 exact ⟨h.size, rfl, ⟨JY (fun k hk => hoth k (by omega)) h1, by simpa using h2, h3⟩, p9 h.kn hb hnc, fun _ _ _ _ => rfl, fun _ _ e => ⟨e, rfl⟩, fun _ _ e => .inl ⟨_, e⟩, Fr.refl _ _, fun n x g => h.slot n x g,
  fun k cv g hl => (by rw [hbx k] at g; cases g), fun k m el esz xs g => (by rw [htk k] at g; cases g), h.disj,
  ⟨H, hH, hst.1, fun k hk => .inr ((hst.2 k).1 hk)⟩, fun c k hc => (by
   cases c with
   | b k => obtain ⟨⟨cv, g, _⟩, _⟩ := hc; rw [hbx] at g; cases g
   | t k => obtain ⟨⟨m, el, esz, xs, g⟩, _⟩ := hc; rw [htk] at g; cases g
   | s n => exact hc.elim
   | h => exact hc.elim), h.nobox, h.notok⟩

def I3 : List Nat → List AV → St
 | p :: ps, a :: l => (.s p, .sv (.v a)) :: I3 ps l
 | _, _ => []
def lD (s : St) (ps : List Nat) (args : List AV) (H : Hp) : St := I3 ps args ++ ((.h, .hp H) :: s)
theorem uT : ∀ (ps : List Nat) (l : List AV) (c : aI), (∀ n, c ≠ .s n) → get (I3 ps l) c = none
 | [], _, _, _ => rfl
 | _ :: _, [], _, _ => rfl
 | p :: ps, a :: l, c, h => by
  simp only [I3, get]
  rw [if_neg (fun e => h p e.symm)]
  exact uT ps l c h
theorem xF : ∀ (ps : List Nat) (l : List AV) (n : Nat) (v : CV), get (I3 ps l) (.s n) = some v → ∃ (i : Nat) (a : AV), ps[i]? = some n ∧ l[i]? = some a ∧ v = .sv (.v a)
 | [], _, _, _, h => by cases h
 | _ :: _, [], _, _, h => by cases h
 | p :: ps, a :: l, n, v, h => by
  simp only [I3, get] at h
  split at h
  ·rename_i e
   injection e with e
   cases h
   exact ⟨0, a, by simp [e], rfl, rfl⟩
  ·obtain ⟨i, b, h1, h2, h3⟩ := xF ps l n v h
   exact ⟨i + 1, b, by simpa using h1, by simpa using h2, h3⟩
theorem xG : ∀ (ps : List Nat) (l : List AV) (n : Nat), ps.length = l.length → get (I3 ps l) (.s n) = none → n ∉ ps
 | [], _, _, _, _ => by simp
 | p :: ps, [], n, hl, h => by simp at hl
 | p :: ps, a :: l, n, hl, h => by
  simp only [I3, get] at h
  split at h
  ·cases h
  ·rename_i e
   have := xG ps l n (by simpa using hl) h
   simp only [List.mem_cons, not_or]
   exact ⟨fun e2 => e (by rw [e2]), this⟩
theorem xt : ∀ (ps : List Nat) (vs : List Value) (tm : Array Value), ps.length = vs.length → ps.Nodup → (∀ p ∈ ps, p < tm.size) →
  let t' := (ps.zip vs).foldl (fun (t : Array Value) (x : Nat × Value) => t.setIfInBounds x.1 x.2) tm
  t'.size = tm.size ∧ (∀ n, n ∉ ps → t'.getD n undef = tm.getD n undef) ∧ ∀ i p, ps[i]? = some p → t'.getD p undef = vs.getD i undef
 | [], vs, tm, _, _, _ => ⟨by simp, fun _ _ => by simp, fun i p h => by simp at h⟩
 | p :: ps, [], tm, hl, _, _ => by simp at hl
 | p :: ps, v :: vs, tm, hl, hn, hs => by
  obtain ⟨hn1, hn2⟩ := List.nodup_cons.1 hn
  obtain ⟨h1, h2, h3⟩ := xt ps vs (tm.setIfInBounds p v) (by simpa using hl) hn2 (fun q hq => by simpa using hs q (List.mem_cons_of_mem _ hq))
  have hp := hs p (List.mem_cons_self ..)
  simp only [List.zip_cons_cons, List.foldl_cons]
  refine ⟨by simpa using h1, fun n hn' => ?_, fun i q hq => ?_⟩
  ·simp only [List.mem_cons, not_or] at hn'
   rw [h2 n hn'.2]
   simp only [Array.getD_eq_getD_getElem?]
   rw [Array.getElem?_setIfInBounds_ne (Ne.symm hn'.1)]
  ·cases i with
   | zero =>
    simp at hq; subst hq
    rw [h2 p hn1]
    simp [Array.getD_eq_getD_getElem?, Array.getElem?_setIfInBounds_self_of_lt hp]
   | succ i => exact h3 i q (by simpa using hq)
theorem CH {E : eB} {N : Nat} {G0 G : Gh} {L : Loc} {a : Act} {w0 w : World} {s : St} (h : Rel E N G0 L a w0 s) (hbx : ∀ k, get s (.b k) = none) (htk : ∀ k, get s (.t k) = none) (hle : G0.le G) {Ha : Hp} (hge : GE ⟨G, w, aa G Ha w, []⟩) (hkn : fx G w) (hok : dz G w Ha)
  {ps : List Nat} {args : List AV} {cargs : Array Value} (hv : VL G cargs args) (hl : ps.length = args.length) (hn : ps.Nodup) (hs : ∀ p ∈ ps, p < N) :
  Rel ⟨G, w, aa G Ha w, []⟩ N G L { tmps := (ps.toArray.zip cargs).foldl (fun t (p, v) => t.setIfInBounds p v) a.tmps, defers := [] } w (lD s ps args Ha) := by
 have hz : (ps.toArray.zip cargs).foldl (fun t (p, v) => t.setIfInBounds p v) a.tmps = (ps.zip cargs.toList).foldl (fun (t : Array Value) (x : Nat × Value) => t.setIfInBounds x.1 x.2) a.tmps := by
  rw [← Array.foldl_toList]
  simp
 obtain ⟨f1, f2, f3⟩ := xt ps cargs.toList a.tmps (by rw [hl]; simpa using hv.1.symm) hn (fun p hp => by rw [h.size]; exact hs p hp)
 have hg : ∀ c, (∀ n, c ≠ .s n) → get (lD s ps args Ha) c = get ((.h, .hp Ha) :: s) c := fun c hc => by
  unfold lD; rw [get_append, uT _ _ _ hc]
 have hgb : ∀ k, get (lD s ps args Ha) (.b k) = none := fun k => by rw [hg _ (by simp)]; simpa [get] using hbx k
 have hgt : ∀ k, get (lD s ps args Ha) (.t k) = none := fun k => by rw [hg _ (by simp)]; simpa [get] using htk k
 have hgh : get (lD s ps args Ha) .h = some (.hp Ha) := by rw [hg _ (by simp)]; simp [get]
 have hno : ∀ c blk, ¬ owns (lD s ps args Ha) L c blk := fun c blk hc => by
  cases c with
  | b k => obtain ⟨⟨cv, g, _⟩, _⟩ := hc; rw [hgb] at g; cases g
  | t k => obtain ⟨⟨m, el, esz, xs, g⟩, _⟩ := hc; rw [hgt] at g; cases g
  | s n => exact hc.elim
  | h => exact hc.elim
 refine ⟨by show Array.size _ = N; rw [hz, f1]; exact h.size, rfl, hge, hkn, fun _ _ _ _ => rfl, fun _ _ e => ⟨e, rfl⟩, fun _ _ e => .inl ⟨_, e⟩, Fr.refl _ _, fun n x g => ?_, fun k cv g => (by rw [hgb] at g; cases g), fun k m el esz xs g => (by rw [hgt] at g; cases g),
  fun c d blk hc => (hno c blk hc).elim, ⟨Ha, hgh, hok, fun b hb => .inr hb⟩, fun c blk hc => (hno c blk hc).elim, fun k _ => h.nobox k (hbx k), fun k _ => h.notok k (htk k)⟩
 show SV G L (Array.getD _ n undef) x
 rw [hz]
 unfold lD at g
 rw [get_append] at g
 cases hp : get (I3 ps args) (.s n) with
 | some v =>
  rw [hp] at g
  obtain ⟨i, b, h1, h2, h3⟩ := xF _ _ _ _ hp
  subst h3
  cases g
  rw [f3 i n h1]
  have := hv.2 i b h2
  show V G _ b
  simpa [Array.getD_eq_getD_getElem?, List.getD_eq_getElem?_getD] using this
 | none =>
  rw [hp] at g
  rw [f2 n (xG _ _ _ hl hp)]
  exact (h.slot n x (by simpa [get] using g)).mono hle
def wJ (P : Program) (N : Nat) (s : St) (ps : List Nat) (assign body : Code) (args : List AV) (Ha Hb : Hp) : Prop :=
 ∀ E l, ar E (some l) P N assign (lD s ps args Ha) fun e s1 => e = .normal ∧ ∀ E', ar E' (some l) P N body s1 fun e s2 => e = .normal ∧ get s2 .h = some (.hp Hb)
theorem xi {G : Gh} {w : World} (o : Obj) (hk : fx G w) : fx G (w.alloc o) := fun b o1 v e => by
 have h1 := hk b o1 v e
 rw [KO (w := w.alloc o) (w' := w) (show w.heap[b]? = (w.alloc o).heap[b]? from ?_)] at h1
 ·exact h1
 ·have := World.block_lt_of_cell? w _ (hk b o1 v e)
  show _ = (w.heap.push o)[b]?
  rw [Array.getElem?_push_lt this, Array.getElem?_eq_getElem this]
theorem heap_alloc {w : World} {o : Obj} {b : Nat} (h : b < w.heap.size) : (w.alloc o).heap[b]? = w.heap[b]? := by
 show (w.heap.push o)[b]? = _
 rw [Array.getElem?_push_lt h, Array.getElem?_eq_getElem h]
theorem j7 {w : World} {o : Obj} : (w.alloc o).heap.size = w.heap.size + 1 := by show (w.heap.push o).size = _; simp
theorem YS.FR {P : Program} {E : eB} {N : Nat} {G0 : Gh} {L : Loc} {a : Act} {w0 w2 : World} {s : St} {H Ha Hb : Hp} {l fn D : Nat} {ps : List Nat} {assign body : Code} {args : List AV} (h : Rel E N G0 L a w0 s) (hbx : ∀ k, get s (.b k) = none) (htk : ∀ k, get s (.t k) = none) (hk2 : fx G0 w2) (hok2 : dz G0 w2 H)
  (hl2 : w2.heap[l]? = some (.loop { state := .ready, pending := none, fn, tmps := a.tmps, params := ps.toArray, assign, body, defers := D })) (hlf : ¬ aa G0 H w2 l) (hgn : gN ≤ l)
  (hl : ps.length = args.length) (hn : ps.Nodup) (hs : ∀ p ∈ ps, p < N) (hR : wJ P N s ps assign body args Ha Hb) : YS P ⟨G0, w2, aa G0 H w2, []⟩ l args Ha Hb := by
 intro G w cargs hge hkn hok hv hfr hx hmay
 have hlt2 : l < w2.heap.size := (Array.getElem?_eq_some_iff.1 hl2).1
 have hlt : l < w.heap.size := Nat.lt_of_lt_of_le hlt2 hfr.size
 have hl0 := (hfr.block l hlt2 hlf).trans hl2
 have hnf : ¬ aa G Ha w l := fun e => by
  rcases hmay l e with e | e
  ·exact absurd hlt2 (Nat.not_lt.2 e)
  ·exact hlf e
 have hle : G0.le G := hx.le hk2 (fun b hb => (hok2.aa hb).2)
 have hr := CH h hbx htk hle hge hkn hok hv hl hn hs
 refine ⟨fn, _, assign, body, run_yield hl0 (by simpa using hv.1.trans hl.symm), roundIn_of_wpIn trivial ?_⟩
 show assign.wpIn (FF (some l)) 2 P _ _ _
 refine Dg (wpIn_mono (hR ⟨G, w, aa G Ha w, []⟩ l _ _ ⟨G, L, hr⟩) ?_)
 rintro e a1 w1 ⟨s1, ⟨G1, L1, hr1⟩, rfl, hbody⟩
 have hl1 := (hr1.fr.block l hlt hnf).trans hl0
 obtain ⟨H1, gH1, _, _⟩ := hr1.heap
 refine ⟨_, run_beginRound hl1 rfl, ?_⟩
 have hr2 := hr1.Jp gH1 (o' := .loop { state := .busy, pending := none, fn, tmps := a.tmps, params := ps.toArray, assign, body, defers := D }) (ds := []) hl1 (by intro x y z e; cases e) hgn hlt hnf
 have ha1 : ({ a1 with defers := [] } : Act) = a1 := by
  have := hr1.defs
  cases a1; simp at this; subst this; rfl
 rw [ha1] at hr2
 show body.wpIn (FF (some l)) 2 P _ a1 _
 refine Dg (wpIn_mono (hbody _ a1 _ ⟨G1, L1, hr2⟩) ?_)
 rintro e a3 w3 ⟨s3, ⟨G3, L3, hr3⟩, rfl, hH3⟩
 have hl3 := (hr3.fr.block l (by simpa using hlt) hnf).trans (World.putObj_heap_same hlt)
 obtain ⟨H3, gH3, hok3, hmay3⟩ := hr3.heap
 rw [hH3] at gH3; cases gH3
 have hm3 : ∀ b, aa G3 Hb w3 b → w.heap.size ≤ b ∨ aa G Ha w b := fun b hb => by
  rcases hmay3 b hb with e | e
  ·exact .inl (by simpa using e)
  ·exact .inr e
 have hne : ∀ b, aa G3 Hb w3 b → b ≠ l := fun b hb e => by
  subst e
  rcases hm3 b hb with e | e
  ·exact absurd hlt (Nat.not_lt.2 e)
  ·exact hnf e
 have hlt3 : l < w3.heap.size := (Array.getElem?_eq_some_iff.1 hl3).1
 refine ⟨_, _, run_endRound none hl3, .bool true, G3, rfl, .bool true, ⟨fun b o hb hm => hr3.old b o (by simpa using hb) hm, hr3.obs, fun id b e => by simpa using hr3.obn id b e⟩, p9 hr3.kn hl3 (by intro x y z e; cases e), ?_⟩
 have hst := fun o' => hok3.stay (w' := w3.putObj l o') (Gh.le.refl G3) rfl (fun b hb => (hok3.aa hb).2) (fun k hk => World.putObj_heap_other (hne k hk)) (by simp)
 refine ⟨(hst _).1, ⟨hr3.fr.os, hr3.fr.tape, hr3.fr.output, by simpa using hr3.fr.size, fun k hk hno => ?_⟩, fun b hb => hm3 b (((hst _).2 b).1 hb)⟩
 by_cases e : k = l
 ·subst e
  rw [World.putObj_heap_same hlt3, hl0]; rfl
 ·rw [World.putObj_heap_other e]
  exact (hr3.fr.block k (by simpa using hk) hno).trans (World.putObj_heap_other e)
def qj (P : Program) (N : Nat) (fn : Func) (c : Code) (s : St) (r : AV) (H' : Hp) : Prop :=
 ∀ E a w, Fits E N s a w → E.ds = [] → c.wpIn (FF none) 3 P (bodyPostM (FF none) 3 P fn (rA E r H')) a w
theorem qj.seq {P : Program} {N : Nat} {fn : Func} {s : St} {r : AV} {H' : Hp} {c d : Code} (h : aK P N c s fun e s' => e = .normal ∧ qj P N fn d s' r H') : qj P N fn (.seq c d) s r H' := by
 intro E a w hf hd
 refine wpIn_seq (wpIn_mono (h.PN a w hf) ?_)
 rintro e a' w' ⟨s', h1, rfl, h2⟩
 exact h2 E a' w' h1 hd
def Gy (P : Program) (N : Nat) (fn : Func) (b d : Code) (s : St) (r : AV) (H' : Hp) : Prop :=
 ∀ E a w, Fits E N s a w → E.ds = [] → b.wpIn (FF none) 3 P (Exit.then (d.wpIn (FF none) 3 P (bodyPostM (FF none) 3 P fn (rA E r H'))) (bodyPostM (FF none) 3 P fn (rA E r H'))) a w
theorem qj.NC {P : Program} {N : Nat} {fn : Func} {s : St} {r : AV} {H' : Hp} {c b d : Code} (h : aK P N c s fun e s' => e = .normal ∧ Gy P N fn b d s' r H') : qj P N fn (.seq (.seq c b) d) s r H' := by
 intro E a w hf hd
 refine wpIn_seq (wpIn_seq (wpIn_mono (h.PN a w hf) ?_))
 rintro e a' w' ⟨s', h1, rfl, h2⟩
 exact h2 E a' w' h1 hd
theorem Gy.range {P : Program} {N : Nat} {fn : Func} {s : St} {r : AV} {H H2 H' : Hp} {id t : Nat} {ps : List Nat} {assign body d : Code} {gf : FuncId} {caps : List AV} {ys : List (List AV × Hp × Hp)} (hbx : ∀ k, get s (.b k) = none) (htk : ∀ k, get s (.t k) = none)
  (hH : get s .h = some (.hp H)) (hc : get s (.s t) = some (.sv (.v (.fn gf caps)))) (hgf : gj P gf = true) (hI : mZ P gf caps H ys H2) (hn : ps.Nodup) (hs : ∀ p ∈ ps, p < N) (hl : ∀ y ∈ ys, ps.length = y.1.length)
  (hR : ∀ y ∈ ys, wJ P N s ps assign body y.1 y.2.1 y.2.2) (hd : aK P N d ((.h, .hp H2) :: s) fun e s' => (e = .normal ∨ e = .ret) ∧ aM P fn s' r ∧ get s' .h = some (.hp H')) :
  Gy P N fn (.block id (.rangeFunc (.tmp t) ps.toArray assign body)) d s r H' := by
 intro E a w ⟨G, L, hr⟩ hds
 refine wpIn_block (wpIn_rangeFunc ?_)
 intro fid hfn
 obtain ⟨H0, g0, hok, hmay⟩ := hr.heap
 rw [hH] at g0; cases g0
 have hv : V G (a.eval (.tmp t)) (.fn gf caps) := hr.slot t _ hc
 generalize hav : a.eval (.tmp t) = u at hv
 cases hv
 rename_i vs hvl hvv
 obtain ⟨w2, hw2⟩ : ∃ w2, w2 = (w.alloc (.deferred (some []))).alloc (.loop { state := .ready, pending := none, fn := fid, tmps := a.tmps, params := ps.toArray, assign, body, defers := w.heap.size }) := ⟨_, rfl⟩
 have hsz2 : w2.heap.size = w.heap.size + 2 := by rw [hw2, j7, j7]
 have hlow : ∀ b, b < w.heap.size → w2.heap[b]? = w.heap[b]? := fun b hb => by rw [hw2, heap_alloc (by rw [j7]; omega), heap_alloc hb]
 have hD2 : w2.heap[w.heap.size]? = some (.deferred (some [])) := by rw [hw2, heap_alloc (by rw [j7]; omega)]; exact World.alloc_heap_new w _
 have hl2 : w2.heap[w.heap.size + 1]? = some (.loop { state := .ready, pending := none, fn := fid, tmps := a.tmps, params := ps.toArray, assign, body, defers := w.heap.size }) := by
  rw [hw2]
  have := World.alloc_heap_new (w.alloc (.deferred (some []))) (.loop { state := .ready, pending := none, fn := fid, tmps := a.tmps, params := ps.toArray, assign, body, defers := w.heap.size })
  rwa [j7] at this
 have hk2 : fx G w2 := by rw [hw2]; exact xi _ (xi _ hr.kn)
 have hst := hok.stay (w' := w2) (Gh.le.refl G) rfl (fun b hb => (hok.aa hb).2) (fun b hb => hlow b (hok.aa hb).1) (by omega)
 have hfl : ∀ b, aa G H w2 b → b < w.heap.size := fun b hb => (hok.aa ((hst.2 b).1 hb)).1
 obtain ⟨ge1, ge2, ge3⟩ := hr.vx hH
 have hge2 : GE ⟨G, w2, aa G H w2, []⟩ := ⟨JY (fun k hk => hlow k (Nat.lt_of_lt_of_le hk ge2)) ge1, Nat.le_trans ge2 (by show w.heap.size ≤ w2.heap.size; omega), fun g hg hf => ge3 g hg ((hst.2 g).1 hf)⟩
 refine ⟨w.heap.size + 1, [{ target := .collected w.heap.size, args := #[] }], w2, { target := .fn (.func gf) vs, args := #[.func (.yield (w.heap.size + 1)) #[] #[]] }, w2, gf, #[.func (.yield (w.heap.size + 1)) #[] #[]] ++ vs, w2, ?_, ?_, fun _ _ => trivial, ?_, fun _ => by omega, ?_⟩
 ·rw [hw2]; exact run_enterLoop_outer _ _ _ _ _
 ·simp only [resolve, hav]
  simp [go_sem]
 ·simp only [invoke]; exact lB hgf _ _
 ·refine callsIn_wide.2 ((hI G w2 vs (w.heap.size + 1) hge2 hk2 hst.1 ⟨hvl, hvv⟩ fun y hy => ?_).mono ?_)
  ·refine YS.FR hr hbx htk hk2 hst.1 hl2 (fun e => by have := hfl _ e; omega) (Nat.le_trans ge2 (by show w.heap.size ≤ _; omega)) (hl y hy) hn hs (hR y hy)
  ·rintro e w3 ⟨⟨v, rfl⟩, G3, hx, hkn, hok3, hfr, hft⟩
   have hl3 : w3.heap[w.heap.size + 1]? = some (.loop { state := .ready, pending := none, fn := fid, tmps := a.tmps, params := ps.toArray, assign, body, defers := w.heap.size }) := (hfr.block _ (by omega) (fun e => by have := hfl _ e; omega)).trans hl2
   have hD3 : w3.heap[w.heap.size]? = some (.deferred (some [])) := (hfr.block _ (by omega) (fun e => by have := hfl _ e; omega)).trans hD2
   have hr3 : Rel E N G3 L a w3 ((.h, .hp H2) :: s) := by
    refine hr.called hH ⟨fun b o hb hm => hx.kn b o (by omega) (fun e => hm ((hst.2 b).1 e)), hx.ob, fun id b e => ?_⟩ hkn hok3 ⟨?_, ?_, ?_, by have := hfr.size; omega, fun k hk hno => (hfr.block k (by omega) (fun e => hno ((hst.2 k).1 e))).trans (hlow k hk)⟩ (fun b hb => ?_)
    ·rcases hx.obn id b e with e | e
     ·exact .inl e
     ·exact .inr (by omega)
    ·exact hfr.os.trans (by rw [hw2]; rfl)
    ·exact hfr.tape.trans (by rw [hw2]; rfl)
    ·exact hfr.output.trans (by rw [hw2]; rfl)
    ·rcases hft b hb with e | e
     ·exact .inl (by omega)
     ·exact .inr ((hst.2 b).1 e)
   have hnf3 : ∀ b, b = w.heap.size ∨ b = w.heap.size + 1 → ¬ aa G3 H2 w3 b := fun b hb e => by
    rcases hft b e with e | e
    ·omega
    ·have := hfl b e; omega
   have hgh : get ((aI.h, CV.hp H2) :: s) .h = some (.hp H2) := by simp [get]
   have hr4 := hr3.PF hgh (fun k => by simpa [get] using hbx k) (fun k => by simpa [get] using htk k) (o' := .loop { state := .exhausted, pending := none, fn := fid, tmps := a.tmps, params := ps.toArray, assign, body, defers := w.heap.size }) (ds := [{ target := .collected w.heap.size, args := #[] }] ++ a.defers) hl3 (by intro x y z e; cases e) (by show gN ≤ w.heap.size + 1; exact Nat.le_trans ge2 (by show w.heap.size ≤ _; omega)) (hnf3 _ (.inr rfl))
   refine ⟨none, _, run_endLoop (P := P) hl3 (by simp), ?_⟩
   show d.wpIn (FF none) 3 P _ _ _
   refine wpIn_mono (wpIn_wide.2 (hd _ _ _ ⟨G3, L, hr4⟩)) ?_
   rintro e a5 w5 ⟨s5, ⟨G5, L5, hr5⟩, he, hres, hH5⟩
   have hsz3 : w.heap.size + 1 < w3.heap.size := (Array.getElem?_eq_some_iff.1 hl3).1
   have hD5 : w5.heap[w.heap.size]? = some (.deferred (some [])) := (hr5.fr.block _ (by simpa using Nat.lt_of_succ_lt hsz3) (hnf3 _ (.inl rfl))).trans ((World.putObj_heap_other (by omega)).trans hD3)
   have hr6 := hr5.Jp hH5 (o' := .deferred none) (ds := []) hD5 (by intro x y z e; cases e) ge2 (by simpa using Nat.lt_of_succ_lt hsz3) (hnf3 _ (.inl rfl))
   obtain ⟨v6, hv6, hV6⟩ := hres _ _ _ _ _ _ hr6
   obtain ⟨H6, g6, hok6, hmay6⟩ := hr6.heap
   rw [hH5] at g6; cases g6
   have hdf : a5.defers = [{ target := .collected w.heap.size, args := #[] }] := by rw [hr5.defs, hr.defs, hds]; rfl
   have hpost : LeavesInM (FF none) 3 P fn a5.tmps (rA E r H') a5.defers .returning w5 := by
    rw [hdf]
    refine ⟨by simp, .inl ⟨w.heap.size, _, rfl, run_takeDeferred hD5, v6, hv6, v6, G5, rfl, hV6, ⟨fun b o hb hm => ?_, fun id b e => ?_, fun id b e => ?_⟩, hr6.kn, hok6, ⟨?_, ?_, ?_, ?_, fun k hk hno => ?_⟩, fun b hb => ?_⟩⟩
    ·have hnf : ¬ aa G3 H2 w3 b := fun e => by
      obtain ⟨_, g, _, hm3⟩ := hr3.heap
      rw [hgh] at g; cases g
      rcases hm3 b e with e | e
      ·exact absurd hb (Nat.not_lt.2 e)
      ·exact hm e
     exact (hr5.old b o (by have := hr3.fr.size; simp; omega) hnf).trans (hr3.old b o hb hm)
    ·exact ⟨(hr5.obs id b (hr3.obs id b e).1).1, (hr5.obs id b (hr3.obs id b e).1).2.trans (hr3.obs id b e).2⟩
    ·rcases hr5.obn id b e with ⟨i, e⟩ | e
     ·exact hr3.obn i b e
     ·exact .inr (by have := hr3.fr.size; simp at e; omega)
    ·exact hr5.fr.os.trans hr3.fr.os
    ·exact hr5.fr.tape.trans hr3.fr.tape
    ·exact hr5.fr.output.trans hr3.fr.output
    ·have h1 := hr5.fr.size; have h2 := hr3.fr.size; simp at h1 ⊢; omega
    ·have hsz := hr.fr.size
     have hnf : ¬ aa G3 H2 w3 k := fun e => by
      obtain ⟨_, g, _, hm3⟩ := hr3.heap
      rw [hgh] at g; cases g
      rcases hm3 k e with e | e
      ·exact absurd hk (Nat.not_lt.2 e)
      ·exact hno e
     rw [World.putObj_heap_other (by omega)]
     refine (hr5.fr.block k (by have := hr3.fr.size; simp; omega) hnf).trans ?_
     rw [World.putObj_heap_other (by omega)]
     exact hr3.fr.block k hk hno
    ·obtain ⟨_, g, _, hm3⟩ := hr3.heap
     rw [hgh] at g; cases g
     rcases hmay6 b hb with e | e
     ·exact .inl (by have := hr3.fr.size; simp at e; omega)
     ·exact hm3 b e
   rcases he with rfl | rfl
   ·exact hpost
   ·exact hpost
theorem cB.BI {P : Program} {f : FuncId} {fn : Func} {c : Code} {N : Nat} {args : List AV} {H : Hp} {r : AV} {H' : Hp} (hf : P.funcs[f]? = some fn) (hb : fn.body = some c) (hN : fn.ntmps = N) (hle : args.length ≤ N)
  (h : qj P N fn c ((.h, .hp H) :: fF args 0) r H') : cB P f args H r H' := by
 intro G w cargs hg hk hH hV
 exact callsIn_wide.1 (callsIn_of_wp_marks (F := FF none) (n := 3) hf hb trivial (h ⟨G, w, aa G H w, []⟩ _ w (uf hN hle hg hk hH hV) rfl))
section
variable {P : Program} {N : Nat} {s : St} {d : Nat} {ty : TypeId} {pos : String} {af : Array Edge} {g : Option (Nat × Bool)}
theorem Lu {t1 el esz by_ : Nat} {x : Operand} {kl : IntKind} {c : Int} {zs : List AV} {H : Hp} (hN : d < N) (ht : se P t1 = some (el, esz, by_)) (hz : cE P el = some zs) (h1 : esz = 1) (hx : cV x s = some (.int kl c)) (h0 : 0 ≤ c) (hc : c.toNat * by_ ≤ 281474976710656) (hc2 : c.toNat ≤ maxLen) (hH : get s .h = some (.hp H)) (hd : get s (.b d) = none) :
  aW P N ⟨some d, .makeSlice t1 x x, ty, pos, af, g⟩ s (rd x ++ [.h, .b d]) [(.s d, .sv (.v (.os H.next c.toNat 1))), (.h, .hp (H.new ((List.replicate c.toNat zs).flatten.map .v))), (.b d, .gone)] := by
 intro t hR E G L a w hr K Q hK
 obtain ⟨i, z, hu, hi, hzz, hzs, hsz, hby, hpos⟩ := nM ht
 subst h1
 have hv := lb (aT hr hR.left hx)
 have hcc : c = (c.toNat : Int) := by omega
 unfold cE at hz
 rw [hi] at hz
 simp only [hzz] at hz
 obtain ⟨q1, q2⟩ := j6 G hz
 have hzl : zs.length = 1 := by rw [← q1]; simpa using hzs
 obtain ⟨z0, rfl⟩ : ∃ z0, zs = [z0] := by
  match zs, hzl with
  | [z0], _ => exact ⟨z0, rfl⟩
 have hflat : (List.replicate c.toNat [z0]).flatten = List.replicate c.toNat z0 := by
  induction c.toNat with
  | zero => rfl
  | succ n ih => simp [List.replicate_succ, ih]
 have hrun := run_make (P := P) w t1 el i z hu hi hzz kl kl c c h0 (Int.le_refl _) (by
  have h : ((i.bytes * c.toNat : Nat) : Int) ≤ 281474976710656 := by rw [hby, Nat.mul_comm]; omega
  rw [Int.natCast_mul] at h; rwa [← hcc] at h) (by simp only [maxLen] at hc2; omega)
 rw [hsz, Nat.mul_one] at hrun
 have hsize : (madeCells z.cells c.toNat).size = c.toNat := by simp [size_madeCells, hzs]
 obtain ⟨G', L', hob, hsz', hr2⟩ := hr.vo (d := d) (w1 := w) ⟨rfl, rfl, rfl, Nat.le_refl _, fun _ _ _ => rfl⟩ rfl (show get t .h = some (.hp H) by rw [hR .h (by simp)]; exact hH) (show get t (.b d) = none by rw [hR (.b d) (by simp)]; exact hd) (arr := madeCells z.cells c.toNat) (el := el) (zs := (List.replicate c.toNat [z0]).flatten)
  (by rw [hflat, hsize]; simp) (fun j y e => by
   rw [hflat] at e
   have hj : j < c.toNat := by have := (List.getElem?_eq_some_iff.1 e).1; simpa using this
   simp only [List.getElem?_replicate, if_pos hj, Option.some.injEq] at e
   subst e
   obtain ⟨r1, r2⟩ := q2 0 z0 rfl
   refine ⟨r1, ?_⟩
   have hj2 : j < (madeCells z.cells c.toNat).size := by rw [hsize]; exact hj
   have hz0 : 0 < z.cells.size := by omega
   have e1 : (madeCells z.cells c.toNat)[j] = z.cells[0] := by
    simp only [madeCells, Array.getElem_map, Array.getElem_range, hzs, Nat.mod_one]
    exact getElem!_pos z.cells 0 hz0
   rw [Array.getD_eq_getD_getElem?, Array.getElem?_eq_getElem hj2, e1]
   rw [List.getD_eq_getElem?_getD, Array.getElem?_toList, Array.getElem?_eq_getElem hz0] at r2
   exact r2) (fun j h1 h2 => by rw [hflat] at h1; rw [hsize] at h2; simp at h1; omega)
 unfold Oper.wp
 have he : (execOp a.eval ⟨some d, .makeSlice t1 x x, ty, pos, af, g⟩).run P w = .ok (.value (.slice (some ⟨w.heap.size, 0, none⟩) c.toNat c.toNat)) (w.alloc (.cells (madeCells z.cells c.toNat) el)) := by
  simp only [execOp, Sem.run_bind, hv, hrun, Result.andThen_ok, Sem.run_pure]
 rw [he]
 exact hK _ _ G' L' (hr2.put d hN _ (.v (.os H.next c.toNat 1)) (V.os H.next _ _ _ _ hob (Nat.le_refl _) (by rw [hsz', hsize]; omega)))
end
theorem ar.blk {E : eB} {ro : Option Nat} {P : Program} {N : Nat} {s : St} {Q : Exit → St → Prop} {id : Nat} {c : Code} (h : ar E ro P N c s fun e s' => match e with | .exit id' => bif Nat.beq id' id then Q .normal s' else Q (.exit id') s' | e => Q e s') : ar E ro P N (.block id c) s Q := by
 refine ar.block (h.mono ?_)
 intro e s' hq
 cases e with
 | exit id' =>
  by_cases hid : id' = id
  ·subst hid
   have hb : Nat.beq id' id' = true := Nat.beq_refl id'
   simp only [hb, cond_true] at hq
   simp only [if_true]
   exact hq
  ·have : Nat.beq id' id = false := by
    cases hb : Nat.beq id' id with
    | false => rfl
    | true => exact absurd (Nat.eq_of_beq_eq_true hb) hid
   simp only [this, cond_false] at hq
   simp only [hid, if_false]
   exact hq
 | _ => exact hq
theorem ar.k7 {E : eB} {ro : Option Nat} {P : Program} {N : Nat} {s : St} {Q : Exit → St → Prop} {c : Code} {α : Type} (upd : α → St) (rest : St) (I : α → Prop) (m : α → Nat) (a0 : α) (hs : s = upd a0 ++ rest) (h0 : I a0)
  (hb : ∀ a, I a → ar E ro P N c (upd a ++ rest) fun e s' => match e with | .normal => ∃ b, m b < m a ∧ I b ∧ s' = upd b ++ rest | e => Q e s') : ar E ro P N (.loop c) s Q := by
 refine ar.loop (fun n t => ∃ a, m a = n ∧ I a ∧ t = upd a ++ rest) ?_ (n := m a0) ⟨a0, rfl, h0, hs⟩
 rintro n t ⟨a, rfl, ha, rfl⟩
 refine (hb a ha).mono fun e s' h => ?_
 cases e with
 | normal => obtain ⟨b, h1, h2, h3⟩ := h; exact ⟨m b, h1, b, rfl, h2, h3⟩
 | _ => exact h
theorem bU.Jt {E : eB} {ro : Option Nat} {P : Program} {N : Nat} {ops : Array Oper} {l : List Oper} {s : St} {Q : St → Prop} {o : Oper} {A : List (List Nat)} {acc : List (List aI × St)} {e d : Nat} {b b' : Bool} (hd : o.dst = some e) (hg : gL ops o = some (d, b)) (hN : d < N) (he : e < N) (hc : get s (.s d) = some (.sv (.v (.bool b')))) (hb : b' = !b) (h : bU E ro P N ops A Q (acc ++ [([.s d], [(.s e, .sv (.v (.tup [])))])]) l ((.s e, .sv (.v (.tup []))) :: s)) (hn : vp o = true := by rfl) : bU E ro P N ops A Q acc (o :: l) s :=
 bU.cons (mX.of hn (bq.MJ hN he hd hg (hb ▸ hc))) h
theorem vQ : se Tryz.prog 30 = some (130, 4, 40) := by kernel_rfl
theorem Kh : se Tryz.prog 92 = some (95, 1, 24) := by kernel_rfl
theorem AW : cE Tryz.prog 130 = some [AV.int IntKind.i64 (0), AV.int IntKind.i64 (0), AV.int IntKind.u64 (0), AV.str []] := by kernel_rfl
theorem HL : cE Tryz.prog 95 = some [AV.sl []] := by kernel_rfl
theorem jm (l : List Port) (hl : l.length ≤ 1000000) : Pure Tryz.prog 83 [.sl (l.map Port.av)] (.sl (l.map Port.av)) := by
 refine Pure.ah Tryz.func83 rfl rfl (aH rfl) fun H => (aK.seq (aK.region (aD.run II 1 rfl (aD.nil (aK.seq (aK.seq (aK.region (aD.run II 1 rfl (aD.od (aH rfl) Tryz.underlying58 rfl (fun b hb => (aD.nil (aK.cond rfl (fun hc1 => ?_) (fun hc1 => ?_)))))))))))))
 ·exact aK.seq (aK.region (aD.run II 1 rfl (aD.nil (aK.ret (cD rfl rfl rfl (by rw [hb hc1]))))))
 ·refine aK.skip (aK.seq (aK.region (aD.c2 rfl (bD («as» := []) (aH rfl) eD fz rfl rfl rfl (gQ rfl) rfl) (aD.run II 1 rfl (aD.c3 rfl (jS (aH rfl) eD rfl rfl rfl (ba Port.cells (fun _ => rfl) _) rfl (by rw [List.length_map]; simp only [List.length_nil]; omega) (by rw [List.length_map]; simp only [List.length_nil]; omega)) ?_)))))
  exact aD.run II 1 rfl (aD.nil (aK.ret (cD rfl rfl rfl (by rfl))))
theorem nP (l : List Rw) (hl : l.length ≤ 1000000) : Pure Tryz.prog 53 [.sl (l.map Rw.av)] (.sl (l.map Rw.av)) := by
 refine Pure.ah Tryz.func53 rfl rfl (aH rfl) fun H => (aK.seq (aK.region (aD.run II 1 rfl (aD.nil (aK.seq (aK.seq (aK.region (aD.run II 1 rfl (aD.od (aH rfl) Tryz.underlying30 rfl (fun b hb => (aD.nil (aK.cond rfl (fun hc1 => ?_) (fun hc1 => ?_)))))))))))))
 ·exact aK.seq (aK.region (aD.run II 1 rfl (aD.nil (aK.ret (cD rfl rfl rfl (by rw [hb hc1]))))))
 ·refine aK.skip (aK.seq (aK.region (aD.c2 rfl (bD («as» := []) (aH rfl) vQ AW rfl rfl rfl (gQ rfl) rfl) (aD.run II 1 rfl (aD.c3 rfl (jS (aH rfl) vQ rfl rfl rfl (ba Rw.cells (fun _ => rfl) _) rfl (by rw [List.length_map]; simp only [List.length_nil]; omega) (by rw [List.length_map]; simp only [List.length_nil]; omega)) ?_)))))
  exact aD.run II 1 rfl (aD.nil (aK.ret (cD rfl rfl rfl (by rfl))))
def aQ.side (q : aQ) (bh : Bool) : List Port := if bh then q.outs else q.ins
theorem vO (q : aQ) : q.side false = q.ins := rfl
theorem sA {ps : List aQ} {k : Nat} {q : aQ} (hq : ps[k]? = some q) : (ps.map aQ.av)[((k : Nat) : Int).toNat]? = some (.agg q.cells) := by rw [Int.toNat_natCast, List.getElem?_map, hq]; rfl
theorem Ag (ps : List aQ) (bh : Bool) (k : Nat) (q : aQ) (hq : ps[k]? = some q) (hb : q.ins.length ≤ 1000000 ∧ q.outs.length ≤ 1000000) : Pure Tryz.prog 55 [cA ps, .bool bh, .int .i64 k] (.sl ((q.side bh).map Port.av)) := by
 have e0 : cA ps = .agg [.sl (ps.map aQ.av)] := rfl
 refine Pure.go II mixed Tryz.func55 rfl rfl fun H => (aC (fun hc1 => ?_) (fun hc1 => ?_))
 ·exact aB.ii rfl eH rfl rfl (sA hq) rfl (aB.jc rfl (Fn rfl) rfl (jm _ hb.2) (cD rfl rfl rfl (by cases bh <;> first | rfl | cases hc1)))
 ·exact aB.ii rfl eH rfl rfl (sA hq) rfl (aB.jc rfl (Fn rfl) rfl (jm _ hb.1) (cD rfl rfl rfl (by cases bh <;> first | rfl | cases hc1)))
def en (q : aQ) (k : Nat) (bh : Bool) (H : Hp) : Hp := (H.new ((List.replicate q.aE.toNat [AV.sl []]).flatten.map .v)).new [.v (.int .i64 k), .v (.os H.next q.aE.toNat 1), .v (.sl []), .v (.bool !bh)]
theorem IT (ps : List aQ) (bh : Bool) (k : Nat) (q : aQ) (hq : ps[k]? = some q) (h0 : 0 ≤ q.aE) (h1 : q.aE ≤ 100000) (H : Hp) : cB Tryz.prog 94 [cA ps, .bool bh, .int .i64 k] H (.op (H.next + 1) 0) (en q k bh H) := by
 have e0 : cA ps = .agg [.sl (ps.map aQ.av)] := rfl
 refine cB.ah Tryz.func94 rfl rfl (aH rfl) (aK.go II mixed (aB.ii rfl eH rfl rfl (sA hq) rfl (aB.n3 5 rfl (Lu (aH rfl) Kh HL rfl rfl h0 (by omega) (by simp only [maxLen]; omega) rfl rfl) ?_)))
 exact aG.kept (Kept.qO 18 rfl rfl (Kept.op 6 rfl rfl (Kept.cls 18 rfl rfl rfl rfl (Kept.now (aG.r 999 ⟨.inr rfl, (aM.r1 rfl (.tmp rfl .nil)).cast rfl, rfl⟩)))))
theorem nZ : ie Tryz.prog 92 = some 1 := by kernel_rfl
theorem zv : ie Tryz.prog 95 = some 3 := by kernel_rfl
theorem mI : lk Tryz.prog 92 = some (false, 1) := by kernel_rfl
theorem nV : lk Tryz.prog 95 = some (false, 1) := by kernel_rfl
theorem pI : Tryz.prog.underlying 89 = some (.pointer (Tryz.prog.pointee 89)) := by kernel_rfl
mutual
inductive Fm where
 | mk (r part : Nat) (aE : List (List cT)) (rest : List Rw) (done : Bool)
inductive cT where
 | mk (n : Nat) (s : aw) (f : Option Fm)
end
def Fm.r : Fm → Nat | .mk r _ _ _ _ => r
def Fm.part : Fm → Nat | .mk _ p _ _ _ => p
def Fm.aE : Fm → List (List cT) | .mk _ _ g _ _ => g
def Fm.rest : Fm → List Rw | .mk _ _ _ x _ => x
def Fm.done : Fm → Bool | .mk _ _ _ _ d => d
def cT.n : cT → Nat | .mk n _ _ => n
def cT.s : cT → aw | .mk _ s _ => s
def cT.f : cT → Option Fm | .mk _ _ f => f
def Fm.ptr (f : Fm) : AV := .op (f.r + 1) 0
def IZ : Option Fm → AV | none => .nilp | some f => f.ptr
def cT.cells (c : cT) : List AV := [.int .u64 (c.n : Int), .str c.s, IZ c.f]
def cT.av (c : cT) : AV := .agg c.cells
def j4 (l : List cT) : AV := .sl (l.map cT.av)
def Fm.x8 (f : Fm) : List Hc := [.v (.int .i64 (f.part : Int)), .v (.os f.r f.aE.length 1), .v (.sl (f.rest.map Rw.av)), .v (.bool f.done)]
def dt (g : List (List cT)) : List Hc := g.map fun l => .v (j4 l)
inductive Fm.At (H : Hp) : Fm → Prop where
 | mk (f : Fm) (h1 : H.obj (f.r + 1) = some f.x8) (h2 : H.obj f.r = some (dt f.aE)) (hb : f.aE.length ≤ 9000000000000000000 ∧ ∀ l ∈ f.aE, l.length ≤ 9000000000000000000) (h3 : ∀ l ∈ f.aE, ∀ c ∈ l, ∀ g, c.f = some g → Fm.At H g) : Fm.At H f
theorem Fm.At.o1 {H : Hp} {f : Fm} (h : f.At H) : H.obj (f.r + 1) = some f.x8 := by cases h; assumption
theorem Fm.At.o2 {H : Hp} {f : Fm} (h : f.At H) : H.obj f.r = some (dt f.aE) := by cases h; assumption
theorem Fm.At.eK {H : Hp} {f : Fm} (h : f.At H) : f.aE.length ≤ 9000000000000000000 ∧ ∀ l ∈ f.aE, l.length ≤ 9000000000000000000 := by cases h; assumption
theorem Fm.At.o3 {H : Hp} {f : Fm} (h : f.At H) : ∀ l ∈ f.aE, ∀ c ∈ l, ∀ g, c.f = some g → g.At H := by cases h; assumption
mutual
def Fm.ms : Fm → Nat
 | .mk _ _ g _ _ => 1 + cc g
def cc : List (List cT) → Nat
 | [] => 0
 | l :: g => ck l + cc g
def ck : List cT → Nat
 | [] => 0
 | c :: l => cT.ms c + ck l
def cT.ms : cT → Nat
 | .mk _ _ none => 0
 | .mk _ _ (some f) => f.ms
end
mutual
def Fm.vs : Fm → Nat
 | .mk _ _ g _ _ => cb g
def cb : List (List cT) → Nat
 | [] => 0
 | l :: g => l.length + cj l + cb g
def cj : List cT → Nat
 | [] => 0
 | c :: l => cT.vs c + cj l
def cT.vs : cT → Nat
 | .mk _ _ none => 0
 | .mk _ _ (some f) => f.vs
end
def OK : Option Fm → Nat | none => 0 | some f => f.ms
def OF : Option Fm → Nat | none => 0 | some f => f.vs
theorem cT.iZ (c : cT) : c.ms = OK c.f := by cases c with | mk n s f => cases f <;> simp [cT.ms, OK, cT.f]
theorem cT.iY (c : cT) : c.vs = OF c.f := by cases c with | mk n s f => cases f <;> simp [cT.vs, OF, cT.f]
theorem Fm.iZ (f : Fm) : f.ms = 1 + cc f.aE := by cases f; rw [Fm.ms]; rfl
theorem Fm.iY (f : Fm) : f.vs = cb f.aE := by cases f; rw [Fm.vs]; rfl
theorem r9 : ∀ (a b : List (List cT)), cc (a ++ b) = cc a + cc b
 | [], b => by rw [cc]; simp
 | x :: a, b => by rw [List.cons_append, cc, cc, r9 a b]; omega
theorem rX : ∀ (a b : List (List cT)), cb (a ++ b) = cb a + cb b
 | [], b => by rw [cb]; simp
 | x :: a, b => by rw [List.cons_append, cb, cb, rX a b]; omega
theorem tM : ∀ (a b : List cT), ck (a ++ b) = ck a + ck b
 | [], b => by rw [ck]; simp
 | x :: a, b => by rw [List.cons_append, ck, ck, tM a b]; omega
theorem tL : ∀ (a b : List cT), cj (a ++ b) = cj a + cj b
 | [], b => by rw [cj]; simp
 | x :: a, b => by rw [List.cons_append, cj, cj, tL a b]; omega
theorem dL {α : Type} {l : List α} {i : Nat} (hi : i < l.length) : l.take (i + 1) = l.take i ++ [l[i]] := by
 rw [List.take_add_one, List.getElem?_eq_getElem hi]; rfl
theorem wk {g : List (List cT)} {i : Nat} (hi : i < g.length) : cc (g.take (i + 1)) = cc (g.take i) + ck g[i] := by rw [dL hi, r9, cc, cc]; rfl
theorem wi {g : List (List cT)} {i : Nat} (hi : i < g.length) : cb (g.take (i + 1)) = cb (g.take i) + (g[i].length + cj g[i]) := by rw [dL hi, rX, cb, cb]; rfl
theorem yE {g : List cT} {i : Nat} (hi : i < g.length) : ck (g.take (i + 1)) = ck (g.take i) + OK g[i].f := by rw [dL hi, tM, ck, ck, cT.iZ]; rfl
theorem yD {g : List cT} {i : Nat} (hi : i < g.length) : cj (g.take (i + 1)) = cj (g.take i) + OF g[i].f := by rw [dL hi, tL, cj, cj, cT.iY]; rfl
theorem A2 (a k : Int) : dc (a + k * 18446744073709551616) = dc a := by
 show IntKind.i64.wrap _ = IntKind.i64.wrap _
 simp only [IntKind.wrap, IntKind.bits, IntKind.signed, Bool.true_and, decide_eq_true_eq, Int.reducePow, Nat.reduceSub, Int.add_mul_emod_self_right]
 by_cases h : a % 18446744073709551616 ≥ 9223372036854775808 <;> simp [h]
theorem rF (a : Int) : ∃ k, dc a = a + k * 18446744073709551616 := by
 show ∃ k, IntKind.i64.wrap a = _
 simp only [IntKind.wrap, IntKind.bits, IntKind.signed, Bool.true_and, decide_eq_true_eq, Int.reducePow, Nat.reduceSub]
 split
 ·exact ⟨-(a / 18446744073709551616) - 1, by omega⟩
 ·exact ⟨-(a / 18446744073709551616), by omega⟩
theorem HT (a b : Int) : dc (dc a + dc b) = dc (a + b) := by
 obtain ⟨k, hk⟩ := rF a
 obtain ⟨j, hj⟩ := rF b
 rw [hk, hj, show a + k * 18446744073709551616 + (b + j * 18446744073709551616) = a + b + (k + j) * 18446744073709551616 by omega, A2]
theorem Mx (a b : Int) : dc (dc a + b) = dc (a + b) := by
 obtain ⟨k, hk⟩ := rF a
 rw [hk, show a + k * 18446744073709551616 + b = a + b + k * 18446744073709551616 by omega, A2]
theorem Ae {g : List (List cT)} {i : Nat} (hi : i < g.length) : wP false 1 (((dt g).map fun c => Sv.v (ph c)).drop (((i : Nat) : Int).toNat * 1)) = some (.v (j4 g[i])) := by
 show (List.drop _ _)[0]? = _
 rw [List.getElem?_drop, Int.toNat_natCast, Nat.mul_one, Nat.add_zero, List.getElem?_map]
 unfold dt
 rw [List.getElem?_map, List.getElem?_eq_getElem hi]; rfl
def rS (f : Option Fm) : AV := .tup [.int .i64 (dc (OK f : Int)), .int .i64 (dc (OF f : Int))]
theorem Ic (f : Fm) (H : Hp) (hA : f.At H) (hsub : ∀ l ∈ f.aE, ∀ c ∈ l, cB Tryz.prog 32 [IZ c.f] H (rS c.f) H) : cB Tryz.prog 32 [f.ptr] H (rS (some f)) H := by
 have hb1 := hA.eK.1
 have hb2 := fun (i : Nat) (hi : i < f.aE.length) => hA.eK.2 _ (List.getElem_mem hi)
 refine cB.ah Tryz.func32 rfl rfl (aH rfl) (aK.gn 8 II mixed (aB.n1 12 rfl (FK (aH rfl) pI rfl rfl) (aB.d1 rfl (bB (aH rfl) mI rfl rfl hA.o1 rfl) (aG.lq [.s 19, .s 4, .s 5, .h, .s 17, .s 18] (fun ((i, m, v) : Nat × Int × Int) => [(.s 19, .sv (.v (.int .i64 (i : Int)))), (.s 4, .sv (.v (.int .i64 m))), (.s 5, .sv (.v (.int .i64 v)))]) (fun ((i, m, v) : Nat × Int × Int) => m = dc (1 + cc (f.aE.take i)) ∧ v = dc (cb (f.aE.take i))) (fun ((i, m, v) : Nat × Int × Int) => f.aE.length - i) (0, 1, 0) rfl rfl ⟨(by rw [List.take_zero, cc]; rfl), (by rw [List.take_zero, cb]; rfl)⟩ ?_))))
 rintro ⟨i, m, v⟩ hI
 refine aC (fun hc1 => ?_) (fun hc1 => ?_)
 ·have hi := MP hc1
  refine aB.n1 0 rfl (bR (aH rfl) nZ rfl rfl (Int.natCast_nonneg _) (by omega)) (aB.d1 rfl (bB (aH rfl) nV rfl rfl hA.o2 (Ae hi)) (aG.lq [.s 29, .s 4, .s 5, .h, .s 17, .s 18, .s 19, .s 27, .s 28] (fun ((k, m, v) : Nat × Int × Int) => [(.s 29, .sv (.v (.int .i64 (k : Int)))), (.s 4, .sv (.v (.int .i64 m))), (.s 5, .sv (.v (.int .i64 v)))]) (fun ((k, m, v) : Nat × Int × Int) => m = dc (1 + cc (f.aE.take i) + ck ((f.aE[i]'hi).take k)) ∧ v = dc (cb (f.aE.take i) + (f.aE[i]'hi).length + cj ((f.aE[i]'hi).take k))) (fun ((k, m, v) : Nat × Int × Int) => (f.aE[i]'hi).length - k) (0, m, _) rfl rfl ⟨hI.1.trans (by simp [ck]), (by rw [hI.2, List.length_map]; exact (Mx _ _).trans (by simp [cj]))⟩ ?_))
  rintro ⟨k, m, v⟩ hK
  dsimp only at hI hK
  have hb3 := hb2 i hi
  refine aC (fun hc2 => ?_) (fun hc2 => ?_)
  ·have hk := cz hc2
   exact aB.ii rfl zv rfl rfl (ca hk) rfl (aB.d1 rfl (bu (aH rfl) (Fn rfl) rfl rfl (hsub _ (List.getElem_mem hi) _ (List.getElem_mem hk))) (.b1 29 rfl (inc (by omega)) rfl ⟨(k + 1, _, _), by dsimp only; omega, ⟨(by rw [hK.1, yE hk]; exact (HT _ _).trans (congrArg dc (by omega))), (by rw [hK.2, yD hk]; exact (HT _ _).trans (congrArg dc (by omega)))⟩, rfl⟩))
  ·have hk := dA hc2
   exact .b1 19 rfl (inc (by omega)) rfl ⟨(i + 1, _, _), by dsimp only; omega, ⟨(by rw [hK.1, wk hi, List.take_of_length_le hk]; exact congrArg dc (by omega)), (by rw [hK.2, wi hi, List.take_of_length_le hk]; exact congrArg dc (by omega))⟩, rfl⟩
 ·have hi := zy hc1
  exact ⟨.inr rfl, (aM.r2 rfl (.tmp rfl (.tmp rfl .nil))).cast (by dsimp only at hI; rw [hI.1, hI.2, List.take_of_length_le hi]; show _ = AV.tup [.int .i64 (dc (f.ms : Int)), .int .i64 (dc (f.vs : Int))]; rw [Fm.iZ, Fm.iY]; simp), rfl⟩
theorem Ar (H : Hp) : cB Tryz.prog 32 [.nilp] H (rS none) H := by
 exact cB.ah Tryz.func32 rfl rfl (aH rfl) (aK.gn 8 II mixed (aB.d1 rfl (FK (aH rfl) pI rfl rfl) ⟨.inr rfl, (aM.r2 rfl (.tmp rfl (.tmp rfl .nil))).cast (by rfl), rfl⟩))
theorem Le (H : Hp) : ∀ (f : Option Fm), (∀ g, f = some g → g.At H) → cB Tryz.prog 32 [IZ f] H (rS f) H
 | none, _ => Ar H
 | some f, h => by
  have h1 := h f rfl
  induction h1 with
  | mk f h1 h2 hb h3 ih =>
   refine Ic f H (.mk f h1 h2 hb h3) fun l hl c hc => ?_
   cases e : c.f with
   | none => exact Ar H
   | some g => exact ih l hl c hc g e (fun g' e' => by cases e'; exact h3 l hl c hc g e)
def yB (a b : Int) : Int := if a < b then -1 else if a > b then 1 else 0
theorem NJ (a : Int) : Pure Tryz.prog 152 [.int .i64 a] (.bool false) := by
 exact Pure.ah Tryz.func152 rfl rfl (aH rfl) fun H => (aK.go II mixed (cD rfl rfl rfl (by simp)))
theorem LO (a b : Int) : Pure Tryz.prog 102 [.int .i64 a, .int .i64 b] (.int .i64 (yB a b)) := by
 refine Pure.go II mixed Tryz.func102 rfl rfl fun H => ?_
 iterate 2 (refine aB.jc rfl (Fn rfl) rfl (NJ _) ?_)
 refine aC (fun hc1 => ?_) (fun hc1 => ?_)
 ·exact cD rfl rfl rfl (by have := of_decide_eq_true hc1; unfold yB; rw [if_pos this])
 ·refine aC (fun hc2 => ?_) (fun hc2 => ?_)
  ·exact cD rfl rfl rfl (by have h1 := of_decide_eq_false hc1; have h2 := of_decide_eq_true hc2; unfold yB; rw [if_neg h1, if_pos h2])
  ·exact cD rfl rfl rfl (by have h1 := of_decide_eq_false hc1; have h2 := of_decide_eq_false hc2; unfold yB; rw [if_neg h1, if_neg h2])
theorem LN (x y : Port) : Pure Tryz.prog 101 [x.av, y.av] (.int .i64 (yB x.f.num y.f.num)) := by
 exact Pure.go II mixed Tryz.func101 rfl rfl fun H => (aB.jc rfl (Fn rfl) rfl (LO _ _) ⟨.inr rfl, (aM.r1 rfl (.tmp rfl .nil)).cast rfl, rfl⟩)
theorem CZ : Pure Tryz.prog 183 [.int .u64 0] (.int .i64 0) := by
 exact Pure.go II mixed Tryz.func183 rfl rfl fun H => (aB.d1 rfl (eF (aH rfl) fC rfl rfl (by decide) rfl) ⟨.inr rfl, (aM.r1 rfl (.tmp rfl .nil)).cast rfl, rfl⟩)
theorem CY : Pure Tryz.prog 183 [.int .u64 1] (.int .i64 1) := by
 exact Pure.go II mixed Tryz.func183 rfl rfl fun H => (aB.d1 rfl (eF (aH rfl) fC rfl rfl (by decide) rfl) ⟨.inr rfl, (aM.r1 rfl (.tmp rfl .nil)).cast rfl, rfl⟩)
theorem CX : Pure Tryz.prog 183 [.int .u64 2] (.int .i64 2) := by
 exact Pure.go II mixed Tryz.func183 rfl rfl fun H => (aB.d1 rfl (eF (aH rfl) fC rfl rfl (by decide) rfl) ⟨.inr rfl, (aM.r1 rfl (.tmp rfl .nil)).cast rfl, rfl⟩)
theorem CW : Pure Tryz.prog 183 [.int .u64 3] (.int .i64 2) := by
 exact Pure.go II mixed Tryz.func183 rfl rfl fun H => (aB.d1 rfl (eF (aH rfl) fC rfl rfl (by decide) rfl) ⟨.inr rfl, (aM.r1 rfl (.tmp rfl .nil)).cast rfl, rfl⟩)
theorem CU : Pure Tryz.prog 183 [.int .u64 4] (.int .i64 3) := by
 exact Pure.go II mixed Tryz.func183 rfl rfl fun H => (aB.d1 rfl (eF (aH rfl) fC rfl rfl (by decide) rfl) ⟨.inr rfl, (aM.r1 rfl (.tmp rfl .nil)).cast rfl, rfl⟩)
theorem CT : Pure Tryz.prog 183 [.int .u64 5] (.int .i64 3) := by
 exact Pure.go II mixed Tryz.func183 rfl rfl fun H => (aB.d1 rfl (eF (aH rfl) fC rfl rfl (by decide) rfl) ⟨.inr rfl, (aM.r1 rfl (.tmp rfl .nil)).cast rfl, rfl⟩)
theorem CS : Pure Tryz.prog 183 [.int .u64 6] (.int .i64 3) := by
 exact Pure.go II mixed Tryz.func183 rfl rfl fun H => (aB.d1 rfl (eF (aH rfl) fC rfl rfl (by decide) rfl) ⟨.inr rfl, (aM.r1 rfl (.tmp rfl .nil)).cast rfl, rfl⟩)
theorem CR : Pure Tryz.prog 183 [.int .u64 7] (.int .i64 3) := by
 exact Pure.go II mixed Tryz.func183 rfl rfl fun H => (aB.d1 rfl (eF (aH rfl) fC rfl rfl (by decide) rfl) ⟨.inr rfl, (aM.r1 rfl (.tmp rfl .nil)).cast rfl, rfl⟩)
theorem CQ : Pure Tryz.prog 183 [.int .u64 8] (.int .i64 4) := by
 exact Pure.go II mixed Tryz.func183 rfl rfl fun H => (aB.d1 rfl (eF (aH rfl) fC rfl rfl (by decide) rfl) ⟨.inr rfl, (aM.r1 rfl (.tmp rfl .nil)).cast rfl, rfl⟩)
theorem CP : Pure Tryz.prog 183 [.int .u64 9] (.int .i64 4) := by
 exact Pure.go II mixed Tryz.func183 rfl rfl fun H => (aB.d1 rfl (eF (aH rfl) fC rfl rfl (by decide) rfl) ⟨.inr rfl, (aM.r1 rfl (.tmp rfl .nil)).cast rfl, rfl⟩)
theorem zN : Pure Tryz.prog 183 [.int .u64 10] (.int .i64 4) := by
 exact Pure.go II mixed Tryz.func183 rfl rfl fun H => (aB.d1 rfl (eF (aH rfl) fC rfl rfl (by decide) rfl) ⟨.inr rfl, (aM.r1 rfl (.tmp rfl .nil)).cast rfl, rfl⟩)
theorem zM : Pure Tryz.prog 183 [.int .u64 11] (.int .i64 4) := by
 exact Pure.go II mixed Tryz.func183 rfl rfl fun H => (aB.d1 rfl (eF (aH rfl) fC rfl rfl (by decide) rfl) ⟨.inr rfl, (aM.r1 rfl (.tmp rfl .nil)).cast rfl, rfl⟩)
theorem zL : Pure Tryz.prog 183 [.int .u64 12] (.int .i64 4) := by
 exact Pure.go II mixed Tryz.func183 rfl rfl fun H => (aB.d1 rfl (eF (aH rfl) fC rfl rfl (by decide) rfl) ⟨.inr rfl, (aM.r1 rfl (.tmp rfl .nil)).cast rfl, rfl⟩)
def MS (n : Nat) : Int := ([0, 1, 2, 2, 3, 3, 3, 3, 4, 4, 4, 4, 4] : List Int).getD n 0
theorem IP (n : Nat) (hn : n ≤ 12) : Pure Tryz.prog 183 [.int .u64 (n : Int)] (.int .i64 (MS n)) := by
 match n, hn with
 | 0, _ => exact CZ
 | 1, _ => exact CY
 | 2, _ => exact CX
 | 3, _ => exact CW
 | 4, _ => exact CU
 | 5, _ => exact CT
 | 6, _ => exact CS
 | 7, _ => exact CR
 | 8, _ => exact CQ
 | 9, _ => exact CP
 | 10, _ => exact zN
 | 11, _ => exact zM
 | 12, _ => exact zL
 | n + 13, hn => omega
theorem OT (n : Nat) (hn : n ≤ 12) : IntKind.u64.wrap (n : Int) = n := by simp only [IntKind.wrap, IntKind.bits, IntKind.signed]; simp; omega
theorem Kz (n : Nat) (hn : n ≤ 12) : Pure Tryz.prog 151 [.int .u64 (n : Int)] (.int .i64 (MS n)) := by
 exact Pure.ah Tryz.func151 rfl rfl (aH rfl) fun H => (aK.seq (aK.region (aD.run II 1 rfl (aD.nil (aK.seq (aK.Np (fun h => by cases h) (fun _ => (aK.skip (aK.seq (aK.region (aD.run II 1 rfl (aD.c1 rfl (aX (aH rfl) (by kernel_rfl) rfl (IP n hn)) (aD.run II 1 rfl (aD.nil (aK.ret ⟨.inr rfl, (aM.r1 rfl (.tmp rfl .nil)).cast rfl, rfl⟩)))))))))))))))
theorem Ak (n : Nat) (hn : n ≤ 12) : Pure Tryz.prog 151 [.int .u64 (IntKind.u64.wrap (n : Int))] (.int .i64 (MS n)) := by
 rw [OT n hn]; exact Kz n hn
def oW (x y : Port) : Bool := decide (yB x.f.num y.f.num < 0)
def iO (ys : List Port) (j : Nat) : Port := ys.getD j ft
def vF (ys : List Port) (j : Nat) : List Port := (ys.set (j + 1) (iO ys j)).set j (iO ys (j + 1))
def gR : Nat → List Port → List Port
 | 0, ys => ys
 | j + 1, ys => if oW (iO ys (j + 1)) (iO ys j) then gR j (vF ys j) else ys
def kT : Nat → Nat → List Port → List Port
 | 0, _, ys => ys
 | k + 1, i, ys => kT k (i + 1) (gR i ys)
def cm (xs : List Port) : List Port := kT (xs.length - 1) 1 xs
theorem vE (ys : List Port) (j : Nat) : (vF ys j).length = ys.length := by unfold vF; simp
theorem rT : ∀ (j : Nat) (ys : List Port), (gR j ys).length = ys.length
 | 0, ys => rfl
 | j + 1, ys => by
  unfold gR
  split
  ·rw [rT j, vE]
  ·rfl
theorem sC {ys : List Port} : ∀ e ∈ ys.map Port.av, e.cells.length = 9 := fun e he => by
 obtain ⟨p, _, rfl⟩ := List.mem_map.1 he; rfl
theorem LQ {ys : List Port} {i : Nat} {p : Port} : ∀ e ∈ (ys.map Port.av).set i (.agg p.cells), e.cells.length = 9 := fun e he => by
 rcases List.mem_or_eq_of_mem_set he with h | rfl
 ·exact sC e h
 ·rfl
theorem Bb {ys : List Port} {j : Nat} (h : j < ys.length) : (ys.map Port.av)[j]? = some (.agg (iO ys j).cells) := by
 unfold iO
 rw [List.getElem?_map, List.getD_eq_getElem?_getD, List.getElem?_eq_getElem h]; rfl
theorem wj {j : Nat} (h : 0 < j) (h2 : j ≤ 1000) : IntKind.i64.wrap ((j : Int) - 1) = ((j - 1 : Nat) : Int) := by
 rw [fI (by omega) (by omega)]; omega
theorem wQ {j : Nat} (h : decide ((j : Int) > 0) = true) : 0 < j := by have := of_decide_eq_true h; omega
theorem PW {j : Nat} (h : decide ((j : Int) > 0) = false) : j = 0 := by have := of_decide_eq_false h; omega
theorem tS {ys : List Port} {j : Nat} (h : j < ys.length) : (ys.map Port.av)[((j : Nat) : Int).toNat]? = some (.agg (iO ys j).cells) := by rw [Int.toNat_natCast]; exact Bb h
theorem yR {ys : List Port} {j : Nat} (h0 : 0 < j) (h : j < ys.length) (h2 : ys.length ≤ 1000) : (ys.map Port.av)[(IntKind.i64.wrap ((j : Int) - 1)).toNat]? = some (.agg (iO ys (j - 1)).cells) := by
 rw [wj h0 (by omega), Int.toNat_natCast]; exact Bb (by omega)
theorem Kf {zs : List Port} {j : Nat} (h0 : 0 < j) (h2 : j ≤ 1000) : (((zs.map Port.av).set (((j : Nat) : Int).toNat) (.agg (iO zs (j - 1)).cells)).set (IntKind.i64.wrap ((j : Int) - 1)).toNat (.agg (iO zs j).cells)) = (vF zs (j - 1)).map Port.av := by
 rw [wj h0 h2, Int.toNat_natCast, Int.toNat_natCast]
 unfold vF
 rw [List.map_set, List.map_set, show j - 1 + 1 = j by omega]; rfl
theorem Hm {j : Nat} {zs : List Port} (h : 0 < j) (hl : oW (iO zs j) (iO zs (j - 1)) = true) : gR j zs = gR (j - 1) (vF zs (j - 1)) := by
 obtain ⟨k, rfl⟩ : ∃ k, j = k + 1 := ⟨j - 1, by omega⟩
 have hl' : oW (iO zs (k + 1)) (iO zs k) = true := hl
 rw [gR, if_pos hl']; rfl
theorem Hk {j : Nat} {zs : List Port} (h : 0 < j) (hl : oW (iO zs j) (iO zs (j - 1)) = false) : gR j zs = zs := by
 obtain ⟨k, rfl⟩ : ∃ k, j = k + 1 := ⟨j - 1, by omega⟩
 have hl' : oW (iO zs (k + 1)) (iO zs k) = false := hl
 rw [gR, hl']; rfl
theorem Ac {n i : Nat} {ys : List Port} (h : i < n) : kT (n - i) i ys = kT (n - (i + 1)) (i + 1) (gR i ys) := by
 rw [show n - i = (n - (i + 1)) + 1 by omega]; rfl
theorem EG {n i : Nat} {ys : List Port} (h : n ≤ i) : kT (n - i) i ys = ys := by
 rw [show n - i = 0 by omega]; rfl
theorem Oq {v w : CV} {rest : List (aI × CV)} {H : Hp} {id : Nat} {A B : List Hc} {C D : List AV} (hv : v = w) (h : C = D) : ((aI.s 9, v) :: (aI.h, CV.hp (((H.set id A).set id B).set id (aZ C))) :: rest) = [(aI.s 9, w), (aI.h, CV.hp (H.set id (aZ D)))] ++ rest := by rw [Hp.set_set, Hp.set_set, h, hv]; rfl
theorem Ik (xs : List Port) (hx : xs.length ≤ 12) (H : Hp) (id : Nat) : cB Tryz.prog 174 [.os id xs.length 9, .int .i64 0, .int .i64 xs.length, .fn 101 []] (H.set id (aZ (xs.map Port.av))) (.tup []) (H.set id (aZ ((cm xs).map Port.av))) := by
 refine cB.ah Tryz.func174 rfl rfl (aH rfl) (aK.go II mixed (aG.lq [.s 8, .h, .s 0, .s 1, .s 2, .s 3] (fun ((i, ys) : Nat × List Port) => [(.s 8, .sv (.v (.int .i64 (i : Int)))), (.h, .hp (H.set id (aZ (ys.map Port.av))))]) (fun ((i, ys) : Nat × List Port) => kT (xs.length - i) i ys = cm xs ∧ ys.length = xs.length ∧ 1 ≤ i) (fun ((i, ys) : Nat × List Port) => xs.length - i) (1, xs) rfl rfl ⟨rfl, rfl, Nat.le_refl _⟩ ?_))
 rintro ⟨i, ys⟩ hI
 refine aC (fun hc1 => ?_) (fun hc1 => ?_)
 ·have hi := MP hc1
  refine aG.lq [.s 9, .h, .s 0, .s 1, .s 2, .s 3, .s 8] (fun ((j, zs) : Nat × List Port) => [(.s 9, .sv (.v (.int .i64 (j : Int)))), (.h, .hp (H.set id (aZ (zs.map Port.av))))]) (fun ((j, zs) : Nat × List Port) => gR j zs = gR i ys ∧ zs.length = xs.length ∧ j < xs.length) (fun ((j, zs) : Nat × List Port) => j) (i, ys) rfl rfl ⟨rfl, hI.2.1, hi⟩ ?_
  rintro ⟨j, zs⟩ hJ
  dsimp only at hI hJ
  refine ⟨rfl, (aC (fun hg2 => ?_) (fun hg2 => ?_))⟩
  ·refine aF.n1 0 rfl (bR (aH rfl) cN rfl rfl (Int.natCast_nonneg _) (by have := hJ.2.2; omega)) ?_
   refine aF.d1 rfl (eE (aH rfl) fZ rfl rfl Hp.bN sC rfl (tS (by rw [hJ.2.1]; exact hJ.2.2))) ?_
   refine aF.n1 0 rfl (bR (aH rfl) cN rfl rfl (by rw [wj (wQ hg2) (by have := hJ.2.2; omega)]; omega) (by rw [wj (wQ hg2) (by have := hJ.2.2; omega)]; have := hJ.2.2; omega)) ?_
   refine aF.d1 rfl (eE (aH rfl) fZ rfl rfl Hp.bN sC rfl (yR (wQ hg2) (by rw [hJ.2.1]; exact hJ.2.2) (by rw [hJ.2.1]; omega))) ?_
   refine aF.d1 rfl (oP (aH rfl) (by kernel_rfl) rfl rfl (LN (iO zs j) (iO zs (j - 1)))) ⟨by kernel_rfl, (aC (fun hc3 => ?_) (fun hc3 => ?_))⟩
   ·refine ⟨rfl, (aF.n1 0 rfl (bR (aH rfl) cN rfl rfl (by rw [wj (wQ hg2) (by have := hJ.2.2; omega)]; omega) (by rw [wj (wQ hg2) (by have := hJ.2.2; omega)]; have := hJ.2.2; omega)) ?_)⟩
    refine aF.d1 rfl (eE (aH rfl) fZ rfl rfl Hp.bN sC rfl (yR (wQ hg2) (by rw [hJ.2.1]; exact hJ.2.2) (by rw [hJ.2.1]; omega))) ?_
    refine aF.n1 0 rfl (bR (aH rfl) cN rfl rfl (Int.natCast_nonneg _) (by have := hJ.2.2; omega)) ?_
    refine aF.d1 rfl (eE (aH rfl) fZ rfl rfl Hp.bN sC rfl (tS (by rw [hJ.2.1]; exact hJ.2.2))) ?_
    refine aF.n1 0 rfl (bR (aH rfl) cN rfl rfl (Int.natCast_nonneg _) (by have := hJ.2.2; omega)) ?_
    refine aF.d1 rfl (lI fZ rfl rfl Hp.bN rfl sC rfl (by rw [List.length_map, Int.toNat_natCast, hJ.2.1]; exact hJ.2.2) rfl) ?_
    refine aF.n1 0 rfl (bR (aH rfl) cN rfl rfl (by rw [wj (wQ hg2) (by have := hJ.2.2; omega)]; omega) (by rw [wj (wQ hg2) (by have := hJ.2.2; omega)]; have := hJ.2.2; omega)) ?_
    refine aF.d1 rfl (lI fZ rfl rfl Hp.bN rfl LQ rfl (by rw [List.length_set, List.length_map, wj (wQ hg2) (by have := hJ.2.2; omega), Int.toNat_natCast, hJ.2.1]; have := hJ.2.2; omega) rfl) ?_
    exact ⟨by kernel_rfl, (.bc [.s 9, .h, .s 0, .s 1, .s 2, .s 3, .s 8] rfl ⟨(j - 1, vF zs (j - 1)), by have := wQ hg2; dsimp only; omega, ⟨(Hm (wQ hg2) hc3).symm.trans hJ.1, (vE _ _).trans hJ.2.1, by have := hJ.2.2; omega⟩, Oq (by rw [wj (wQ hg2) (by have := hJ.2.2; omega)]) (Kf (wQ hg2) (by have := hJ.2.2; omega))⟩)⟩
   ·exact .b1 8 rfl (inc (by omega)) rfl ⟨(i + 1, zs), by dsimp only; omega, ⟨(by rw [← (Hk (wQ hg2) hc3 : gR j zs = zs), hJ.1, ← Ac hi]; exact hI.1), hJ.2.1, by omega⟩, rfl⟩
  ·exact ⟨by kernel_rfl, (.b1 8 rfl (inc (by omega)) rfl ⟨(i + 1, zs), by dsimp only; omega, ⟨(by have e : gR j zs = zs := (by rw [PW hg2]; rfl); rw [← e, hJ.1, ← Ac hi]; exact hI.1), hJ.2.1, by omega⟩, rfl⟩)⟩
 ·have hi := zy hc1
  exact ⟨.inl rfl, (aM.r0 rfl ).cast rfl, (by dsimp only at hI; rw [← hI.1, EG hi]; rfl)⟩
theorem NO (xs : List Port) (hx : xs.length ≤ 12) (H : Hp) (id : Nat) (m : Int) : cB Tryz.prog 150 [.os id xs.length 9, .int .i64 0, .int .i64 xs.length, .int .i64 m, .fn 101 []] (H.set id (aZ (xs.map Port.av))) (.tup []) (H.set id (aZ ((cm xs).map Port.av))) := by
 refine cB.ah Tryz.func150 rfl rfl (aH rfl) (aK.go II mixed (aG.lq [.h, .s 0, .s 1, .s 2, .s 3, .s 4, .s 10, .s 11] (fun (u : Unit) => []) (fun (u : Unit) => True) (fun (u : Unit) => 0) () rfl rfl trivial ?_))
 rintro u hu
 refine xz (decide_eq_true (by rw [fI (by omega) (by omega)]; omega)) ?_
 exact aB.d2 rfl (bf (aH rfl) (Fn rfl) rfl rfl (Ik xs hx H id)) ⟨.inr rfl, (aM.r0 rfl ).cast rfl, rfl⟩
theorem I9 (xs : List Port) (hx : xs.length ≤ 12) (H : Hp) (id : Nat) : cB Tryz.prog 100 [.os id xs.length 9, .fn 101 []] (H.set id (aZ (xs.map Port.av))) (.tup []) (H.set id (aZ ((cm xs).map Port.av))) := by
 exact cB.ah Tryz.func100 rfl rfl (aH rfl) (aK.go II mixed (aB.jc rfl (Fn rfl) rfl (Ak xs.length hx) (aB.d2 rfl (bf (aH rfl) (Fn rfl) rfl rfl (NO xs hx H id _)) ⟨.inl rfl, (aM.r0 rfl ).cast rfl, rfl⟩)))
theorem ud : fo Tryz.prog 117 1 = some 7 := by kernel_rfl
theorem xu : fo Tryz.prog 94 1 = some 1 := by kernel_rfl
theorem ze : lk Tryz.prog 89 = some (false, 1) := by kernel_rfl
theorem KV : Tryz.prog.underlying 95 = some (TypeDesc.slice 97) := Tryz.underlying95
theorem Ia (xs : List Port) (hx : xs.length ≤ 12) (H : Hp) (id : Nat) (h : H.obj id = some (aZ (xs.map Port.av))) : cB Tryz.prog 100 [.os id xs.length 9, .fn 101 []] H (.tup []) (H.set id (aZ ((cm xs).map Port.av))) := by
 have := I9 xs hx H id
 rwa [Hp.fM h] at this
def fv (l : AV) (p : AV) (H : Hp) : Hp := (H.new [.v l]).new [.v p]
theorem Lh (pid n fid off : Nat) (H : Hp) : cB Tryz.prog 54 [.os pid n 9, .op fid off] H (.fn 99 [.op H.next 0, .op (H.next + 1) 0]) (fv (.os pid n 9) (.op fid off) H) := by
 exact cB.ah Tryz.func54 rfl rfl (aH rfl) (aK.gn 5 II mixed (aG.kept (Kept.qO 2 rfl rfl (Kept.op 2 rfl rfl (Kept.cls 2 rfl rfl rfl rfl (Kept.qO 3 rfl rfl (Kept.op 3 rfl rfl (Kept.cls 3 rfl rfl rfl rfl (Kept.now (aG.r 999 (aB.d1 rfl (lJ (aH rfl) rfl) ⟨.inr rfl, (aM.r1 rfl (.tmp rfl .nil)).cast rfl, rfl⟩)))))))))))
theorem Ij (xs : List AV) (fid off : Nat) (H : Hp) : cB Tryz.prog 54 [.sl xs, .op fid off] H (.fn 99 [.op H.next 0, .op (H.next + 1) 0]) (fv (.sl xs) (.op fid off) H) := by
 exact cB.ah Tryz.func54 rfl rfl (aH rfl) (aK.gn 5 II mixed (aG.kept (Kept.qO 2 rfl rfl (Kept.op 2 rfl rfl (Kept.cls 2 rfl rfl rfl rfl (Kept.qO 3 rfl rfl (Kept.op 3 rfl rfl (Kept.cls 3 rfl rfl rfl rfl (Kept.now (aG.r 999 (aB.d1 rfl (lJ (aH rfl) rfl) ⟨.inr rfl, (aM.r1 rfl (.tmp rfl .nil)).cast rfl, rfl⟩)))))))))))
theorem uJ : ∀ (k i : Nat) (ys : List Port), (kT k i ys).length = ys.length
 | 0, _, _ => rfl
 | k + 1, i, ys => by rw [kT, uJ k, rT]
theorem iF (xs : List Port) : (cm xs).length = xs.length := uJ _ _ _
def Fm.row (f : Fm) (r : Int) : List cT := f.aE.getD r.toNat []
theorem zE {f : Fm} {r : Int} (h0 : 0 ≤ r) (h : r < f.aE.length) : wP false 1 (((dt f.aE).map fun c => Sv.v (ph c)).drop (r.toNat * 1)) = some (.v (j4 (f.row r))) := by
 have hi : r.toNat < f.aE.length := by omega
 have := Ae hi
 rw [Int.toNat_natCast] at this
 rw [this]
 unfold Fm.row
 rw [List.getD_eq_getElem?_getD, List.getElem?_eq_getElem hi]; rfl
def KS (f : Fm) (zs : List Port) (K : Nat → Hp) : List (List AV × Hp × Hp) :=
 (List.range zs.length).filterMap fun i => if f.row (iO zs i).reg = [] then none else some ([(iO zs i).av, j4 (f.row (iO zs i).reg)], K i, K (i + 1))
theorem Df {f : Fm} {zs : List Port} {K : Nat → Hp} {i : Nat} (hi : i < zs.length) (h : f.row (iO zs i).reg ≠ []) : ([(iO zs i).av, j4 (f.row (iO zs i).reg)], K i, K (i + 1)) ∈ KS f zs K :=
 List.mem_filterMap.2 ⟨i, List.mem_range.2 hi, by rw [if_neg h]⟩
theorem Kk {l : List cT} (h : decide (((l.map cT.av).length : Int) > 0) = true) : l ≠ [] := fun e => by subst e; simp at h
theorem Km {l : List cT} (h : decide (((l.map cT.av).length : Int) > 0) = false) : l = [] := by
 cases l with
 | nil => rfl
 | cons a l => exact absurd h (by simp)
theorem kB {v : CV} {A B : Hp} {rest : List (aI × CV)} (h : A = B) : ((aI.s 10, v) :: (aI.h, CV.hp A) :: rest) = [(aI.s 10, v), (aI.h, CV.hp B)] ++ rest := by rw [h]; rfl
theorem JW (xs : List Port) (hx : xs.length ≤ 12) (f : Fm) (A B pid : Nat) (H0 : Hp) (K : Nat → Hp) (hp : H0.obj pid = some (aZ (xs.map Port.av))) (hA0 : H0.obj A = some [.v (.os pid xs.length 9)]) (hK0 : K 0 = H0.set pid (aZ ((cm xs).map Port.av)))
  (hA : ∀ i, i ≤ xs.length → (K i).obj A = some [.v (.os pid xs.length 9)]) (hB : ∀ i, i ≤ xs.length → (K i).obj B = some [.v f.ptr]) (hF : ∀ i, i ≤ xs.length → (K i).obj (f.r + 1) = some f.x8) (hR : ∀ i, i ≤ xs.length → (K i).obj f.r = some (dt f.aE))
  (hP : ∀ i, i ≤ xs.length → (K i).obj pid = some (aZ ((cm xs).map Port.av))) (hreg : ∀ i, i < xs.length → 0 ≤ (iO (cm xs) i).reg ∧ (iO (cm xs) i).reg < f.aE.length) (hK : ∀ i, i < xs.length → f.row (iO (cm xs) i).reg = [] → K i = K (i + 1)) :
  mZ Tryz.prog 99 [.op A 0, .op B 0] H0 (KS f (cm xs) K) (K xs.length) := by
 refine mZ.ah Tryz.func99 rfl rfl (gQ rfl) rfl fun E l hY => (ar.seq (ar.region (aD.c1 rfl (bB (aH rfl) fk rfl rfl hA0 rfl) (aD.c2 rfl (bf (aH rfl) (Fn rfl) rfl rfl (Ia xs hx H0 pid hp)) (aD.nil (ar.seq (ar.region (aD.c1 rfl (bB (aH rfl) fk rfl rfl (by rw [← hK0]; exact hA 0 (Nat.zero_le _)) rfl) ?_))))))))
 refine aD.run II 2 rfl (aD.nil (ar.blk (ar.cy (Kept.az [.s 10, .h, .s 0, .s 2, .s 8, .s 9] rfl (by decide) (Kept.now ?_)))))
 rw [← hK0]
 refine ar.k7 (fun (i : Nat) => [(.s 10, .sv (.v (.int .i64 (i : Int)))), (.h, .hp (K i))]) _ (fun (i : Nat) => i ≤ xs.length) (fun (i : Nat) => xs.length - i) 0 rfl (Nat.zero_le _) ?_
 rintro i hI
 refine ar.seq (ar.region (aD.run II 1 rfl (aD.nil (ar.seq (ar.cond rfl (fun hc1 => ?_) (fun hc1 => ?_))))))
 ·have hi := MP hc1
  refine ar.skip (ar.seq (ar.blk (ar.seq (ar.region (aD.c1 rfl (bR (aH rfl) cN rfl rfl (Int.natCast_nonneg _) (by omega)) (aD.c1 rfl (eE (aH rfl) fZ rfl rfl (hP i hI) sC rfl (tS (by rw [iF]; exact hi))) ?_))))))
  refine aD.run II 2 rfl (aD.nil (ar.seq (ar.drawn mixed rfl (bU.c1 rfl (bB (aH rfl) ze rfl rfl (hB i hI) rfl) (bU.c1 rfl (qp (aH rfl) rfl) (bU.c1 rfl (vh (aH rfl) xu rfl) (bU.c1 rfl (bB (aH rfl) mI rfl rfl (hF i hI) rfl) (bU.c1 rfl (zW (aH rfl) ud rfl) (bU.c1 rfl (pO (aH rfl) ib rfl rfl rfl) (bU.c1 rfl (bR (aH rfl) nZ rfl rfl (hreg i hi).1 (hreg i hi).2) (bU.c1 rfl (bB (aH rfl) nV rfl rfl (hR i hI) (zE (hreg i hi).1 (hreg i hi).2)) ?_)))))))))))
  refine bU.c1 rfl (vg (aH rfl) KV rfl) (bU.c1 rfl (iU (aH rfl) rfl rfl rfl) (bU.c1 rfl (oO (aH rfl) rfl) (bU.split (d := 24) rfl (fun hg2 => ?_) (fun hg2 => ?_))))
  ·refine bU.g1 rfl (aH rfl) rfl hg2 (oO (aH rfl) rfl) (bU.g1 rfl (aH rfl) rfl hg2 (pO (aH rfl) fZ rfl rfl rfl) (bU.g1 rfl (aH rfl) rfl hg2 (bB (aH rfl) ze rfl rfl (hB i hI) rfl) (bU.g1 rfl (aH rfl) rfl hg2 (qp (aH rfl) rfl) (bU.g1 rfl (aH rfl) rfl hg2 (vh (aH rfl) xu rfl) (bU.g1 rfl (aH rfl) rfl hg2 (bB (aH rfl) mI rfl rfl (hF i hI) rfl) (bU.g1 rfl (aH rfl) rfl hg2 (zW (aH rfl) ud rfl) (bU.g1 rfl (aH rfl) rfl hg2 (pO (aH rfl) ib rfl rfl rfl) (bU.g1 rfl (aH rfl) rfl hg2 (bR (aH rfl) nZ rfl rfl (hreg i hi).1 (hreg i hi).2) (bU.g1 rfl (aH rfl) rfl hg2 (bB (aH rfl) nV rfl rfl (hR i hI) (zE (hreg i hi).1 (hreg i hi).2)) (bU.h2 rfl (aH rfl) rfl hg2 (Eu (aH rfl) rfl rfl rfl (hY _ (Df (by rw [iF]; exact hi) (Kk hg2)))) ?_))))))))))
   exact bU.g1 rfl (aH rfl) rfl hg2 (KF (aH rfl) rfl rfl) (bU.c1 rfl (mE (aH rfl) rfl hg2 rfl) (bU.nil (by kernel_rfl) (Kept.now (ar.q7 rfl rfl (ar.skip (ar.region (aD.run II 2 rfl (aD.kept (Kept.c6 10 rfl (inc (by omega)) (Kept.az [.s 10, .h, .s 0, .s 2, .s 8, .s 9] rfl (by decide) (Kept.now ⟨i + 1, by omega, by omega, rfl⟩)))))))))))
  ·iterate 12 (refine bU.Jt rfl rfl (aH rfl) (aH rfl) rfl hg2 ?_)
   exact bU.c1 rfl (oN (aH rfl) rfl hg2 rfl) (bU.nil (by kernel_rfl) (Kept.now (ar.q7 rfl rfl (ar.skip (ar.region (aD.run II 2 rfl (aD.kept (Kept.c6 10 rfl (inc (by omega)) (Kept.az [.s 10, .h, .s 0, .s 2, .s 8, .s 9] rfl (by decide) (Kept.now ⟨i + 1, by omega, by omega, kB (hK i hi (Km hg2))⟩))))))))))
 ·have hi := zy hc1
  refine ar.exit ?_
  have e : i = xs.length := Nat.le_antisymm hI hi
  subst e
  exact ⟨.inl rfl, rfl⟩
def jO (rows : List AV) (H : Hp) : Hp := ((H.new (aZ [])).del H.next).new (aZ rows)
theorem xU (l : List Port) (hl : l.length ≤ 1000000) (hne : l ≠ []) (H : Hp) : cB Tryz.prog 83 [.sl (l.map Port.av)] H (.os (H.next + 1) l.length 9) (jO (l.map Port.av) H) := by
 refine cB.ah Tryz.func83 rfl rfl (aH rfl) (aK.seq (aK.region (aD.run II 1 rfl (aD.nil (aK.seq (aK.seq (aK.region (aD.run II 1 rfl (aD.od (aH rfl) Tryz.underlying58 rfl (fun b hb => (aD.nil (aK.cond (b := b) rfl (fun hc1 => ?_) (fun hc1 => ?_)))))))))))))
 ·exact aK.seq (aK.region (aD.run II 1 rfl (aD.nil (aK.ret (absurd (List.map_eq_nil_iff.1 (hb hc1)) hne)))))
 ·refine aK.skip (aK.seq (aK.region (aD.c3 rfl (iz («as» := []) (aH rfl) eD fz rfl rfl rfl (gQ rfl) rfl rfl) (aD.run II 1 rfl (aD.c3 rfl (jT (aH rfl) eD fz rfl rfl Hp.bN (fun e he => by cases he) rfl rfl (ba Port.cells (fun _ => rfl) _) rfl (by rw [List.length_map]; omega) (by rw [List.length_map]; omega)) ?_)))))
  exact aD.run II 1 rfl (aD.nil (aK.ret (cD rfl rfl rfl (by rw [List.length_map, Nat.zero_add]; rfl))))
theorem Ef (ps : List aQ) (bh : Bool) (k : Nat) (q : aQ) (hq : ps[k]? = some q) (hb : (q.side bh).length ≤ 1000000) (hne : q.side bh ≠ []) (H : Hp) : cB Tryz.prog 55 [cA ps, .bool bh, .int .i64 k] H (.os (H.next + 1) (q.side bh).length 9) (jO ((q.side bh).map Port.av) H) := by
 have e0 : cA ps = .agg [.sl (ps.map aQ.av)] := rfl
 refine cB.ah Tryz.func55 rfl rfl (aH rfl) (aK.go II mixed (aC (fun hc1 => ?_) (fun hc1 => ?_)))
 ·refine aB.ii rfl eH rfl rfl (sA hq) rfl (aB.d2 rfl (bf (aH rfl) (Fn rfl) rfl rfl (xU _ (by cases bh <;> first | exact hb | cases hc1) (by cases bh <;> first | exact hne | cases hc1) _)) ?_)
  exact ⟨.inr rfl, (aM.r1 rfl (.tmp rfl .nil)).cast (by cases bh <;> first | rfl | cases hc1), (by cases bh <;> first | rfl | cases hc1)⟩
 ·refine aB.ii rfl eH rfl rfl (sA hq) rfl (aB.d2 rfl (bf (aH rfl) (Fn rfl) rfl rfl (xU _ (by cases bh <;> first | exact hb | cases hc1) (by cases bh <;> first | exact hne | cases hc1) _)) ?_)
  exact ⟨.inr rfl, (aM.r1 rfl (.tmp rfl .nil)).cast (by cases bh <;> first | rfl | cases hc1), (by cases bh <;> first | rfl | cases hc1)⟩
theorem Gn {K : Hp} {o : AV} {cs : List Hc} : (kM K o cs).obj K.next = some cs := by
 unfold kM; split <;> simp [Hp.new, Hp.set, Hp.del]
def nC (TR : Fm → Tree) (c : cT) : bF := .mk c.n c.s (match c.f with | none => [] | some g => [TR g])
def mu (TR : Fm → Tree) (f : Fm) (x : Port) : Slot := .mk x.f.num ((f.row x.reg).map (nC TR))
structure TK where
 H : Hp
 o : AV
 xs : List AV
def TK.step (T0 : Nat) (rest : AV) (TR : Fm → Tree) (f : Fm) (x : Port) (k : TK) : TK :=
 if f.row x.reg = [] then k else
  ⟨(kM k.H k.o (aZ (k.xs ++ [(mu TR f x).av]))).set T0 [.v (.os k.H.next (k.xs.length + 1) 2), .v rest], .os k.H.next (k.xs.length + 1) 2, k.xs ++ [(mu TR f x).av]⟩
def Bu (T0 : Nat) (rest : AV) (TR : Fm → Tree) (f : Fm) (zs : List Port) (k0 : TK) : Nat → TK
 | 0 => k0
 | i + 1 => (Bu T0 rest TR f zs k0 i).step T0 rest TR f (iO zs i)
structure Ji (n T0 : Nat) (rest : AV) (K0 : Hp) (k : TK) : Prop where
 nx : n ≤ k.H.next
 low : ∀ id, id < n → id ≠ T0 → k.H.obj id = K0.obj id
 t : k.H.obj T0 = some [.v k.o, .v rest]
 ops : di k.H k.o 2 k.xs
 ne : ∀ id m e, k.o = .os id m e → n ≤ id
 es : ∀ e ∈ k.xs, e.cells.length = 2
theorem Ji.step {n T0 : Nat} {rest : AV} {K0 : Hp} {k : TK} (h : Ji n T0 rest K0 k) (hT : T0 < n) (TR : Fm → Tree) (f : Fm) (x : Port) : Ji n T0 rest K0 (k.step T0 rest TR f x) := by
 unfold TK.step
 split
 ·exact h
 ·have hn := h.nx
  refine ⟨by show n ≤ (kM _ _ _).next; rw [mo]; omega, fun id h1 h2 => ?_, Hp.bN, .inr ⟨k.H.next, ?_, ?_⟩, fun id m e he => ?_, fun e he => ?_⟩
  ·show (Hp.set _ _ _).obj id = _
   simp only [Hp.set, if_neg h2]
   rw [mV (by omega) (fun m e he => by have := h.ne id m e he; omega)]
   exact h.low id h1 h2
  ·show AV.os _ _ _ = AV.os _ _ _
   rw [List.length_append]; rfl
  ·show (Hp.set _ _ _).obj _ = _
   have : k.H.next ≠ T0 := by omega
   simp only [Hp.set, if_neg this]
   exact Gn
  ·cases he; exact hn
  ·rcases List.mem_append.1 he with h1 | h1
   ·exact h.es e h1
   ·simp only [List.mem_singleton] at h1
    subst h1
    unfold mu
    rw [Slot.bC]; rfl
theorem Ji.at {n T0 : Nat} {rest : AV} {K0 : Hp} {k0 : TK} (h : Ji n T0 rest K0 k0) (hT : T0 < n) (TR : Fm → Tree) (f : Fm) (zs : List Port) : ∀ i, Ji n T0 rest K0 (Bu T0 rest TR f zs k0 i)
 | 0 => h
 | i + 1 => (Ji.at h hT TR f zs i).step hT TR f _
theorem Du {T0 : Nat} {rest : AV} {TR : Fm → Tree} {f : Fm} {zs : List Port} {k0 : TK} : ∀ i, i ≤ zs.length → (Bu T0 rest TR f zs k0 i).xs = k0.xs ++ ((zs.take i).filterMap fun x => if f.row x.reg = [] then none else some (mu TR f x).av)
 | 0, _ => by simp [Bu]
 | i + 1, h => by
  have hi : i < zs.length := by omega
  have ha : iO zs i = zs[i] := by unfold iO; rw [List.getD_eq_getElem?_getD, List.getElem?_eq_getElem hi]; rfl
  rw [Bu, dL hi, List.filterMap_append, ← List.append_assoc, ← Du (T0 := T0) (rest := rest) i (by omega), ha]
  unfold TK.step
  split
  ·rename_i hc; simp [hc]
  ·rename_i hc; simp [hc]
theorem Fm.At.mono {H H' : Hp} {f : Fm} (h : f.At H) (hs : ∀ id cs, H.obj id = some cs → H'.obj id = some cs) : f.At H' := by
 induction h with
 | mk f h1 h2 hb h3 ih => exact .mk f (hs _ _ h1) (hs _ _ h2) hb ih
def AA (K : Hp) (o : AV) (T0 : Nat) (cs : List Hc) : Hp := match o with | .os id _ _ => (K.del id).set T0 cs | _ => K.set T0 cs
theorem Kept.M4 {s : St} {Q : St → Prop} (T0 : Nat) {K : Hp} {o rest : AV} {xs : List AV} (hH : get s .h = some (.hp K)) (ht : K.obj T0 = some [.v o, .v rest]) (ho : di K o 2 xs) (hne : ∀ id m e, o = .os id m e → id ≠ T0) (hes : ∀ e ∈ xs, e.cells.length = 2)
  (h : Kept ((.h, .hp (AA K o T0 [.v (.sl xs), .v rest])) :: s) Q) : Kept s Q := by
 rcases ho with ⟨rfl, rfl⟩ | ⟨id, rfl, ho⟩
 ·exact Kept.JH T0 0 hH ht rfl h
 ·have hfl : (xs.flatMap AV.cells).length = xs.length * 2 := dC hes
  refine Kept.M1 T0 0 (ys := xs) (esz := 2) (xs := xs.flatMap AV.cells) hH ht rfl ho (fun e => hne id _ _ rfl e.symm) hes (by rw [← hfl, List.take_length]) (Nat.le_refl _) ?_
  rw [List.take_length]
  exact fun E N a w ⟨G, L, hr⟩ => h E N a w ⟨G, L, hr.ext fun c => by simp only [get]; split <;> rfl⟩
theorem GM {K : Hp} {o : AV} {T0 : Nat} {cs : List Hc} : (AA K o T0 cs).obj T0 = some cs := by
 unfold AA; split <;> exact Hp.bN
theorem xq {K : Hp} {o : AV} {T0 id : Nat} {cs : List Hc} (h : id ≠ T0) (ho : ∀ m e, o ≠ .os id m e) : (AA K o T0 cs).obj id = K.obj id := by
 unfold AA
 split
 ·rename_i i m e
  have : id ≠ i := fun e2 => ho m e (by rw [e2])
  simp [Hp.set, Hp.del, h, this]
 ·simp [Hp.set, h]
def cL (ps : List aQ) (bh : Bool) (rest : AV) (H : Hp) : Hp := (((H.new [.v (.sl (ps.map aQ.av))]).new [.v (.bool bh)]).new [.v (.sl []), .v (.sl [])]).new [.v .nsl, .v rest]
def dg (ps : List aQ) (bh : Bool) (f : Fm) (side : List Port) (rest : AV) (H : Hp) : Hp := fv (.os (H.next + 5) side.length 9) f.ptr (jO (side.map Port.av) (cL ps bh rest H))
def pG (ps : List aQ) (bh : Bool) (f : Fm) (side : List Port) (rest : AV) (H : Hp) : Hp := (dg ps bh f side rest H).set (H.next + 5) (aZ ((cm side).map Port.av))
def vC (TR : Fm → Tree) (f : Fm) (zs : List Port) : Tree := .mk (zs.filterMap fun x => if f.row x.reg = [] then none else some (mu TR f x)) f.rest
section
variable {ps : List aQ} {bh : Bool} {f : Fm} {side : List Port} {rest : AV} {H : Hp}
theorem O1 : (dg ps bh f side rest H).obj H.next = some [.v (.sl (ps.map aQ.av))] := by
 simp [dg, fv, jO, cL, Hp.new, Hp.set, Hp.del, Nat.add_assoc]
theorem O2 : (dg ps bh f side rest H).obj (H.next + 1) = some [.v (.bool bh)] := by
 simp [dg, fv, jO, cL, Hp.new, Hp.set, Hp.del]
theorem O0 : (dg ps bh f side rest H).obj (H.next + 2) = some [.v (.sl []), .v (.sl [])] := by
 simp [dg, fv, jO, cL, Hp.new, Hp.set, Hp.del]
theorem OZ : (dg ps bh f side rest H).obj (H.next + 3) = some [.v .nsl, .v rest] := by
 simp [dg, fv, jO, cL, Hp.new, Hp.set, Hp.del]
theorem Kd : (dg ps bh f side rest H).obj (H.next + 5) = some (aZ (side.map Port.av)) := by
 simp [dg, fv, jO, cL, Hp.new, Hp.set, Hp.del]
theorem NB : (dg ps bh f side rest H).obj (H.next + 6) = some [.v (.os (H.next + 5) side.length 9)] := by
 simp [dg, fv, jO, cL, Hp.new, Hp.set, Hp.del]
theorem O3 : (dg ps bh f side rest H).obj (H.next + 7) = some [.v f.ptr] := by
 simp [dg, fv, jO, cL, Hp.new, Hp.set, Hp.del]
theorem Ke {id : Nat} (h : id < H.next) : (dg ps bh f side rest H).obj id = H.obj id := by
 have h0 : id ≠ H.next := by omega
 have h1 : id ≠ H.next + 1 := by omega
 have h2 : id ≠ H.next + 2 := by omega
 have h3 : id ≠ H.next + 3 := by omega
 have h4 : id ≠ H.next + 4 := by omega
 have h5 : id ≠ H.next + 5 := by omega
 have h6 : id ≠ H.next + 6 := by omega
 have h7 : id ≠ H.next + 7 := by omega
 simp [dg, fv, jO, cL, Hp.new, Hp.set, Hp.del, h0, h1, h2, h3, h4, h5, h6, h7]
theorem yn {id : Nat} (h : id ≠ H.next + 5) : (pG ps bh f side rest H).obj id = (dg ps bh f side rest H).obj id := by
 simp [pG, Hp.set, h]
theorem OY : Ji (H.next + 8) (H.next + 3) rest (pG ps bh f side rest H) ⟨pG ps bh f side rest H, .nsl, []⟩ :=
 ⟨Nat.le_refl _, fun _ _ _ => rfl, (yn (by omega)).trans OZ, .inl ⟨rfl, rfl⟩, fun _ _ _ e => (by cases e), fun e he => (by cases he)⟩
end
def fD (ps : List aQ) (bh : Bool) (f : Fm) (side : List Port) (rest : AV) (TR : Fm → Tree) (H : Hp) (i : Nat) : TK :=
 Bu (H.next + 3) rest TR f (cm side) ⟨pG ps bh f side rest H, .nsl, []⟩ i
theorem gv {ps : List aQ} {bh : Bool} {f : Fm} {side : List Port} {rest : AV} {TR : Fm → Tree} {H : Hp} (i : Nat) : Ji (H.next + 8) (H.next + 3) rest (pG ps bh f side rest H) (fD ps bh f side rest TR H i) := OY.at (by omega) TR f _ i
theorem m8 {ps : List aQ} {bh : Bool} {f : Fm} {side : List Port} {rest : AV} {TR : Fm → Tree} {H : Hp} (i : Nat) {id : Nat} (h : id < H.next) : (fD ps bh f side rest TR H i).H.obj id = H.obj id := by
 rw [(gv i).low id (by omega) (by omega), yn (by omega), Ke h]
theorem kQ {ps : List aQ} {bh : Bool} {f : Fm} {side : List Port} {rest : AV} {TR : Fm → Tree} {H : Hp} (i : Nat) {id : Nat} (h : id < H.next + 8) (h3 : id ≠ H.next + 3) (h5 : id ≠ H.next + 5) : (fD ps bh f side rest TR H i).H.obj id = (dg ps bh f side rest H).obj id := by
 rw [(gv i).low id h h3, yn h5]
theorem Bt {ps : List aQ} {bh : Bool} {f : Fm} {side : List Port} {rest : AV} {TR : Fm → Tree} {H : Hp} (i : Nat) : (fD ps bh f side rest TR H i).H.obj (H.next + 5) = some (aZ ((cm side).map Port.av)) := by
 rw [(gv i).low _ (by omega) (by omega)]; exact Hp.bN
theorem JV {ps : List aQ} {bh : Bool} {f : Fm} {side : List Port} {rest : AV} {TR : Fm → Tree} {H : Hp} (hfin : H.fin) (h12 : side.length ≤ 12) (hA : f.At H) (hreg : ∀ i, i < side.length → 0 ≤ (iO (cm side) i).reg ∧ (iO (cm side) i).reg < f.aE.length) :
  mZ Tryz.prog 99 [.op (H.next + 6) 0, .op (H.next + 7) 0] (dg ps bh f side rest H) (KS f (cm side) fun i => (fD ps bh f side rest TR H i).H) (fD ps bh f side rest TR H side.length).H := by
 have o1 := hA.o1
 have o2 := hA.o2
 have lt : ∀ {id cs}, H.obj id = some cs → id < H.next := fun {id cs} e => by
  rcases Nat.lt_or_ge id H.next with q | q
  ·exact q
  ·rw [hfin id q] at e; cases e
 refine JW side h12 f (H.next + 6) (H.next + 7) (H.next + 5) _ (fun i => (fD ps bh f side rest TR H i).H) Kd NB rfl (fun i _ => (kQ i (by omega) (by omega) (by omega)).trans NB) (fun i _ => (kQ i (by omega) (by omega) (by omega)).trans O3)
  (fun i _ => (m8 i (lt o1)).trans o1) (fun i _ => (m8 i (lt o2)).trans o2) (fun i _ => Bt i) hreg (fun i hi he => ?_)
 show (fD ps bh f side rest TR H i).H = ((fD ps bh f side rest TR H i).step (H.next + 3) rest TR f (iO (cm side) i)).H
 unfold TK.step
 rw [if_pos he]
theorem Fh : lk Tryz.prog 29 = some (false, 1) := by kernel_rfl
theorem zh : lk Tryz.prog 30 = some (false, 1) := by kernel_rfl
theorem mK : lk Tryz.prog 32 = some (true, 2) := by kernel_rfl
theorem BR : lk Tryz.prog 4 = some (false, 1) := by kernel_rfl
theorem EL : se Tryz.prog 29 = some (78, 2, 32) := by kernel_rfl
theorem EK : se Tryz.prog 54 = some (32, 2, 48) := by kernel_rfl
theorem yz : se Tryz.prog 76 = some (81, 3, 48) := by kernel_rfl
theorem vL : D9 Tryz.prog 32 = some [(0, 1), (1, 1)] := by kernel_rfl
theorem Aa : D9 Tryz.prog 78 = some [(0, 1), (1, 1)] := by kernel_rfl
theorem HO : cE Tryz.prog 78 = some [AV.int IntKind.i64 (0), AV.sl []] := by kernel_rfl
theorem HN : cE Tryz.prog 32 = some [AV.sl [], AV.sl []] := by kernel_rfl
theorem KR : np Tryz.prog 32 = some [.nsl, .nsl] := by kernel_rfl
theorem Mr : np Tryz.prog 78 = some [.int .i64 0, .nsl] := by kernel_rfl
theorem Cy (o : Option Fm) : js (.v (IZ o)) = some o.isNone := by cases o <;> rfl
theorem FQ (t : Tree) : cg 2 [t.av] = true := by rw [Tree.bC]; rfl
def jJ (TR : Fm → Tree) (row : List cT) (k : Nat) : List bF := (row.take k).map (nC TR)
theorem qC {TR : Fm → Tree} {row : List cT} {k : Nat} (hk : k < row.length) : (jJ TR row k).map bF.av ++ [(nC TR row[k]).av] = (jJ TR row (k + 1)).map bF.av := by
 unfold jJ; rw [dL hk, List.map_append, List.map_append]; rfl
theorem vB {v : CV} {num : Sv} {rest : List (aI × CV)} {el esz : Nat} {A B : List AV} {b : AV} (h : A ++ [b] = B) : ((aI.s 37, v) :: (aI.b 10, CV.bx [num, .ow 160 (A ++ [b])]) :: (aI.t 160, CV.tk false el esz (A ++ [b])) :: rest) = [(aI.s 37, v), (aI.b 10, CV.bx [num, .ow 160 B]), (aI.t 160, CV.tk false el esz B)] ++ rest := by rw [h]; rfl
theorem AM {TR : Fm → Tree} {c : cT} {g : Fm} (h : c.f = some g) : (nC TR c).av = .agg [.int .u64 (c.n : Int), .str c.s, .sl [(TR g).av]] := by unfold nC; rw [h, bF.bC]; rfl
theorem AN {TR : Fm → Tree} {c : cT} (h : c.f = none) : (nC TR c).av = .agg [.int .u64 (c.n : Int), .str c.s, .sl []] := by unfold nC; rw [h, bF.bC]; rfl
theorem Dt {ps : List aQ} {bh : Bool} {f : Fm} {side : List Port} {TR : Fm → Tree} {H : Hp} : AV.agg [.sl (fD ps bh f side (.sl (f.rest.map Rw.av)) TR H side.length).xs, .sl (f.rest.map Rw.av)] = (vC TR f (cm side)).av := by
 unfold fD
 rw [Du _ (by rw [iF]; exact Nat.le_refl _), List.take_of_length_le (by rw [iF]; exact Nat.le_refl _), List.nil_append, Tree.bC]
 show _ = AV.agg [.sl ((List.filterMap _ _).map Slot.av), _]
 rw [List.map_filterMap]
 congr 3
 congr 1
 funext x
 split <;> rfl
theorem Ej (ps : List aQ) (bh : Bool) (f : Fm) (q : aQ) (hq : ps[f.part]? = some q) (h12 : (q.side bh).length ≤ 12) (hne : q.side bh ≠ []) (hreg : ∀ i, i < (q.side bh).length → 0 ≤ (iO (cm (q.side bh)) i).reg ∧ (iO (cm (q.side bh)) i).reg < f.aE.length)
  (TR : Fm → Tree) (hrest : f.rest.length ≤ 1000000) (bw : ∀ l ∈ f.aE, l.length ≤ 1000000) (H : Hp) (hfin : H.fin) (hA : f.At H) (hsub : ∀ l ∈ f.aE, ∀ c ∈ l, ∀ g, c.f = some g → ∀ H', g.At H' → cB Tryz.prog 33 [cA ps, .bool bh, g.ptr] H' (TR g).av H') (K : TK) (hK : K = fD ps bh f (q.side bh) (.sl (f.rest.map Rw.av)) TR H (q.side bh).length) :
  cB Tryz.prog 33 [cA ps, .bool bh, f.ptr] H (vC TR f (cm (q.side bh))).av ((AA K.H K.o (H.next + 3) [.v (.sl K.xs), .v (.sl (f.rest.map Rw.av))]).set (H.next + 2) [.v (.sl K.xs), .v (.sl (f.rest.map Rw.av))]) := by
 have e0 : cA ps = .agg [.sl (ps.map aQ.av)] := rfl
 subst hK
 refine cB.BI Tryz.func33 rfl rfl (gQ rfl) (qj.seq (aK.region (aD.run II 3 rfl (aD.kept (Kept.qO 3 rfl rfl (Kept.op 3 rfl rfl (Kept.cls 3 rfl rfl rfl rfl (Kept.qO 4 rfl rfl (Kept.op 4 rfl rfl (Kept.cls 4 rfl rfl rfl rfl (Kept.qO 6 rfl rfl (Kept.op 6 rfl rfl (Kept.cls 6 rfl rfl rfl rfl (Kept.now ⟨rfl, ?_⟩))))))))))))))
 have hlt : ∀ {id : Nat} {cs : List Hc}, H.obj id = some cs → id < H.next := fun {id cs} e => by
  rcases Nat.lt_or_ge id H.next with q | q
  ·exact q
  ·rw [hfin id q] at e; cases e
 have hAt : ∀ {K : Hp} {id : Nat} {cs : List Hc}, H.obj id = some cs → (∀ i, i < H.next → K.obj i = H.obj i) → K.obj id = some cs := fun {K id cs} e hl => (hl id (hlt e)).trans e
 have hlow3 : ∀ i, i < H.next → (((H.new [.v (.sl (ps.map aQ.av))]).new [.v (.bool bh)]).new [.v (.sl []), .v (.sl [])]).obj i = H.obj i := fun i hi => by
  have h0 : i ≠ H.next := by omega
  have h1 : i ≠ H.next + 1 := by omega
  have h2 : i ≠ H.next + 2 := by omega
  simp [Hp.new, Hp.set, h0, h1, h2]
 have hlow4 : ∀ i, i < H.next → (cL ps bh (.sl (f.rest.map Rw.av)) H).obj i = H.obj i := fun i hi => by
  have h0 : i ≠ H.next := by omega
  have h1 : i ≠ H.next + 1 := by omega
  have h2 : i ≠ H.next + 2 := by omega
  have h3 : i ≠ H.next + 3 := by omega
  simp [cL, Hp.new, Hp.set, h0, h1, h2, h3]
 refine qj.seq (aK.region (aD.run II 3 rfl (aD.c1 rfl (bB (aH rfl) zh rfl rfl (hAt hA.o1 hlow3) rfl) (aD.c1 rfl (aX (aH rfl) (Fn rfl) rfl (nP f.rest hrest)) (aD.c1 rfl (gx (aH rfl) vL KR rfl rfl) (aD.run II 2 rfl (aD.kept (Kept.qO 7 rfl rfl (Kept.op 7 rfl rfl (Kept.cls 7 rfl rfl rfl rfl (Kept.now ⟨rfl, (qj.NC (aK.drawn mixed rfl (aY.c1 rfl (bB (aH rfl) kF rfl rfl (show (cL ps bh (.sl (f.rest.map Rw.av)) H).obj H.next = some [.v (.sl (ps.map aQ.av))] by simp [cL, Hp.new, Hp.set, Nat.add_assoc]) rfl) ?_)))⟩)))))))))))
 refine aY.c1 rfl (bB (aH rfl) BR rfl rfl (show (cL ps bh (.sl (f.rest.map Rw.av)) H).obj (H.next + 1) = some [.v (.bool bh)] by simp [cL, Hp.new, Hp.set, Nat.add_assoc]) rfl) (aY.run II 3 rfl (aY.c1 rfl (bB (aH rfl) ib rfl rfl (hAt hA.o1 hlow4) rfl) (aY.c2 rfl (bf (aH rfl) (Fn rfl) rfl rfl (Ef ps bh f.part q hq (by omega) hne _)) (aY.run II 1 rfl (aY.c2 rfl (bf (aH rfl) (Fn rfl) rfl rfl (Lh _ _ _ _ _)) (aY.nil (by kernel_rfl) (Kept.az [.h, .s 3, .s 4, .s 6, .s 7, .s 28] rfl (by decide) (Kept.now ⟨rfl, (Gy.range (H := dg ps bh f (q.side bh) (.sl (f.rest.map Rw.av)) H) (H2 := (fD ps bh f (q.side bh) (.sl (f.rest.map Rw.av)) TR H (q.side bh).length).H) (caps := [.op (H.next + 6) 0, .op (H.next + 7) 0]) (ps := [29, 30]) (fun _ => rfl) (fun _ => rfl) rfl rfl (by kernel_rfl) (JV hfin h12 hA hreg) (by decide) (by decide) ?_ ?_ ?_)⟩))))))))
 ·intro y hy
  obtain ⟨i, _, hi⟩ := List.mem_filterMap.1 hy
  split at hi
  ·cases hi
  ·cases hi; rfl
 ·intro y hy
  obtain ⟨i, hi0, hi⟩ := List.mem_filterMap.1 hy
  split at hi
  ·cases hi
  rename_i hrw
  cases hi
  have hi1 : i < (q.side bh).length := by have := List.mem_range.1 hi0; rwa [iF] at this
  obtain ⟨x, hx⟩ : ∃ x, iO (cm (q.side bh)) i = x := ⟨_, rfl⟩
  obtain ⟨row, hrw0⟩ : ∃ row, f.row x.reg = row := ⟨_, rfl⟩
  have hxr := hreg i hi1
  rw [hx] at hrw hxr
  have hrm : row ∈ f.aE := by
   rw [← hrw0]; unfold Fm.row
   rw [List.getD_eq_getElem?_getD, List.getElem?_eq_getElem (show x.reg.toNat < f.aE.length by omega)]
   exact List.getElem_mem _
  have hrl := bw row hrm
  have KI := gv (ps := ps) (bh := bh) (f := f) (side := q.side bh) (rest := .sl (f.rest.map Rw.av)) (TR := TR) (H := H) i
  obtain ⟨k0, hk0⟩ : ∃ k0, fD ps bh f (q.side bh) (.sl (f.rest.map Rw.av)) TR H i = k0 := ⟨_, rfl⟩
  have hP0 : k0.H.obj H.next = some [.v (.sl (ps.map aQ.av))] := by rw [← hk0]; exact (kQ i (by omega) (by omega) (by omega)).trans O1
  have hB0 : k0.H.obj (H.next + 1) = some [.v (.bool bh)] := by rw [← hk0]; exact (kQ i (by omega) (by omega) (by omega)).trans O2
  have hold : ∀ id cs, H.obj id = some cs → k0.H.obj id = some cs := fun id cs e => hAt e fun j hj => by rw [← hk0]; exact m8 i hj
  rw [hk0] at KI
  have hxl : k0.xs.length ≤ 12 := by
   rw [← hk0]; unfold fD; rw [Du i (by rw [iF]; omega)]
   have := List.length_filterMap_le (fun x => if f.row x.reg = [] then none else some (mu TR f x).av) ((cm (q.side bh)).take i)
   rw [List.length_take, iF] at this
   simp only [List.nil_append]; omega
  have hKn : (fD ps bh f (q.side bh) (.sl (f.rest.map Rw.av)) TR H (i + 1)).H = (kM k0.H k0.o (aZ (k0.xs ++ [(mu TR f x).av]))).set (H.next + 3) [.v (.os k0.H.next (k0.xs.length + 1) 2), .v (.sl (f.rest.map Rw.av))] := by
   show ((fD ps bh f (q.side bh) (.sl (f.rest.map Rw.av)) TR H i).step _ _ _ _ _).H = _
   rw [hk0, hx]; unfold TK.step; rw [if_neg hrw]
  show wJ _ _ _ _ _ _ [(iO (cm (q.side bh)) i).av, j4 (f.row (iO (cm (q.side bh)) i).reg)] (fD ps bh f (q.side bh) (.sl (f.rest.map Rw.av)) TR H i).H (fD ps bh f (q.side bh) (.sl (f.rest.map Rw.av)) TR H (i + 1)).H
  rw [hKn, hk0, hx, hrw0]
  intro E l
  refine ar.seq (ar.region (aD.run II 2 rfl (aD.nil (ar.region (aD.run II 1 rfl (aD.nil ⟨rfl, fun E' => (ar.blk (ar.seq (ar.region (aD.run II 3 rfl ?_))))⟩))))))
  refine aD.c1 rfl (gx (aH rfl) Aa Mr rfl rfl) (aD.run II 2 rfl (aD.kept (Kept.sT 10 1 160 81 3 rfl rfl rfl rfl (by decide) (Kept.now ?_))))
  iterate 2 (refine ar.seq ?_)
  refine ar.region (aD.run II 3 rfl (aD.nil (ar.blk (ar.cy (Kept.az [.s 37, .b 10, .t 160, .h, .s 3, .s 4, .s 6, .s 7, .s 10, .s 35, .s 36] rfl (by decide) (Kept.now (ar.k7 (fun (k : Nat) => [(.s 37, .sv (.v (.int .i64 (k : Int)))), (.b 10, .bx [.v (.int .i64 x.f.num), .ow 160 ((jJ TR row k).map bF.av)]), (.t 160, .tk false 81 3 ((jJ TR row k).map bF.av))]) _ (fun (k : Nat) => True) (fun (k : Nat) => row.length - k) 0 rfl trivial ?_)))))))
  rintro k hK
  refine ar.seq (ar.region (aD.run II 1 rfl (aD.nil (ar.seq (ar.cond rfl (fun hc1 => ?_) (fun hc1 => ?_))))))
  ·have hk := cz hc1
   refine ar.skip (ar.seq (ar.blk (ar.seq (ar.region (aD.c1 rfl (ak (aH rfl) zv rfl rfl (Int.natCast_nonneg _) (ca hk) rfl) (aD.run II 3 rfl (aD.nil (ar.seq (ar.region (aD.run II 7 rfl (aD.nil ?_)))))))))))
   iterate 2 (refine ar.seq ?_)
   refine ar.region (aD.run II 2 rfl (aD.c1 rfl (ve (aH rfl) pI rfl (Cy _)) (aD.nil (ar.cond rfl (fun hc2 => ?_) (fun hc2 => ?_)))))
   ·obtain ⟨g, hg⟩ : ∃ g, (row[k]'hk).f = some g := by cases e : (row[k]'hk).f with | none => rw [e] at hc2; cases hc2 | some g => exact ⟨g, rfl⟩
    refine ar.region (aD.c1 rfl (bB (aH rfl) kF rfl rfl hP0 rfl) (aD.c1 rfl (bB (aH rfl) BR rfl rfl hB0 rfl) (aD.run II 2 rfl (aD.c1 rfl (bu (aH rfl) (Fn rfl) rfl rfl (by rw [hg]; exact hsub row hrm _ (List.getElem_mem hk) g hg k0.H ((hA.o3 row hrm _ (List.getElem_mem hk) g hg).mono hold))) ?_))))
    refine aD.c1 rfl (FC («as» := [_]) (aH rfl) EK HN rfl rfl (FQ _) (gQ rfl)) (aD.run II 2 rfl (aD.nil (ar.region (aD.run II 4 rfl (aD.c3 rfl (jS (aH rfl) yz rfl rfl rfl rfl rfl (by simp only [List.length_map, jJ, List.length_take, List.length_cons, List.length_nil]; omega) (by simp only [List.length_map, jJ, List.length_take, List.length_cons, List.length_nil]; omega)) ?_)))))
    exact aD.run II 2 rfl (aD.nil (ar.region (aD.run II 2 rfl (aD.kept (Kept.c6 37 rfl (inc (by omega)) (Kept.az [.s 37, .b 10, .t 60, .h, .s 3, .s 4, .s 6, .s 7, .s 10, .s 35, .s 36] rfl (by decide) (Kept.cO 60 160 (by decide) rfl (Kept.now ⟨k + 1, by omega, trivial, vB (by rw [← qC hk, AM hg])⟩))))))))
   ·refine ar.skip (ar.region (aD.run II 4 rfl (aD.c3 rfl (jS (aH rfl) yz rfl rfl rfl rfl rfl (by simp only [List.length_map, jJ, List.length_take, List.length_cons, List.length_nil]; omega) (by simp only [List.length_map, jJ, List.length_take, List.length_cons, List.length_nil]; omega)) ?_)))
    exact aD.run II 2 rfl (aD.nil (ar.region (aD.run II 2 rfl (aD.kept (Kept.c6 37 rfl (inc (by omega)) (Kept.az [.s 37, .b 10, .t 60, .h, .s 3, .s 4, .s 6, .s 7, .s 10, .s 35, .s 36] rfl (by decide) (Kept.cO 60 160 (by decide) rfl (Kept.now ⟨k + 1, by omega, trivial, vB (by rw [← qC hk, AN (by cases e : (row[k]'hk).f with | none => rfl | some g => rw [e] at hc2; cases hc2)])⟩))))))))
  ·have hk := dA hc1
   refine ar.exit (ar.region (aD.run II 1 rfl (aD.c1 rfl (bB (aH rfl) Fh rfl rfl KI.t rfl) (aD.run II 2 rfl (aD.c3 rfl (lK (aH rfl) EL HO rfl rfl KI.ops KI.es rfl rfl (List.cons_ne_nil _ _) rfl (by simp only [List.length_cons, List.length_nil]; omega) (by simp only [List.length_cons, List.length_nil]; omega)) ?_)))))
   refine aD.run II 1 rfl (aD.c1 rfl (sO Fh rfl rfl (show (kM k0.H k0.o _).obj (H.next + 3) = some [.v k0.o, .v (.sl (f.rest.map Rw.av))] from (mV (show H.next + 3 < k0.H.next by have := KI.nx; omega) (fun m e h1 => by have := KI.ne _ m e h1; omega)).trans KI.t) rfl rfl rfl) ?_)
   refine aD.nil ?_
   have hs : (mu TR f x).av = .agg [.int .i64 x.f.num, .sl ((jJ TR row k).map bF.av)] := by
    unfold mu jJ; rw [hrw0, List.take_of_length_le hk, Slot.bC]; rfl
   exact ⟨rfl, by rw [hs]; rfl⟩
 ·refine aK.cy (Kept.M4 (H.next + 3) rfl ((gv _).t) ((gv _).ops) (fun id m e h1 h2 => by have := (gv _).ne id m e h1; omega) ((gv _).es) (Kept.now ?_))
  refine aK.seq (aK.region (aD.c1 rfl (bB (aH rfl) mK rfl rfl GM rfl) (aD.c1 rfl (vd mK rfl rfl (show (AA (fD ps bh f (q.side bh) (.sl (f.rest.map Rw.av)) TR H (q.side bh).length).H (fD ps bh f (q.side bh) (.sl (f.rest.map Rw.av)) TR H (q.side bh).length).o (H.next + 3) [.v (.sl (fD ps bh f (q.side bh) (.sl (f.rest.map Rw.av)) TR H (q.side bh).length).xs), .v (.sl (f.rest.map Rw.av))]).obj (H.next + 2) = some [.v (.sl []), .v (.sl [])] from (xq (by omega) (fun m e h1 => by have := (gv _).ne _ m e h1; omega)).trans ((kQ _ (by omega) (by omega) (by omega)).trans O0)) rfl rfl rfl (gQ rfl) rfl) ?_)))
  exact aD.nil (aK.ret ⟨.inr rfl, (aM.r1 rfl (.celo mK rfl rfl Hp.bN rfl rfl .nil)).cast (Dt), rfl⟩)
theorem Ei (ps : List aQ) (bh : Bool) (f : Fm) (q : aQ) (hq : ps[f.part]? = some q) (h12 : (q.side bh).length ≤ 12) (hne : q.side bh ≠ []) (hreg : ∀ i, i < (q.side bh).length → 0 ≤ (iO (cm (q.side bh)) i).reg ∧ (iO (cm (q.side bh)) i).reg < f.aE.length)
  (TR : Fm → Tree) (hrest : f.rest.length ≤ 1000000) (bw : ∀ l ∈ f.aE, l.length ≤ 1000000) (H : Hp) (hA : f.At H) (hsub : ∀ l ∈ f.aE, ∀ c ∈ l, ∀ g, c.f = some g → ∀ H', g.At H' → cB Tryz.prog 33 [cA ps, .bool bh, g.ptr] H' (TR g).av H') :
  cB Tryz.prog 33 [cA ps, .bool bh, f.ptr] H (vC TR f (cm (q.side bh))).av H := by
 refine cB.fin fun hfin => (cB.drop (Ej ps bh f q hq h12 hne hreg TR hrest bw H hfin hA hsub _ rfl) (Mp.refl H) (fun i hi => ?_) (Tree.mD _))
 have h2 : i ≠ H.next + 2 := by omega
 have KI := gv (ps := ps) (bh := bh) (f := f) (side := q.side bh) (rest := .sl (f.rest.map Rw.av)) (TR := TR) (H := H) (q.side bh).length
 simp only [Hp.set, if_neg h2]
 rw [xq (by omega) (fun m e h1 => by have := KI.ne _ m e h1; omega)]
 exact m8 _ hi
theorem wE {ys : List Port} {j : Nat} (h : j < ys.length) : iO ys j ∈ ys := by
 unfold iO
 rw [List.getD_eq_getElem?_getD, List.getElem?_eq_getElem h]
 exact List.getElem_mem _
theorem H8 {ys : List Port} {j : Nat} (h : j + 1 < ys.length) : ∀ x ∈ vF ys j, x ∈ ys := fun x hx => by
 unfold vF at hx
 rcases List.mem_or_eq_of_mem_set hx with h1 | rfl
 ·rcases List.mem_or_eq_of_mem_set h1 with h2 | rfl
  ·exact h2
  ·exact wE (by omega)
 ·exact wE h
theorem wg : ∀ (j : Nat) (ys : List Port), j < ys.length → ∀ x ∈ gR j ys, x ∈ ys
 | 0, ys, _, x, hx => hx
 | j + 1, ys, h, x, hx => by
  unfold gR at hx
  split at hx
  ·exact H8 h x (wg j _ (by rw [vE]; omega) x hx)
  ·exact hx
theorem uI : ∀ (k i : Nat) (ys : List Port), i + k ≤ ys.length → ∀ x ∈ kT k i ys, x ∈ ys
 | 0, _, _, _, x, hx => hx
 | k + 1, i, ys, h, x, hx => by
  rw [kT] at hx
  exact wg i ys (by omega) x (uI k (i + 1) _ (by rw [rT]; omega) x hx)
theorem EF {xs : List Port} : ∀ x ∈ cm xs, x ∈ xs := fun x hx => by
 cases xs with
 | nil => exact hx
 | cons a l => exact uI _ _ _ (by simp; omega) x hx
def mr (ps : List aQ) (bh : Bool) : Nat → Fm → Tree
 | 0, _ => .mk [] []
 | n + 1, f => vC (mr ps bh n) f (cm ((ps.getD f.part bS).side bh))
theorem E1 : Pure Tryz.prog 174 [.sl [], .int .i64 0, .int .i64 0, .fn 101 []] (.tup []) := by
 refine Pure.go II mixed Tryz.func174 rfl rfl fun H => (aG.lq [.h, .s 0, .s 1, .s 2, .s 3, .s 8] (fun (u : Unit) => []) (fun (u : Unit) => True) (fun (u : Unit) => 0) () rfl rfl trivial ?_)
 rintro u hu
 exact ⟨.inl rfl, (aM.r0 rfl ).cast rfl, rfl⟩
theorem Kt (m : Int) : Pure Tryz.prog 150 [.sl [], .int .i64 0, .int .i64 0, .int .i64 m, .fn 101 []] (.tup []) := by
 refine Pure.go II mixed Tryz.func150 rfl rfl fun H => (aG.lq [.h, .s 0, .s 1, .s 2, .s 3, .s 4, .s 10, .s 11] (fun (u : Unit) => []) (fun (u : Unit) => True) (fun (u : Unit) => 0) () rfl rfl trivial ?_)
 rintro u hu
 exact aB.jc rfl (Fn rfl) rfl E1 ⟨.inr rfl, (aM.r0 rfl ).cast rfl, rfl⟩
theorem ET : Pure Tryz.prog 100 [.sl [], .fn 101 []] (.tup []) := by
 exact Pure.go II mixed Tryz.func100 rfl rfl fun H => (aB.jc rfl (Fn rfl) rfl (Ak 0 (by decide)) (aB.jc rfl (Fn rfl) rfl (Kt _) ⟨.inl rfl, (aM.r0 rfl ).cast rfl, rfl⟩))
theorem Fv (A B : Nat) (H0 : Hp) (hA0 : H0.obj A = some [.v (.sl [])]) : mZ Tryz.prog 99 [.op A 0, .op B 0] H0 [] H0 := by
 refine mZ.ah Tryz.func99 rfl rfl (gQ rfl) rfl fun E l hY => (ar.seq (ar.region (aD.c1 rfl (bB (aH rfl) fk rfl rfl hA0 rfl) (aD.c1 rfl (aX (aH rfl) (Fn rfl) rfl ET) (aD.nil (ar.seq (ar.region (aD.c1 rfl (bB (aH rfl) fk rfl rfl hA0 rfl) (aD.run II 2 rfl (aD.nil (ar.blk ?_)))))))))))
 refine ar.cy (Kept.az [.h, .s 0, .s 2, .s 8, .s 9, .s 10] rfl (by decide) (Kept.now (ar.k7 (fun (u : Unit) => []) _ (fun (u : Unit) => True) (fun (u : Unit) => 0) () rfl trivial ?_)))
 rintro u hu
 exact ar.seq (ar.region (aD.run II 1 rfl (aD.nil (ar.seq (ar.q7 rfl rfl (ar.exit ⟨.inl rfl, rfl⟩))))))
end Go.Proofs.YtgmdapgedlachaaGreatDoor.X
