/- what a case is: Small (ref15, ref24, law31); a case's program (law36) -/
import Derived.Test.YtpifnegikoldmaaGreatDoorZDH
import Derived.Test.YtpifnegikoldmaaGreatDoorZDF
import Derived.Test.YtpifnegikoldmaaGreatDoorZDC
import Derived.RangeFuncSeq
import Derived.RangeFuncRecord
import Derived.OrdersIn
import Derived.TacticsIn
import Derived.ControlIn
import Derived.LoopNIn
import Derived.RangeFuncIn
import Derived.RangeFuncLeaves
set_option linter.unusedVariables false
set_option linter.unusedSimpArgs false
set_option linter.unusedSectionVars false
set_option maxRecDepth 100000
namespace Go.Proofs.YtpifnegikoldmaaGreatDoor.X
open Go Go.RowKit Go.Proofs
theorem ve : aa Tryz.prog 14 = true := by kernel_rfl
theorem GX : aa Tryz.prog 15 = true := by kernel_rfl
theorem GW : aa Tryz.prog 16 = true := by kernel_rfl
structure aM.lens (s : aM) : Prop where
 e : s.enums.length ≤ 140737488355328
 m : s.msgs.length ≤ 140737488355328
 v : ∀ x ∈ s.enums, x.values.length ≤ 140737488355328
 f : ∀ x ∈ s.msgs, x.fields.length ≤ 140737488355328
theorem aM.lens.fT {s : aM} (h : s.lens) : s.fT := ⟨Nat.le_trans h.e (by omega), Nat.le_trans h.m (by omega)⟩
theorem aM.lens.vi {s : aM} (h : s.lens) {i : Nat} (hi : i < s.enums.length) : s.enums[i].values.length ≤ 140737488355328 := h.v _ (List.getElem_mem hi)
theorem aM.lens.fi {s : aM} (h : s.lens) {i : Nat} (hi : i < s.msgs.length) : s.msgs[i].fields.length ≤ 140737488355328 := h.f _ (List.getElem_mem hi)
def xb : List dP → Int → Int
 | [], n => n
 | e :: l, n => if n < 200 then xb l (gj (gj (n + (e.values.length : Int)) + gj ((e.name.length : Int).tdiv 10))) else n
def x9 : List aU → Int → Int
 | [], n => n
 | e :: l, n => if n < 200 then x9 l (gj (gj (gj (n + (e.fields.length : Int)) + (e.ab.length : Int)) + gj ((e.name.length : Int).tdiv 10))) else n
theorem xa {l : List dP} {i : Nat} {n : Int} (h : i < l.length) : xb (l.drop i) n = if n < 200 then xb (l.drop (i + 1)) (gj (gj (n + (l[i].values.length : Int)) + gj ((l[i].name.length : Int).tdiv 10))) else n := by rw [List.drop_eq_getElem_cons h]; rfl
theorem x8 {l : List aU} {i : Nat} {n : Int} (h : i < l.length) : x9 (l.drop i) n = if n < 200 then x9 (l.drop (i + 1)) (gj (gj (gj (n + (l[i].fields.length : Int)) + (l[i].ab.length : Int)) + gj ((l[i].name.length : Int).tdiv 10))) else n := by rw [List.drop_eq_getElem_cons h]; rfl
theorem zH {l : List dP} {i : Nat} {n : Int} (h : l.length ≤ i) : xb (l.drop i) n = n := by rw [List.drop_of_length_le h]; rfl
theorem zG {l : List aU} {i : Nat} {n : Int} (h : l.length ≤ i) : x9 (l.drop i) n = n := by rw [List.drop_of_length_le h]; rfl
def aM.Bs (s : aM) : Int := xb s.enums (gj ((s.enums.length : Int) + (s.msgs.length : Int)))
def aM.EX (s : aM) : Int := x9 s.msgs s.Bs
def j4 (e : dP) : Bool := e.values.any fun v => decide (1000 < v.name.length)
def j3 (m : aU) : Bool := m.fields.any fun f => decide (1000 < f.name.length) || decide (1000 < f.ref.length) || decide (1000 < f.one.length)
def aM.small (s : aM) : Bool := !decide (200 ≤ s.EX) && !s.enums.any j4 && !s.msgs.any j3
theorem CP (s : aM) (hs : s.lens) : Pure Tryz.prog 15 [s.av] (.bool s.small) := by
 have he := hs.e
 have hm := hs.m
 refine Pure.aN Tryz.func15 rfl rfl (aF rfl) fun H => (aC.seq (aC.region (aB.run II 2 rfl (aB.nil (aC.seq (aC.region (aB.run II 8 rfl (aB.nil (aC.c8 [.h, .s 1, .b 1] (fun (n : Int) => [(.s 3, .sv (.v (.int .i64 n)))]) (fun (n : Int) => n = s.Bs) rfl ?_ ?_)))))))))
 ·refine aC.seq (aC.region (aB.run II 1 rfl (aB.nil (aC.blk (aC.aJ (Kept.aH [.s 4, .s 3, .h, .s 1, .b 1] rfl (by decide) (Kept.now (aC.aW (fun ((i, n) : Nat × Int) => [(.s 4, .sv (.v (.int .i64 (i : Int)))), (.s 3, .sv (.v (.int .i64 n)))]) _ (fun ((i, n) : Nat × Int) => xb (s.enums.drop i) n = s.Bs) (fun ((i, n) : Nat × Int) => s.enums.length - i) (0, _) rfl (by simp [aM.Bs]) ?_))))))))
  rintro ⟨i, n⟩ hI
  refine aC.seq (aC.seq (aC.region (aB.run II 6 rfl (aB.tell (d := 23) rfl (fun hg1 => ?_) (fun hg1 => ?_)))))
  ·have hi := ch hg1
   have hS := @xa s.enums i n hi
   refine aB.run II 3 rfl (aB.nil (aC.cond rfl (fun hc2 => ?_) (fun hc2 => ?_)))
   ·exact aC.skip (aC.seq (aC.blk (aC.drawn mixed rfl (aD.run II 4 rfl (aD.c1 rfl (aI (aF rfl) cn rfl rfl (Int.natCast_nonneg _) (bz hi) rfl) (aD.run II 7 rfl (aD.c1 rfl (aI (aF rfl) cn rfl rfl (Int.natCast_nonneg _) (bz hi) rfl) (aD.run II 6 rfl (aD.nil (by kernel_rfl) (Kept.now (aC.region (aB.run II 3 rfl (aB.kept (Kept.aX 4 rfl (inc (by omega)) (Kept.aH [.s 4, .s 3, .h, .s 1, .b 1] rfl (by decide) (Kept.now ⟨(i + 1, _), (by dsimp only; omega), by simp only [List.length_map] at *; grind, rfl⟩))))))))))))))))
   ·exact aC.aJ (Kept.aH [.s 3, .h, .s 1, .b 1] rfl (by decide) (Kept.now (aC.exit ⟨_, by grind, rfl⟩)))
  ·have hi := ck hg1
   have hS := @zH s.enums i n hi
   exact aB.run II 3 rfl (aB.nil (aC.bR rfl rfl (aC.aJ (Kept.aH [.s 3, .h, .s 1, .b 1] rfl (by decide) (Kept.now (aC.exit ⟨_, by grind, rfl⟩))))))
 ·rintro n hF6
  refine aC.c8 [.h, .s 1, .b 1] (fun (n : Int) => [(.s 3, .sv (.v (.int .i64 n)))]) (fun (n : Int) => n = s.EX) rfl ?_ ?_
  ·refine aC.seq (aC.region (aB.run II 1 rfl (aB.nil (aC.blk (aC.aJ (Kept.aH [.s 5, .s 3, .h, .s 1, .b 1] rfl (by decide) (Kept.now (aC.aW (fun ((i, n) : Nat × Int) => [(.s 5, .sv (.v (.int .i64 (i : Int)))), (.s 3, .sv (.v (.int .i64 n)))]) _ (fun ((i, n) : Nat × Int) => x9 (s.msgs.drop i) n = s.EX) (fun ((i, n) : Nat × Int) => s.msgs.length - i) (0, _) rfl (by subst hF6; rfl) ?_))))))))
   rintro ⟨i, n⟩ hI
   refine aC.seq (aC.seq (aC.region (aB.run II 6 rfl (aB.tell (d := 52) rfl (fun hg3 => ?_) (fun hg3 => ?_)))))
   ·have hi := ch hg3
    have hS := @x8 s.msgs i n hi
    refine aB.run II 3 rfl (aB.nil (aC.cond rfl (fun hc4 => ?_) (fun hc4 => ?_)))
    ·refine aC.skip (aC.seq (aC.blk (aC.drawn mixed rfl (aD.run II 4 rfl (aD.c1 rfl (aI (aF rfl) bL rfl rfl (Int.natCast_nonneg _) (bz hi) rfl) (aD.run II 7 rfl (aD.c1 rfl (aI (aF rfl) bL rfl rfl (Int.natCast_nonneg _) (bz hi) rfl) (aD.run II 7 rfl (aD.c1 rfl (aI (aF rfl) bL rfl rfl (Int.natCast_nonneg _) (bz hi) rfl) (aD.run II 6 rfl (aD.nil (by kernel_rfl) (Kept.now (aC.region (aB.run II 3 rfl ?_))))))))))))))
     exact aB.kept (Kept.aX 5 rfl (inc (by omega)) (Kept.aH [.s 5, .s 3, .h, .s 1, .b 1] rfl (by decide) (Kept.now ⟨(i + 1, _), (by dsimp only; omega), by simp only [List.length_map] at *; grind, rfl⟩)))
    ·exact aC.aJ (Kept.aH [.s 3, .h, .s 1, .b 1] rfl (by decide) (Kept.now (aC.exit ⟨_, by grind, rfl⟩)))
   ·have hi := ck hg3
    have hS := @zG s.msgs i n hi
    exact aB.run II 3 rfl (aB.nil (aC.bR rfl rfl (aC.aJ (Kept.aH [.s 3, .h, .s 1, .b 1] rfl (by decide) (Kept.now (aC.exit ⟨_, by grind, rfl⟩))))))
  ·rintro n hF10
   refine aC.seq (aC.seq (aC.region (aB.run II 2 rfl (aB.nil (aC.cond rfl (fun hc5 => ?_) (fun hc5 => ?_))))))
   ·exact aC.seq (aC.region (aB.run II 1 rfl (aB.nil (aC.ret ⟨.inr rfl, (aE.r1 rfl (.tmp rfl .nil)).cast (congrArg AV.bool (by grind [aM.small, j4, j3])), rfl⟩))))
   ·refine aC.skip (aC.seq (aC.seq (aC.region (aB.run II 1 rfl (aB.nil (aC.blk (aC.aJ (Kept.aH [.s 6, .h, .s 1, .b 1] rfl (by decide) (Kept.now (aC.aW (fun (i : Nat) => [(.s 6, .sv (.v (.int .i64 (i : Int))))]) _ (fun (i : Nat) => s.enums.any j4 = (s.enums.drop i).any j4) (fun (i : Nat) => s.enums.length - i) 0 rfl (by simp) ?_))))))))))
    rintro i hI
    refine aC.seq (aC.seq (aC.region (aB.run II 5 rfl (aB.nil (aC.cond rfl (fun hc6 => ?_) (fun hc6 => ?_))))))
    ·have hi := ch hc6
     have hS := bS (p := j4) hi
     have hv := hs.vi hi
     refine aC.skip (aC.seq (aC.blk (aC.seq (aC.region (aB.run II 1 rfl (aB.nil (aC.blk (aC.aJ (Kept.aH [.s 7, .h, .s 1, .b 1, .s 6] rfl (by decide) (Kept.now (aC.aW (fun (k : Nat) => [(.s 7, .sv (.v (.int .i64 (k : Int))))]) _ (fun (k : Nat) => ((s.enums[i]'hi).values.drop k).any (fun v : iy => decide (1000 < v.name.length)) = (s.enums[i]'hi).values.any (fun v : iy => decide (1000 < v.name.length))) (fun (k : Nat) => (s.enums[i]'hi).values.length - k) 0 rfl (by simp) ?_)))))))))))
     rintro k hK
     refine aC.seq (aC.seq (aC.region (aB.run II 4 rfl (aB.c1 rfl (aI (aF rfl) cn rfl rfl (Int.natCast_nonneg _) (bz hi) rfl) (aB.run II 4 rfl (aB.nil (aC.cond rfl (fun hc7 => ?_) (fun hc7 => ?_))))))))
     ·have hk := ch hc7
      have hT := bS (p := (fun v : iy => decide (1000 < v.name.length))) hk
      refine aC.skip (aC.seq (aC.blk (aC.seq (aC.region (aB.run II 3 rfl (aB.c1 rfl (aI (aF rfl) cn rfl rfl (Int.natCast_nonneg _) (bz hi) rfl) (aB.run II 3 rfl (aB.c1 rfl (aI (aF rfl) iH rfl rfl (Int.natCast_nonneg _) (bz hk) rfl) (aB.run II 4 rfl (aB.nil (aC.cond rfl (fun hc8 => ?_) (fun hc8 => ?_))))))))))))
      ·exact aC.seq (aC.region (aB.run II 1 rfl (aB.nil (aC.ret ⟨.inr rfl, (aE.r1 rfl (.tmp rfl .nil)).cast (congrArg AV.bool (by grind [aM.small, j4, j3])), rfl⟩))))
      ·exact aC.skip (aC.region (aB.run II 3 rfl (aB.kept (Kept.aX 7 rfl (inc (by omega)) (Kept.aH [.s 7, .h, .s 1, .b 1, .s 6] rfl (by decide) (Kept.now ⟨k + 1, by omega, by grind, rfl⟩))))))
     ·have hk := ck hc7
      have hT := bq (p := (fun v : iy => decide (1000 < v.name.length))) hk
      exact aC.exit (aC.region (aB.run II 3 rfl (aB.kept (Kept.aX 6 rfl (inc (by omega)) (Kept.aH [.s 6, .h, .s 1, .b 1] rfl (by decide) (Kept.now ⟨i + 1, by omega, by grind [j4], rfl⟩))))))
    ·have hi := ck hc6
     have hS := bq (p := j4) hi
     refine aC.exit (aC.seq (aC.seq (aC.region (aB.run II 1 rfl (aB.nil (aC.blk (aC.aJ (Kept.aH [.s 8, .h, .s 1, .b 1] rfl (by decide) (Kept.now (aC.aW (fun (i : Nat) => [(.s 8, .sv (.v (.int .i64 (i : Int))))]) _ (fun (i : Nat) => s.msgs.any j3 = (s.msgs.drop i).any j3) (fun (i : Nat) => s.msgs.length - i) 0 rfl (by simp) ?_))))))))))
     rintro i hJ
     refine aC.seq (aC.seq (aC.region (aB.run II 5 rfl (aB.nil (aC.cond rfl (fun hc9 => ?_) (fun hc9 => ?_))))))
     ·have hi := ch hc9
      have hS := bS (p := j3) hi
      have hv := hs.fi hi
      refine aC.skip (aC.seq (aC.blk (aC.seq (aC.region (aB.run II 1 rfl (aB.nil (aC.blk (aC.aJ (Kept.aH [.s 9, .h, .s 1, .b 1, .s 8] rfl (by decide) (Kept.now (aC.aW (fun (k : Nat) => [(.s 9, .sv (.v (.int .i64 (k : Int))))]) _ (fun (k : Nat) => ((s.msgs[i]'hi).fields.drop k).any (fun f : ag => decide (1000 < f.name.length) || decide (1000 < f.ref.length) || decide (1000 < f.one.length)) = (s.msgs[i]'hi).fields.any (fun f : ag => decide (1000 < f.name.length) || decide (1000 < f.ref.length) || decide (1000 < f.one.length))) (fun (k : Nat) => (s.msgs[i]'hi).fields.length - k) 0 rfl (by simp) ?_)))))))))))
      rintro k hK
      refine aC.seq (aC.seq (aC.region (aB.run II 4 rfl (aB.c1 rfl (aI (aF rfl) bL rfl rfl (Int.natCast_nonneg _) (bz hi) rfl) (aB.run II 4 rfl (aB.nil (aC.cond rfl (fun hc10 => ?_) (fun hc10 => ?_))))))))
      ·have hk := ch hc10
       have hT := bS (p := (fun f : ag => decide (1000 < f.name.length) || decide (1000 < f.ref.length) || decide (1000 < f.one.length))) hk
       refine aC.skip (aC.seq (aC.blk (aC.seq (aC.region (aB.run II 3 rfl (aB.c1 rfl (aI (aF rfl) bL rfl rfl (Int.natCast_nonneg _) (bz hi) rfl) (aB.run II 3 rfl (aB.c1 rfl (aI (aF rfl) bQ rfl rfl (Int.natCast_nonneg _) (bz hk) rfl) (aB.run II 3 rfl (aB.nil (aC.seq (aC.region (aB.run II 5 rfl (aB.tell (d := 147) rfl (fun hg11 => ?_) (fun hg11 => ?_)))))))))))))))
       ·exact aB.run II 11 rfl (aB.nil (aC.bG rfl rfl (aC.seq (aC.region (aB.run II 1 rfl (aB.nil (aC.ret ⟨.inr rfl, (aE.r1 rfl (.tmp rfl .nil)).cast (congrArg AV.bool (by grind [aM.small, j4, j3])), rfl⟩)))))))
       ·refine aB.run II 6 rfl (aB.tell (d := 153) rfl (fun hg12 => ?_) (fun hg12 => ?_))
        ·exact aB.run II 5 rfl (aB.nil (aC.bG rfl rfl (aC.seq (aC.region (aB.run II 1 rfl (aB.nil (aC.ret ⟨.inr rfl, (aE.r1 rfl (.tmp rfl .nil)).cast (congrArg AV.bool (by grind [aM.small, j4, j3])), rfl⟩)))))))
        ·refine aB.run II 5 rfl (aB.nil (aC.cond rfl (fun hc13 => ?_) (fun hc13 => ?_)))
         ·exact aC.seq (aC.region (aB.run II 1 rfl (aB.nil (aC.ret ⟨.inr rfl, (aE.r1 rfl (.tmp rfl .nil)).cast (congrArg AV.bool (by grind [aM.small, j4, j3])), rfl⟩))))
         ·exact aC.skip (aC.region (aB.run II 3 rfl (aB.kept (Kept.aX 9 rfl (inc (by omega)) (Kept.aH [.s 9, .h, .s 1, .b 1, .s 8] rfl (by decide) (Kept.now ⟨k + 1, by omega, by grind, rfl⟩))))))
      ·have hk := ck hc10
       have hT := bq (p := (fun f : ag => decide (1000 < f.name.length) || decide (1000 < f.ref.length) || decide (1000 < f.one.length))) hk
       exact aC.exit (aC.region (aB.run II 3 rfl (aB.kept (Kept.aX 8 rfl (inc (by omega)) (Kept.aH [.s 8, .h, .s 1, .b 1] rfl (by decide) (Kept.now ⟨i + 1, by omega, by grind [j3], rfl⟩))))))
     ·have hi := ck hc9
      have hS := bq (p := j3) hi
      exact aC.exit (aC.seq (aC.region (aB.run II 1 rfl (aB.nil (aC.ret ⟨.inr rfl, (aE.r1 rfl (.tmp rfl .nil)).cast (congrArg AV.bool (by grind [aM.small, j4, j3])), rfl⟩)))))
def lM : List aw → Int → Int
 | [], n => n
 | s :: l, n => if n < 500 then lM l (gj (n + (s.length : Int))) else n
theorem u3 {l : List aw} {i : Nat} {n : Int} (h : i < l.length) : lM (l.drop i) n = if n < 500 then lM (l.drop (i + 1)) (gj (n + (l[i].length : Int))) else n := by rw [List.drop_eq_getElem_cons h]; rfl
theorem fF {l : List aw} {i : Nat} {n : Int} (h : l.length ≤ i) : lM (l.drop i) n = n := by rw [List.drop_of_length_le h]; rfl
def aP.xc (x : aP) : Int := gj (gj (gj (gj ((x.msg.length : Int) + (x.field.length : Int)) + (x.dest.length : Int)) + (x.also.length : Int)) + gj (10 * (x.names.length : Int)))
def aP.tree (x : aP) : Tree := .mk [.mk 0 [x.dv]] []
def aP.lit (x : aP) : Bool := !(decide (500 ≤ lM x.names x.xc) || !x.tree.small)
def fl (l : List aP) : Bool := (l.take 41).all aP.lit && decide (l.length ≤ 40)
theorem te {l : List aP} {i : Nat} (hi : i < l.length) (h : i ≤ 40) : ((l.take 41).drop i).all aP.lit = (l[i].lit && ((l.take 41).drop (i + 1)).all aP.lit) := by
 have h2 : i < (l.take 41).length := by rw [List.length_take]; omega
 rw [List.drop_eq_getElem_cons h2]
 simp
theorem DF {l : List aP} {i : Nat} (h : l.length ≤ i ∨ 40 < i) : ((l.take 41).drop i).all aP.lit = true := by
 rw [List.drop_of_length_le (by rw [List.length_take]; omega)]; rfl
theorem lQ {l : List aP} {i : Nat} (hi : i < l.length) (h : i ≤ 40) (hI : ((l.take 41).drop i).all aP.lit = (l.take 41).all aP.lit) (hx : l[i].lit = false) : fl l = false := by
 rw [te hi h, hx, Bool.false_and] at hI
 unfold fl; rw [← hI]; rfl
theorem ns {l : List aP} {i : Nat} (hi : i < l.length) (h : i ≤ 40) (hI : ((l.take 41).drop i).all aP.lit = (l.take 41).all aP.lit) (hx : l[i].lit = true) : ((l.take 41).drop (i + 1)).all aP.lit = (l.take 41).all aP.lit := by
 rw [te hi h, hx, Bool.true_and] at hI
 exact hI
theorem nt {l : List aP} {i : Nat} (h : l.length ≤ i ∨ 40 < i) (hI : ((l.take 41).drop i).all aP.lit = (l.take 41).all aP.lit) : decide (((l.map aP.av).length : Int) ≤ 40) = fl l := by
 rw [DF h] at hI
 unfold fl; rw [← hI, List.length_map, Bool.true_and]
 exact decide_eq_decide.2 (by omega)
theorem wG (x : aP) (hb : x.tree.fT) : Pure Tryz.prog 14 [.agg [.sl [.agg [.int .i64 0, .sl [.agg [.int .u64 (x.dv.n : Int), .str x.dv.s, .sl (x.dv.m.map Tree.av)]]]], .sl []]] (.bool x.tree.small) := by
 have := sx x.tree hb
 simp only [aP.tree, Tree.cells, Tree.ak, Tree.rest, List.map_cons, List.map_nil, Slot.dE, Slot.cells, Slot.num, Slot.cI, cf.dE, cf.cells] at this
 exact this
theorem fG {l : List aw} {n : Int} (h : 500 ≤ n) : lM l n = n := by
 cases l with
 | nil => rfl
 | cons s l => unfold lM; rw [if_neg (by omega)]
theorem zO (l : List aP) (hl : l.length ≤ 140737488355328) (hb : ∀ x ∈ l, x.names.length ≤ 140737488355328 ∧ x.tree.fT) : Pure Tryz.prog 16 [.sl (l.map aP.av)] (.bool (fl l)) := by
 refine Pure.aN Tryz.func16 rfl rfl (aF rfl) fun H => (aC.seq (aC.region (aB.run II 1 rfl (aB.nil (aC.seq (aC.seq (aC.region (aB.run II 1 rfl (aB.nil (aC.blk (aC.aJ (Kept.aH [.s 3, .h, .s 0] rfl (by decide) (Kept.now (aC.aW (fun (i : Nat) => [(.s 3, .sv (.v (.int .i64 (i : Int))))]) _ (fun (i : Nat) => ((l.take 41).drop i).all aP.lit = (l.take 41).all aP.lit) (fun (i : Nat) => l.length - i) 0 rfl rfl ?_))))))))))))))
 rintro i hI
 refine aC.seq (aC.seq (aC.region (aB.run II 5 rfl (aB.tell (d := 11) rfl (fun hg1 => ?_) (fun hg1 => ?_)))))
 ·have hi := ch hg1
  have hnm := (hb _ (List.getElem_mem hi)).1
  refine aB.run II 3 rfl (aB.nil (aC.cond rfl (fun hc2 => ?_) (fun hc2 => ?_)))
  ·refine aC.skip (aC.seq (aC.blk (aC.seq (aC.region (aB.run II 2 rfl (aB.c1 rfl (aI (aF rfl) jy rfl rfl (Int.natCast_nonneg _) (ic (fun _ => rfl) hi) rfl) (aB.run II 3 rfl (aB.nil (aC.seq (aC.region (aB.run II 21 rfl (aB.nil (aC.seq (aC.seq (aC.region (aB.run II 1 rfl (aB.nil (aC.blk (aC.aJ (Kept.aH [.s 6, .s 5, .h, .s 0, .s 3, .s 4, .b 4] rfl (by decide) (Kept.now (aC.aW (fun ((k, n) : Nat × Int) => [(.s 6, .sv (.v (.int .i64 (k : Int)))), (.s 5, .sv (.v (.int .i64 n)))]) _ (fun ((k, n) : Nat × Int) => lM ((l[i]'hi).names.drop k) n = lM (l[i]'hi).names (l[i]'hi).xc) (fun ((k, n) : Nat × Int) => (l[i]'hi).names.length - k) (0, _) rfl (by simp [aP.xc]) ?_))))))))))))))))))))))
   rintro ⟨k, n⟩ hK
   refine aC.seq (aC.seq (aC.region (aB.run II 6 rfl (aB.tell (d := 46) rfl (fun hg3 => ?_) (fun hg3 => ?_)))))
   ·have hk := ch hg3
    have hS := @u3 (l[i]'hi).names k n hk
    refine aB.run II 3 rfl (aB.nil (aC.cond rfl (fun hc4 => ?_) (fun hc4 => ?_)))
    ·exact aC.skip (aC.seq (aC.blk (aC.region (aB.run II 4 rfl (aB.c1 rfl (aI (aF rfl) ca rfl rfl (Int.natCast_nonneg _) (bz hk) rfl) (aB.run II 4 rfl (aB.nil (aC.region (aB.run II 3 rfl (aB.kept (Kept.aX 6 rfl (inc (by omega)) (Kept.aH [.s 6, .s 5, .h, .s 0, .s 3, .s 4, .b 4] rfl (by decide) (Kept.now ⟨(k + 1, _), (by dsimp only; omega), by grind, rfl⟩)))))))))))))
    ·refine aC.exit (aC.seq (aC.region (aB.run II 3 rfl (aB.tell (d := 62) rfl (fun hg5 => ?_) (fun hg5 => ?_)))))
     ·exact aB.run II 9 rfl (aB.nil (aC.bG rfl rfl (aC.seq (aC.region (aB.run II 1 rfl (aB.nil (aC.ret ⟨.inr rfl, (aE.r1 rfl (.tmp rfl .nil)).cast (congrArg AV.bool (lQ hi (by have := of_decide_eq_true hc2; omega) hI (by unfold aP.lit; grind [fF, fG])).symm), rfl⟩)))))))
     ·refine aB.run II 6 rfl (aB.g1 rfl (aF rfl) rfl rfl (aG (aF rfl) ve rfl (wG (l[i]'hi) (hb _ (List.getElem_mem hi)).2)) (aB.run II 2 rfl (aB.nil (aC.cond rfl (fun hc6 => ?_) (fun hc6 => ?_)))))
      ·exact aC.seq (aC.region (aB.run II 1 rfl (aB.nil (aC.ret ⟨.inr rfl, (aE.r1 rfl (.tmp rfl .nil)).cast (congrArg AV.bool (lQ hi (by have := of_decide_eq_true hc2; omega) hI (by unfold aP.lit; grind [fF, fG])).symm), rfl⟩))))
      ·exact aC.skip (aC.region (aB.run II 3 rfl (aB.kept (Kept.aX 3 rfl (inc (by omega)) (Kept.aH [.s 3, .h, .s 0] rfl (by decide) (Kept.now ⟨i + 1, by omega, ns hi (by have := of_decide_eq_true hc2; omega) hI (by unfold aP.lit; grind [fF, fG]), rfl⟩))))))
   ·have hk := ck hg3
    have hS := @fF (l[i]'hi).names k n hk
    refine aB.run II 3 rfl (aB.nil (aC.bR rfl rfl (aC.exit (aC.seq (aC.region (aB.run II 3 rfl (aB.tell (d := 62) rfl (fun hg7 => ?_) (fun hg7 => ?_))))))))
    ·exact aB.run II 9 rfl (aB.nil (aC.bG rfl rfl (aC.seq (aC.region (aB.run II 1 rfl (aB.nil (aC.ret ⟨.inr rfl, (aE.r1 rfl (.tmp rfl .nil)).cast (congrArg AV.bool (lQ hi (by have := of_decide_eq_true hc2; omega) hI (by unfold aP.lit; grind [fF, fG])).symm), rfl⟩)))))))
    ·refine aB.run II 6 rfl (aB.g1 rfl (aF rfl) rfl rfl (aG (aF rfl) ve rfl (wG (l[i]'hi) (hb _ (List.getElem_mem hi)).2)) (aB.run II 2 rfl (aB.nil (aC.cond rfl (fun hc8 => ?_) (fun hc8 => ?_)))))
     ·exact aC.seq (aC.region (aB.run II 1 rfl (aB.nil (aC.ret ⟨.inr rfl, (aE.r1 rfl (.tmp rfl .nil)).cast (congrArg AV.bool (lQ hi (by have := of_decide_eq_true hc2; omega) hI (by unfold aP.lit; grind [fF, fG])).symm), rfl⟩))))
     ·exact aC.skip (aC.region (aB.run II 3 rfl (aB.kept (Kept.aX 3 rfl (inc (by omega)) (Kept.aH [.s 3, .h, .s 0] rfl (by decide) (Kept.now ⟨i + 1, by omega, ns hi (by have := of_decide_eq_true hc2; omega) hI (by unfold aP.lit; grind [fF, fG]), rfl⟩))))))
  ·exact aC.exit (aC.seq (aC.region (aB.run II 4 rfl (aB.nil (aC.ret ⟨.inr rfl, (aE.r1 rfl (.tmp rfl .nil)).cast (congrArg AV.bool (nt (.inr (by have := of_decide_eq_false hc2; omega)) hI)), rfl⟩)))))
 ·have hi := ck hg1
  exact aB.run II 3 rfl (aB.nil (aC.bR rfl rfl (aC.exit (aC.seq (aC.region (aB.run II 4 rfl (aB.nil (aC.ret ⟨.inr rfl, (aE.r1 rfl (.tmp rfl .nil)).cast (congrArg AV.bool (nt (.inl hi) hI)), rfl⟩))))))))
theorem jg {l : List aP} (h : fl l = true) : l.length ≤ 40 ∧ ∀ x ∈ l, x.lit = true := by
 simp only [fl, Bool.and_eq_true, decide_eq_true_eq] at h
 rw [List.take_of_length_le (by omega), List.all_eq_true] at h
 exact ⟨h.2, h.1⟩
structure aP.lens (x : aP) : Prop where
 b : x.fT
 t : x.tree.fT
 n : x.names.length ≤ 140737488355328
 m : x.msg.length ≤ 140737488355328
 f : x.field.length ≤ 140737488355328
 d : x.dest.length ≤ 140737488355328
 a : x.also.length ≤ 140737488355328
 s : x.dv.s.length ≤ 140737488355328
 u : x.dv.n < 18446744073709551616
theorem yM {x : aP} (h : x.lens) (hl : x.lit = true) : x.names.length ≤ 1000 := by
 apply Classical.byContradiction
 intro hn
 simp only [aP.lit, Bool.not_eq_true', Bool.or_eq_false_iff, decide_eq_false_iff_not] at hl
 have h1 := h.n; have h2 := h.m; have h3 := h.f; have h4 := h.d; have h5 := h.a
 have e : x.xc = (x.msg.length : Int) + x.field.length + x.dest.length + x.also.length + 10 * x.names.length := by
  unfold aP.xc
  show IntKind.i64.wrap _ = _
  repeat rw [show gj = IntKind.i64.wrap from rfl]
  rw [eS (n := (x.msg.length : Int) + (x.field.length : Int)) (by omega) (by omega), eS (n := (x.msg.length : Int) + (x.field.length : Int) + (x.dest.length : Int)) (by omega) (by omega), eS (n := (x.msg.length : Int) + (x.field.length : Int) + (x.dest.length : Int) + (x.also.length : Int)) (by omega) (by omega), eS (n := 10 * (x.names.length : Int)) (by omega) (by omega), eS (by omega) (by omega)]
 have : 500 ≤ x.xc := by omega
 rw [fG this] at hl
 exact hl.1 this
structure lD (s : aM) (l : List aP) : Prop where
 s : s.lens
 n : l.length ≤ 140737488355328
 b : ∀ x ∈ l, x.lens
def fS (s : aM) (l : List aP) : AV := .agg [.sl (s.enums.map dP.av), .sl (s.msgs.map aU.av), .sl (l.map aP.av)]
def gL (s : aM) (l : List aP) (ts : List Tree) : Bool := ts.all Tree.small && (s.small && fl l)
theorem lD.steps {s : aM} {l : List aP} (h : lD s l) (hs : fl l = true) : ∀ x ∈ l, x.fT ∧ x.names.length ≤ 1000 := fun x hx => ⟨(h.b x hx).b, yM (h.b x hx) ((jg hs).2 x hx)⟩
theorem D0 {l : List Tree} {i : Nat} (hi : i < l.length) (hI : (l.drop i).all Tree.small = l.all Tree.small) (h : l[i].small = true) : (l.drop (i + 1)).all Tree.small = l.all Tree.small := by
 rw [List.drop_eq_getElem_cons hi, List.all_cons, h, Bool.true_and] at hI; exact hI
theorem He {s : aM} {ls : List aP} {l : List Tree} {i : Nat} (hi : i < l.length) (hI : (l.drop i).all Tree.small = l.all Tree.small) (h : l[i].small = false) : false = gL s ls l := by
 rw [List.drop_eq_getElem_cons hi, List.all_cons, h, Bool.false_and] at hI
 unfold gL; rw [← hI]; rfl
theorem BM {s : aM} {ls : List aP} {l : List Tree} {i : Nat} (hi : l.length ≤ i) (hI : (l.drop i).all Tree.small = l.all Tree.small) : gL s ls l = (s.small && fl ls) := by
 rw [List.drop_of_length_le hi] at hI
 unfold gL; rw [← hI]; rfl
theorem zY (s : aM) (l : List aP) (ts : List Tree) (hc : lD s l) (ht : ∀ t ∈ ts, t.fT) (hn : ts.length ≤ 9223372036854775807) : Pure Tryz.prog 4 [fS s l, .sl (ts.map Tree.av)] (.bool (gL s l ts)) := by
 have e0 : fS s l = .agg [.sl (s.enums.map dP.av), .sl (s.msgs.map aU.av), .sl (l.map aP.av)] := rfl
 refine Pure.aN Tryz.func4 rfl rfl (aF rfl) fun H => (aC.seq (aC.region (aB.run II 2 rfl (aB.nil (aC.seq (aC.seq (aC.region (aB.run II 1 rfl (aB.nil (aC.blk (aC.aJ (Kept.aH [.s 5, .h, .s 1, .s 2, .b 2] rfl (by decide) (Kept.now (aC.aW (fun (i : Nat) => [(.s 5, .sv (.v (.int .i64 (i : Int))))]) _ (fun (i : Nat) => (ts.drop i).all Tree.small = ts.all Tree.small) (fun (i : Nat) => ts.length - i) 0 rfl rfl ?_))))))))))))))
 rintro i hI
 refine aC.seq (aC.seq (aC.region (aB.run II 4 rfl (aB.nil (aC.cond rfl (fun hc1 => ?_) (fun hc1 => ?_))))))
 ·have hi := ch hc1
  refine aC.skip (aC.seq (aC.blk (aC.seq (aC.region (aB.run II 2 rfl (aB.c1 rfl (aI (aF rfl) vY rfl rfl (Int.natCast_nonneg _) (ic Tree.dE hi) rfl) (aB.run II 1 rfl (aB.c1 rfl (aG (aF rfl) ve rfl (sx (ts[i]'hi) (ht _ (List.getElem_mem hi)))) (aB.run II 1 rfl (aB.nil (aC.cond rfl (fun hc2 => ?_) (fun hc2 => ?_))))))))))))
  ·exact aC.seq (aC.region (aB.run II 1 rfl (aB.nil (aC.ret ⟨.inr rfl, (aE.r1 rfl (.tmp rfl .nil)).cast (congrArg AV.bool (He hi hI (by simpa using hc2))), rfl⟩))))
  ·exact aC.skip (aC.region (aB.run II 3 rfl (aB.kept (Kept.aX 5 rfl (inc (by omega)) (Kept.aH [.s 5, .h, .s 1, .s 2, .b 2] rfl (by decide) (Kept.now ⟨i + 1, by omega, D0 hi hI (by simpa using hc2), rfl⟩))))))
 ·have hi := ck hc1
  refine aC.exit (aC.seq (aC.region (aB.run II 2 rfl (aB.c1 rfl (aG (aF rfl) GX rfl (CP s hc.s)) (aB.run II 1 rfl (aB.tell (d := 21) rfl (fun hg3 => ?_) (fun hg3 => ?_)))))))
  ·exact aB.run II 2 rfl (aB.g1 rfl (aF rfl) rfl rfl (aG (aF rfl) GW rfl (zO l hc.n (fun x hx => ⟨(hc.b x hx).n, (hc.b x hx).t⟩))) (aB.run II 2 rfl (aB.nil (aC.ret ⟨.inr rfl, (aE.r1 rfl (.tmp rfl .nil)).cast (congrArg AV.bool ((BM hi hI).trans (by rw [show s.small = true from (by simpa using hg3), Bool.true_and])).symm), rfl⟩))))
  ·exact aB.run II 5 rfl (aB.nil (aC.ret ⟨.inr rfl, (aE.r1 rfl (.tmp rfl .nil)).cast (congrArg AV.bool ((BM hi hI).trans (by rw [show s.small = false from (by simpa using hg3), Bool.false_and])).symm), rfl⟩))
/- a case's program -/
theorem BE : aa Tryz.prog 18 = true := by kernel_rfl
theorem oK {s : aM} {l : List aP} {L : List aM} (hs : s.fT) (hb : ∀ x ∈ l, x.fT ∧ x.names.length ≤ 1000) (hl : l.length ≤ 9223372036854775807) (h : s.all l = .ok L) : Pure Tryz.prog 18 [s.av, .sl (l.map aP.av)] (.tup [bo (lower s l), .int .i64 0]) := by
 have := CW s l hs hb hl
 unfold jR at this
 rw [h] at this; exact this
def C4 (s : aM) (l : List aP) : Except Int (List aM) → AV
 | .ok L => .tup [bo (lower s l), (L.getD l.length lS).av, .bool true]
 | .error _ => .tup [.agg [.sl []], lS.av, .bool false]
theorem xN : ∀ {l : List aP} {s : aM} {acc L : List aM}, aM.dO l s acc = .ok L → L.length = acc.length + l.length
 | [], _, _, _, h => by cases h; rfl
 | x :: l, s, acc, L, h => by
  unfold aM.dO at h
  split at h
  ·have := xN h; simp at this ⊢; omega
  ·cases h
theorem vw {s : aM} {l : List aP} {L : List aM} (h : s.all l = .ok L) : L.length = l.length + 1 := by
 unfold aM.all at h
 split at h
 ·cases h
 ·split at h
  ·cases h
  ·have := xN h; simpa [Nat.add_comm] using this
theorem wj {s : aM} {l : List aP} {L : List aM} (h : s.all l = .ok L) : (L.map aM.av)[(((l.map aP.av).length : Nat) : Int).toNat]? = some (.agg (L.getD l.length lS).cells) := by
 have hL := vw h
 rw [Int.toNat_natCast, List.length_map, List.getElem?_map, List.getD_eq_getElem?_getD, List.getElem?_eq_getElem (by omega)]; rfl
theorem q8 (s : aM) (l : List aP) (hs : s.fT) (hb : ∀ x ∈ l, x.fT ∧ x.names.length ≤ 1000) (hl : l.length ≤ 9223372036854775807) : Pure Tryz.prog 6 [fS s l, .bool false] (C4 s l (s.all l)) := by
 have e0 : fS s l = .agg [.sl (s.enums.map dP.av), .sl (s.msgs.map aU.av), .sl (l.map aP.av)] := rfl
 refine Pure.aN Tryz.func6 rfl rfl (aF rfl) fun H => (aC.seq (aC.region (aB.run II 4 rfl (aB.nil (aC.seq (aC.region (aB.run II 4 rfl ?_)))))))
 cases hp1 : s.all l with
 | ok x1 => 
  refine aB.c1 rfl (aG (aF rfl) m8 rfl (oM hs hb hl hp1)) (aB.run II 7 rfl (aB.nil (aC.seq (aC.seq (aC.region (aB.run II 2 rfl (aB.nil (aC.bR rfl rfl (aC.skip (aC.seq (aC.region (aB.run II 4 rfl (aB.c1 rfl (aG (aF rfl) BE rfl (oK hs hb hl hp1)) (aB.run II 6 rfl (aB.nil (aC.seq (aC.seq (aC.region (aB.run II 2 rfl ?_)))))))))))))))))))
  refine aB.nil (aC.bR rfl rfl (aC.skip (aC.seq (aC.seq (aC.region (aB.run II 1 rfl (aB.nil (aC.bR rfl rfl (aC.skip (aC.seq (aC.drawn mixed rfl (aD.run II 5 rfl (aD.c1 rfl (aI (aF rfl) vW rfl rfl (Int.natCast_nonneg _) (wj hp1) rfl) (aD.run II 4 rfl (aD.nil (by kernel_rfl) (Kept.now ?_))))))))))))))))
  exact aC.ret ⟨.inr rfl, (aE.r3 rfl (.cell cx rfl rfl rfl rfl (.cell eM rfl rfl rfl rfl (.tmp rfl .nil)))).cast rfl, rfl⟩
 | error e1 => 
  exact aB.c1 rfl (aG (aF rfl) m8 rfl (oN hs hb hl hp1)) (aB.run II 7 rfl (aB.nil (aC.seq (aC.seq (aC.region (aB.run II 2 rfl (aB.nil (aC.bG rfl (by simpa using ph hp1) (aC.seq (aC.region (aB.run II 5 rfl (aB.nil (aC.ret ⟨.inr rfl, (aE.r3 rfl (.cell cx rfl rfl rfl rfl (.cell eM rfl rfl rfl rfl (.tmp rfl .nil)))).cast rfl, rfl⟩)))))))))))))
open Go Go.RowKit
/- The program logic within a fence: a function that calls yield, and the rounds of a range over a function. No condition. -/

def FF (ro : Option Nat) : Fence := { Fence.wide with round := ro }
def vE (o : Oper) : Bool := match o.op with | .defer _ => false | _ => true
theorem wc {o : Oper} (h : vE o = true) : ∀ c, o.op ≠ .defer c := fun c e => by unfold vE at h; rw [e] at h; cases h
theorem ng {ro : Option Nat} {P : Program} {o : Oper} {a : Act} {w : World} {K : Act → World → Prop} {Q : Exit → Act → World → Prop} (hd : vE o = true) (h : o.wp P a w K Q) : o.wpIn (FF ro) 3 P a w K Q := by
 refine ⟨fun _ _ => trivial, ?_⟩
 rw [Oper.semAt_eq _ _ _ (wc hd)]
 unfold Oper.wp at h
 generalize (execOp a.eval o).run P w = r at h ⊢
 cases r with
 | ok x w' =>
  cases x <;> simp only [Oper.upon, Oper.uponIn] at h ⊢ <;> first | exact h | skip
  ·exact ⟨fun _ => by omega, callsIn_wide.2 h⟩
  ·exact ⟨fun _ => by omega, fun c cs _ => let ⟨v, w2, r, s⟩ := h c cs; ⟨v, w2, r, stepsIn_wide.2 s⟩⟩
 | halt x w' => cases x <;> simp only [Oper.upon, Oper.uponIn] at h ⊢ <;> exact h
def Gi (E : dX) (ro : Option Nat) (P : Program) (N : Nat) (o : Oper) (s : St) (R : List aK) (ws : St) : Prop :=
 ∀ t, Reads R s t → ∀ G L a w, Rel E N G L a w t → ∀ (K : Act → World → Prop) (Q : Exit → Act → World → Prop),
  (∀ v w' G' L', Rel E N G' L' (a.put o.dst v) w' (ws ++ t) → K (a.put o.dst v) w') → o.wpIn (FF ro) 3 P a w K Q
def ar (E : dX) (ro : Option Nat) (P : Program) (N : Nat) (c : Code) (s : St) (Q : Exit → St → Prop) : Prop :=
 ∀ a w, Fits E N s a w → c.wpIn (FF ro) 3 P (fun e a' w' => ∃ s', Fits E N s' a' w' ∧ Q e s') a w
section
variable {P : Program} {N : Nat} {ops : Array Oper} {s : St} {E : dX} {ro : Option Nat}
theorem Gi.of {o : Oper} {R : List aK} {ws : St} (hd : vE o = true) (h : aY P N o s R ws) : Gi E ro P N o s R ws :=
 fun t hR G L a w hr K Q hK => ng hd (h t hR E G L a w hr K Q hK)
end
section
variable {P : Program} {N : Nat} {ops : Array Oper}
end
/-! ### Code within the fence -/
section
variable {P : Program} {N : Nat} {s : St} {E : dX} {ro : Option Nat} {Q : Exit → St → Prop}
theorem jb {ops : Array Oper} {QQ : Exit → Act → World → Prop} (hq : ¬ LetsOut QQ) : ∀ {l : List Oper} {a : Act} {w : World}, l.all vE = true → wpList P ops QQ l a w → wpListIn (FF ro) 3 P ops QQ l a w
 | [], a, w, _, h => h
 | o :: l, a, w, hd, h => by
  rw [List.all_cons, Bool.and_eq_true] at hd
  unfold wpList at h
  unfold wpListIn
  split
  ·rename_i hw
   rw [if_pos hw] at h
   rcases h with h | h
   ·exact ng hd.1 (Oper.wp_mono (fun a w => jb hq hd.2) h)
   ·exact absurd h.2 hq
  ·rename_i hw
   rw [if_neg hw] at h
   exact ⟨fun _ _ => trivial, jb hq hd.2 h⟩
theorem ar.mono {c : Code} {Q' : Exit → St → Prop} (h : ar E ro P N c s Q) (hq : ∀ e s', Q e s' → Q' e s') : ar E ro P N c s Q' :=
 fun a w hf => wpIn_mono (h a w hf) fun e _ _ ⟨s', h1, h2⟩ => ⟨s', h1, hq e s' h2⟩
theorem ar.region {id : Nat} {l : List Oper} (h : aB P N l.toArray l s (Q .normal)) (hd : l.all vE = true := by rfl) : ar E ro P N (.region id l.toArray false) s Q := by
 intro a w hf
 refine wpIn_mono (wpIn_region_lit (jb (QQ := fun e a' w' => e = .normal ∧ ∃ s', Fits E N s' a' w' ∧ Q .normal s') ?_ hd (h E a w hf _ fun a' w' s' h1 h2 => ⟨rfl, s', h1, h2⟩))) ?_
 ·rintro ⟨a, w, h, _⟩; cases h
 ·rintro e a' w' ⟨rfl, h⟩; exact h
theorem ar.seq {c d : Code} (h : ar E ro P N c s fun e s' => match e with | .normal => ar E ro P N d s' Q | e => Q e s') : ar E ro P N (.seq c d) s Q := by
 intro a w hf
 refine wpIn_seq (wpIn_mono (h a w hf) ?_)
 rintro e a' w' ⟨s', h1, h2⟩
 cases e with
 | normal => exact h2 a' w' h1
 | _ => exact ⟨s', h1, h2⟩
theorem ar.skip (h : Q .normal s) : ar E ro P N .skip s Q := fun a w hf => wpIn_skip ⟨s, hf, h⟩
theorem ar.exit {id : Nat} (h : Q (.exit id) s) : ar E ro P N (.exit id) s Q := fun a w hf => wpIn_exit ⟨s, hf, h⟩
theorem ar.block {id : Nat} {c : Code} (h : ar E ro P N c s fun e s' => match e with | .exit id' => if id' = id then Q .normal s' else Q (.exit id') s' | e => Q e s') : ar E ro P N (.block id c) s Q := by
 intro a w hf
 refine wpIn_block (wpIn_mono (h a w hf) ?_)
 rintro e a' w' ⟨s', h1, h2⟩
 cases e with
 | exit id' =>
  simp only [Exit.inBlock] at h2 ⊢
  split
  ·rename_i hid; rw [if_pos hid] at h2; exact ⟨s', h1, h2⟩
  ·rename_i hid; rw [if_neg hid] at h2; exact ⟨s', h1, h2⟩
 | _ => exact ⟨s', h1, h2⟩
theorem ar.cond {t : Nat} {c d : Code} {b : Bool} (hc : get s (.s t) = some (.sv (.v (.bool b)))) (h1 : b = true → ar E ro P N c s Q) (h2 : b = false → ar E ro P N d s Q) : ar E ro P N (.cond (.tmp t) c d) s Q := by
 intro a w ⟨G, L, hr⟩
 exact wpIn_cond_split (qU hr hc) (fun e => h1 e a w ⟨G, L, hr⟩) (fun e => h2 e a w ⟨G, L, hr⟩)
theorem ar.bR {t : Nat} {c d : Code} {b : Bool} (hc : get s (.s t) = some (.sv (.v (.bool b)))) (hb : b = false) (h : ar E ro P N d s Q) : ar E ro P N (.cond (.tmp t) c d) s Q :=
 ar.cond hc (fun e => by rw [hb] at e; cases e) (fun _ => h)
theorem ar.loop {c : Code} (T : Nat → St → Prop) (hT : ∀ n s, T n s → ar E ro P N c s fun e s' => match e with | .normal => ∃ m, m < n ∧ T m s' | e => Q e s') {n : Nat} (h0 : T n s) : ar E ro P N (.loop c) s Q := by
 intro a w hf
 have key : ∀ (k n : Nat) (s : St) (a : Act) (w : World), n < k → T n s → Fits E N s a w → Code.roundsIn (FF ro) 3 P c (fun e a' w' => ∃ s', Fits E N s' a' w' ∧ Q e s') k a w := by
  intro k
  induction k with
  | zero => intro n s a w h; omega
  | succ k ih =>
   intro n s a w hk hT1 hf1
   unfold Code.roundsIn
   refine wpIn_mono (hT n s hT1 a w hf1) ?_
   rintro e a' w' ⟨s', h1, h2⟩
   cases e with
   | normal =>
    obtain ⟨m, hlt, hTm⟩ := h2
    exact ih m s' a' w' (by omega) hTm h1
   | _ => exact ⟨s', h1, h2⟩
 exact wpIn_loop_rounds (n + 1) (key (n + 1) n s a w (by omega) h0 hf)
theorem ar.aJ {c : Code} (h : Kept s fun s' => ar E ro P N c s' Q) : ar E ro P N c s Q := by
 intro a w hf
 obtain ⟨s', h1, h2⟩ := h E N a w hf
 exact h2 a w h1
theorem aC.Ip {c : Code} (h : aC P N c s Q) : ar E none P N c s Q := fun a w hf => wpIn_wide.2 (h E a w hf)
end
section
variable {P : Program} {N : Nat} {ops : Array Oper} {l : List Oper} {s : St} {Q : St → Prop} {o : Oper} {R : List aK} {E : dX} {ro : Option Nat} {A : List (List Nat)} {acc : List (List aK × St)}
end
/- The program logic's rules for a range over a function: the iterator, the rounds, the statement. No condition. -/

theorem CG (ro : Option Nat) (n : Nat) : (FF ro).room n := fun _ h => by cases h
theorem yv {ro : Option Nat} {n m : Nat} {P : Program} {c : Code} {Q : Exit → Act → World → Prop} {a : Act} {w : World} (h : c.wpIn (FF ro) n P Q a w) : c.wpIn (FF ro) m P Q a w :=
 fun b k cs h1 h2 _ => h b k cs h1 h2 (CG _ _)
def Il (G : Gh) (w : World) (H : Hp) (r : AV) (H' : Hp) : Ending → World → Prop := fun e w' =>
 ∃ v G', e = .returned v ∧ V G' v r ∧ mh (aZ G H w) G G' w ∧ eT G' w' ∧ dK G' w' H' ∧ Fr (aZ G H w) w w' ∧ ∀ b, aZ G' H' w' b → w.heap.size ≤ b ∨ aZ G H w b
def YS (P : Program) (B : dX) (l : Nat) (args : List AV) (Ha Hb : Hp) : Prop :=
 ∀ G w cargs, GE ⟨G, w, aZ G Ha w, []⟩ → eT G w → dK G w Ha → VL G cargs args → Fr B.M B.w0 w → mh B.M B.G0 G B.w0 → (∀ b, aZ G Ha w b → B.may b) →
  YieldAt (FF none) 2 P l cargs w (Il G w Ha (.bool true) Hb)
section
variable {P : Program} {N : Nat} {s : St} {E : dX} {d : Nat} {ty : TypeId} {pos : String} {af : Array Edge} {g : Option (Nat × Bool)}
theorem zl {x : Operand} {l : Nat} {xs : Array Operand} {tys : Array TypeId} {«as» : List AV} {H H' : Hp} (hN : d < N) (hx : cU x s = some (.yf l)) (ha : k7 xs.toList s = some «as») (hH : get s .h = some (.hp H)) (hY : YS P E l «as» H H') :
  Gi E none P N ⟨some d, .call { callee := .value x, args := xs, argTypes := tys }, ty, pos, af, g⟩ s ((rd x ++ lF xs.toList) ++ [.h]) [(.s d, .sv (.v (.bool true))), (.h, .hp H')] := by
 intro t hR G L a w hr K Q hK
 obtain ⟨h1, h2⟩ := gV hr hR.left.right ha
 have hv := aS hr hR.left.left hx
 generalize hav : a.eval x = u at hv
 cases hv
 obtain ⟨H2, hH2, hok, hmay⟩ := hr.heap
 have hHt : get t .h = some (.hp H) := by rw [hR .h (by simp)]; exact hH
 rw [hHt] at hH2; cases hH2
 obtain ⟨fn, tmps, assign, body, hy, hround⟩ := hY G w ((xs.toList.map a.eval).toArray) (hr.sB hHt) hr.kn hok (B3 (by simpa using h1) h2) hr.fr ⟨hr.old, hr.obs, hr.obn⟩ hmay
 have e : #[] ++ Array.map a.eval xs ++ #[] = (xs.toList.map a.eval).toArray := by apply Array.ext'; simp
 have he : (execOp a.eval ⟨some d, .call { callee := .value x, args := xs, argTypes := tys }, ty, pos, af, g⟩).run P w = .ok (.round l fn tmps assign body) w := by
  simp only [execOp, resolve, hav, Deferred.ofValue, Sem.run_bind, Sem.run_pure, Result.andThen_ok, invoke]
  first | rw [e, hy] | (rw [show #[] ++ Array.map a.eval xs = (xs.toList.map a.eval).toArray by apply Array.ext'; simp, hy])
 refine ⟨fun _ _ => trivial, ?_⟩
 rw [Oper.semAt_eq _ _ _ (wc rfl), he, Oper.uponIn_round]
 refine ⟨fun _ => by omega, hround.mono ?_⟩
 rintro e' w' ⟨v, G', rfl, hv, hx', hkn, hok', hf, hft⟩
 exact hK v w' G' L ((hr.called hHt hx' hkn hok' hf hft).put d hN v (.v _) hv)
end
def po (P : Program) (gf : FuncId) (caps : List AV) (H : Hp) (ys : List (List AV × Hp × Hp)) (H' : Hp) : Prop :=
 ∀ G w cargs l, GE ⟨G, w, aZ G H w, []⟩ → eT G w → dK G w H → VL G cargs caps → (∀ y ∈ ys, YS P ⟨G, w, aZ G H w, []⟩ l y.1 y.2.1 y.2.2) →
  Calls P gf (#[.func (.yield l) #[] #[]] ++ cargs) w fun e w' => (∃ v, e = .returned v) ∧ ∃ G', mh (aZ G H w) G G' w ∧ eT G' w' ∧ dK G' w' H' ∧ Fr (aZ G H w) w w' ∧ ∀ b, aZ G' H' w' b → w.heap.size ≤ b ∨ aZ G H w b
theorem po.aN {P : Program} {gf : FuncId} {fn : Func} {c : Code} {N : Nat} {caps : List AV} {H : Hp} {ys : List (List AV × Hp × Hp)} {H' : Hp} (hf : P.funcs[gf]? = some fn) (hb : fn.body = some c) (hN : fn.ntmps = N) (hle : caps.length + 1 ≤ N) (hres : fn.results = #[])
  (h : ∀ E l, (∀ y ∈ ys, YS P E l y.1 y.2.1 y.2.2) → ar E none P N c ((.h, .hp H) :: ek (.yf l :: caps) 0) fun e s' => (e = .normal ∨ e = .ret) ∧ get s' .h = some (.hp H')) : po P gf caps H ys H' := by
 intro G w cargs l hg hk hH hV hY
 refine calls_of_wp hf hb ?_
 have hV' : VL G (#[.func (.yield l) #[] #[]] ++ cargs) (.yf l :: caps) := by
  refine ⟨by simp [hV.1]; omega, fun j x e => ?_⟩
  cases j with
  | zero => simp at e; subst e; simpa [Array.getD_eq_getD_getElem?, Array.getElem?_append] using V.yf l
  | succ j =>
   have := hV.2 j x (by simpa using e)
   simpa [Array.getD_eq_getD_getElem?, Array.getElem?_append] using this
 have h0 := qt hN (args := .yf l :: caps) (by simpa using hle) hg hk hH hV'
 refine wp_mono (wpIn_wide.1 (h ⟨G, w, aZ G H w, []⟩ l hY _ w h0)) ?_
 rintro e a' w' ⟨s', ⟨G', L', hr⟩, he, hh⟩
 obtain ⟨v, hv, hV'⟩ := aE.r0 (P := P) (s := s') hres _ _ _ _ _ _ hr
 obtain ⟨H2, g, hok, hmay⟩ := hr.heap
 rw [hh] at g; cases g
 have hpost : (∃ v2, Ending.returned v = .returned v2) ∧ ∃ G', mh (aZ G H w) G G' w ∧ eT G' w' ∧ dK G' w' H' ∧ Fr (aZ G H w) w w' ∧ ∀ b, aZ G' H' w' b → w.heap.size ≤ b ∨ aZ G H w b :=
  ⟨⟨v, rfl⟩, G', ⟨hr.old, hr.obs, hr.obn⟩, hr.kn, hok, hr.fr, hmay⟩
 rcases he with rfl | rfl
 ·exact ⟨hr.defs, v, hv, hpost⟩
 ·exact ⟨hr.defs, v, hv, hpost⟩
/-! ### A block that is no cells turns -/
theorem EG {w w' : World} {b : Nat} (h : w'.heap[b]? = w.heap[b]?) (o : Nat) : w'.cell? ⟨b, o, none⟩ = w.cell? ⟨b, o, none⟩ := by
 simp only [World.cell?, h]
theorem mZ {G : Gh} {w : World} {b : Nat} {o o' : Obj} (hk : eT G w) (hb : w.heap[b]? = some o) (hnc : ∀ x y z, o ≠ .cells x y z) : eT G (w.putObj b o') := by
 intro b1 o1 v e
 have h1 := hk b1 o1 v e
 have hne : b1 ≠ b := by
  rintro rfl
  unfold World.cell? at h1
  rw [hb] at h1
  cases o <;> first | exact absurd rfl (hnc _ _ _) | simp at h1
 rw [EG (World.putObj_heap_other hne)]
 exact h1
theorem Rel.Di {E : dX} {N : Nat} {G : Gh} {L : Loc} {a : Act} {w : World} {s : St} {H : Hp} (h : Rel E N G L a w s) (hH : get s .h = some (.hp H)) {b : Nat} {o o' : Obj} {ds : List Deferred} (hb : w.heap[b]? = some o) (hnc : ∀ x y z, o ≠ .cells x y z) (hgn : gN ≤ b) (hlt : b < E.w0.heap.size) (hM : ¬ E.M b) :
  Rel ⟨E.G0, E.w0.putObj b o', E.M, ds⟩ N G L { a with defers := ds } (w.putObj b o') s := by
 obtain ⟨H0, g0, hok, hmay⟩ := h.heap
 rw [hH] at g0; cases g0
 obtain ⟨h1, h2, h3⟩ := h.ge
 have hnm : ¬ E.may b := fun e => by rcases e with e | e; exact absurd hlt (Nat.not_lt.2 e); exact hM e
 have hoth : ∀ k, k ≠ b → (w.putObj b o').heap[k]? = w.heap[k]? := fun k hk => World.putObj_heap_other hk
 have hne : ∀ k, aZ G H w k → k ≠ b := fun k hk e => hnm (e ▸ hmay k hk)
 have hneo : ∀ c k, owns s L c k → k ≠ b := fun c k hk e => hnm (e ▸ (gD h hk).2)
 have hst := hok.stay (w' := w.putObj b o') (Gh.le.refl G) rfl (fun b hb => (hok.aZ hb).2) (fun k hk => hoth k (hne k hk)) (by simp)
 have hsz : (E.w0.putObj b o').heap.size = E.w0.heap.size := by simp
 refine ⟨h.size, rfl, ⟨DJ (fun k hk => World.putObj_heap_other (by omega)) h1, by simpa using h2, h3⟩, mZ h.kn hb hnc, fun b o hb => h.old b o (by simpa using hb), h.obs, fun id b e => by simpa using h.obn id b e,
  ⟨h.fr.os, h.fr.tape, h.fr.output, by simpa using h.fr.size, fun k hk hno => ?_⟩, fun n x g => h.slot n x g, fun k cv g hl => ?_, fun k m el esz xs g => ?_, h.disj,
  ⟨H, hH, hst.1, fun k hk => ?_⟩, fun c k hc H2 g2 hf => ?_, h.nobox, h.notok⟩
 ·by_cases e : k = b
  ·subst e
   rw [World.putObj_heap_same (Nat.lt_of_lt_of_le hlt h.fr.size), World.putObj_heap_same hlt]
  ·rw [hoth k e, World.putObj_heap_other e]
   exact h.fr.block k (by simpa using hk) hno
 ·have hB := (h.box k cv g hl).stay (G' := G) (w' := w.putObj b o') (Gh.le.refl G) (fun _ _ e => .inl ⟨_, e⟩) (fun q hq => hoth q (hneo (.b k) q ⟨⟨cv, g, hl⟩, hq⟩)) (fun _ _ _ => rfl)
  obtain ⟨blk, o, q1, q2, q3, q4, q5, q6⟩ := hB
  refine ⟨blk, o, q1, ?_, q3, q4, q5, ?_⟩
  ·rcases q2 with e | e
   ·exact .inl (by simpa using e)
   ·exact .inr e
  ·cases hk : cv.link with
   | some id => rw [hk] at q6; exact q6
   | none => rw [hk] at q6; exact ⟨by simpa using q6.1, q6.2⟩
 ·have hT := (h.tok k m el esz xs g).stay (G' := G) (w' := w.putObj b o') (Gh.le.refl G) (fun _ _ e => .inl ⟨_, e⟩) (fun v q hv hq => hoth q (hneo (.t k) q ⟨⟨m, el, esz, xs, g⟩, v, hv, hq⟩)) (fun _ _ _ _ _ => rfl)
  obtain ⟨v, q1, q2, q3⟩ := hT
  refine ⟨v, q1, q2, fun blk hb => ⟨?_, (q3 blk hb).2⟩⟩
  rcases (q3 blk hb).1 with e | e
  ·exact .inl (by simpa using e)
  ·exact .inr e
 ·rcases hmay k ((hst.2 k).1 hk) with e | e
  ·exact .inl (by simpa using e)
  ·exact .inr e
 ·rw [hH] at g2; cases g2
  exact h.hdisj c k hc H hH ((hst.2 k).1 hf)
theorem Rel.Ij {E : dX} {N : Nat} {G : Gh} {L : Loc} {a : Act} {w : World} {s : St} {H : Hp} (h : Rel E N G L a w s) (hH : get s .h = some (.hp H)) (hbx : ∀ k, get s (.b k) = none) (htk : ∀ k, get s (.t k) = none) {b : Nat} {o o' : Obj} {ds : List Deferred} (hb : w.heap[b]? = some o) (hnc : ∀ x y z, o ≠ .cells x y z) (hgn : gN ≤ b) (hnf : ¬ aZ G H w b) :
  Rel ⟨G, w.putObj b o', aZ G H w, ds⟩ N G L { a with defers := ds } (w.putObj b o') s := by
 obtain ⟨H0, g0, hok, hmay⟩ := h.heap
 rw [hH] at g0; cases g0
 obtain ⟨h1, h2, h3⟩ := h.sB hH
 have hoth : ∀ k, k ≠ b → (w.putObj b o').heap[k]? = w.heap[k]? := fun k hk => World.putObj_heap_other hk
 have hne : ∀ k, aZ G H w k → k ≠ b := fun k hk e => hnf (e ▸ hk)
 have hst := hok.stay (w' := w.putObj b o') (Gh.le.refl G) rfl (fun b hb => (hok.aZ hb).2) (fun k hk => hoth k (hne k hk)) (by simp)
 exact ⟨h.size, rfl, ⟨DJ (fun k hk => hoth k (by omega)) h1, by simpa using h2, h3⟩, mZ h.kn hb hnc, fun _ _ _ _ => rfl, fun _ _ e => ⟨e, rfl⟩, fun _ _ e => .inl ⟨_, e⟩, Fr.refl _ _, fun n x g => h.slot n x g,
  fun k cv g hl => (by rw [hbx k] at g; cases g), fun k m el esz xs g => (by rw [htk k] at g; cases g), h.disj,
  ⟨H, hH, hst.1, fun k hk => .inr ((hst.2 k).1 hk)⟩, fun c k hc => (by
   cases c with
   | b k => obtain ⟨⟨cv, g, _⟩, _⟩ := hc; rw [hbx] at g; cases g
   | t k => obtain ⟨⟨m, el, esz, xs, g⟩, _⟩ := hc; rw [htk] at g; cases g
   | s n => exact hc.elim
   | h => exact hc.elim), h.nobox, h.notok⟩
/- The program logic's rule for the statement 'for .. := range f'. No condition. -/

/-! ### The parameters of a round -/
def C3 : List Nat → List AV → St
 | p :: ps, a :: l => (.s p, .sv (.v a)) :: C3 ps l
 | _, _ => []
def jH (s : St) (ps : List Nat) (args : List AV) (H : Hp) : St := C3 ps args ++ ((.h, .hp H) :: s)
theorem qa : ∀ (ps : List Nat) (l : List AV) (c : aK), (∀ n, c ≠ .s n) → get (C3 ps l) c = none
 | [], _, _, _ => rfl
 | _ :: _, [], _, _ => rfl
 | p :: ps, a :: l, c, h => by
  simp only [C3, get]
  rw [if_neg (fun e => h p e.symm)]
  exact qa ps l c h
theorem tE : ∀ (ps : List Nat) (l : List AV) (n : Nat) (v : CV), get (C3 ps l) (.s n) = some v → ∃ (i : Nat) (a : AV), ps[i]? = some n ∧ l[i]? = some a ∧ v = .sv (.v a)
 | [], _, _, _, h => by cases h
 | _ :: _, [], _, _, h => by cases h
 | p :: ps, a :: l, n, v, h => by
  simp only [C3, get] at h
  split at h
  ·rename_i e
   injection e with e
   cases h
   exact ⟨0, a, by simp [e], rfl, rfl⟩
  ·obtain ⟨i, b, h1, h2, h3⟩ := tE ps l n v h
   exact ⟨i + 1, b, by simpa using h1, by simpa using h2, h3⟩
theorem tF : ∀ (ps : List Nat) (l : List AV) (n : Nat), ps.length = l.length → get (C3 ps l) (.s n) = none → n ∉ ps
 | [], _, _, _, _ => by simp
 | p :: ps, [], n, hl, h => by simp at hl
 | p :: ps, a :: l, n, hl, h => by
  simp only [C3, get] at h
  split at h
  ·cases h
  ·rename_i e
   have := tF ps l n (by simpa using hl) h
   simp only [List.mem_cons, not_or]
   exact ⟨fun e2 => e (by rw [e2]), this⟩
theorem tx : ∀ (ps : List Nat) (vs : List Value) (tm : Array Value), ps.length = vs.length → ps.Nodup → (∀ p ∈ ps, p < tm.size) →
  let t' := (ps.zip vs).foldl (fun (t : Array Value) (x : Nat × Value) => t.setIfInBounds x.1 x.2) tm
  t'.size = tm.size ∧ (∀ n, n ∉ ps → t'.getD n undef = tm.getD n undef) ∧ ∀ i p, ps[i]? = some p → t'.getD p undef = vs.getD i undef
 | [], vs, tm, _, _, _ => ⟨by simp, fun _ _ => by simp, fun i p h => by simp at h⟩
 | p :: ps, [], tm, hl, _, _ => by simp at hl
 | p :: ps, v :: vs, tm, hl, hn, hs => by
  obtain ⟨hn1, hn2⟩ := List.nodup_cons.1 hn
  obtain ⟨h1, h2, h3⟩ := tx ps vs (tm.setIfInBounds p v) (by simpa using hl) hn2 (fun q hq => by simpa using hs q (List.mem_cons_of_mem _ hq))
  have hp := hs p (List.mem_cons_self ..)
  simp only [List.zip_cons_cons, List.foldl_cons]
  refine ⟨by simpa using h1, fun n hn' => ?_, fun i q hq => ?_⟩
  ·simp only [List.mem_cons, not_or] at hn'
   rw [h2 n hn'.2]
   simp only [Array.getD_eq_getD_getElem?]
   rw [Array.getElem?_setIfInBounds_ne (Ne.symm hn'.1)]
  ·cases i with
   | zero =>
    simp at hq; subst hq
    rw [h2 p hn1]
    simp [Array.getD_eq_getD_getElem?, Array.getElem?_setIfInBounds_self_of_lt hp]
   | succ i => exact h3 i q (by simpa using hq)
theorem xg {E : dX} {N : Nat} {G0 G : Gh} {L : Loc} {a : Act} {w0 w : World} {s : St} (h : Rel E N G0 L a w0 s) (hbx : ∀ k, get s (.b k) = none) (htk : ∀ k, get s (.t k) = none) (hle : G0.le G) {Ha : Hp} (hge : GE ⟨G, w, aZ G Ha w, []⟩) (hkn : eT G w) (hok : dK G w Ha)
  {ps : List Nat} {args : List AV} {cargs : Array Value} (hv : VL G cargs args) (hl : ps.length = args.length) (hn : ps.Nodup) (hs : ∀ p ∈ ps, p < N) :
  Rel ⟨G, w, aZ G Ha w, []⟩ N G L { tmps := (ps.toArray.zip cargs).foldl (fun t (p, v) => t.setIfInBounds p v) a.tmps, defers := [] } w (jH s ps args Ha) := by
 have hz : (ps.toArray.zip cargs).foldl (fun t (p, v) => t.setIfInBounds p v) a.tmps = (ps.zip cargs.toList).foldl (fun (t : Array Value) (x : Nat × Value) => t.setIfInBounds x.1 x.2) a.tmps := by
  rw [← Array.foldl_toList]
  simp
 obtain ⟨f1, f2, f3⟩ := tx ps cargs.toList a.tmps (by rw [hl]; simpa using hv.1.symm) hn (fun p hp => by rw [h.size]; exact hs p hp)
 have hg : ∀ c, (∀ n, c ≠ .s n) → get (jH s ps args Ha) c = get ((.h, .hp Ha) :: s) c := fun c hc => by
  unfold jH; rw [get_append, qa _ _ _ hc]
 have hgb : ∀ k, get (jH s ps args Ha) (.b k) = none := fun k => by rw [hg _ (by simp)]; simpa [get] using hbx k
 have hgt : ∀ k, get (jH s ps args Ha) (.t k) = none := fun k => by rw [hg _ (by simp)]; simpa [get] using htk k
 have hgh : get (jH s ps args Ha) .h = some (.hp Ha) := by rw [hg _ (by simp)]; simp [get]
 have hno : ∀ c blk, ¬ owns (jH s ps args Ha) L c blk := fun c blk hc => by
  cases c with
  | b k => obtain ⟨⟨cv, g, _⟩, _⟩ := hc; rw [hgb] at g; cases g
  | t k => obtain ⟨⟨m, el, esz, xs, g⟩, _⟩ := hc; rw [hgt] at g; cases g
  | s n => exact hc.elim
  | h => exact hc.elim
 refine ⟨by show Array.size _ = N; rw [hz, f1]; exact h.size, rfl, hge, hkn, fun _ _ _ _ => rfl, fun _ _ e => ⟨e, rfl⟩, fun _ _ e => .inl ⟨_, e⟩, Fr.refl _ _, fun n x g => ?_, fun k cv g => (by rw [hgb] at g; cases g), fun k m el esz xs g => (by rw [hgt] at g; cases g),
  fun c d blk hc => (hno c blk hc).elim, ⟨Ha, hgh, hok, fun b hb => .inr hb⟩, fun c blk hc => (hno c blk hc).elim, fun k _ => h.nobox k (hbx k), fun k _ => h.notok k (htk k)⟩
 show SV G L (Array.getD _ n undef) x
 rw [hz]
 unfold jH at g
 rw [get_append] at g
 cases hp : get (C3 ps args) (.s n) with
 | some v =>
  rw [hp] at g
  obtain ⟨i, b, h1, h2, h3⟩ := tE _ _ _ _ hp
  subst h3
  cases g
  rw [f3 i n h1]
  have := hv.2 i b h2
  show V G _ b
  simpa [Array.getD_eq_getD_getElem?, List.getD_eq_getElem?_getD] using this
 | none =>
  rw [hp] at g
  rw [f2 n (tF _ _ _ hl hp)]
  exact (h.slot n x (by simpa [get] using g)).mono hle
def nb (P : Program) (N : Nat) (s : St) (ps : List Nat) (assign body : Code) (args : List AV) (Ha Hb : Hp) : Prop :=
 ∀ E l, ar E (some l) P N assign (jH s ps args Ha) fun e s1 => e = .normal ∧ ∀ E', ar E' (some l) P N body s1 fun e s2 => e = .normal ∧ get s2 .h = some (.hp Hb)
theorem tg {G : Gh} {w : World} (o : Obj) (hk : eT G w) : eT G (w.alloc o) := fun b o1 v e => by
 have h1 := hk b o1 v e
 rw [EG (w := w.alloc o) (w' := w) (show w.heap[b]? = (w.alloc o).heap[b]? from ?_)] at h1
 ·exact h1
 ·have := World.block_lt_of_cell? w _ (hk b o1 v e)
  show _ = (w.heap.push o)[b]?
  rw [Array.getElem?_push_lt this, Array.getElem?_eq_getElem this]
theorem heap_alloc {w : World} {o : Obj} {b : Nat} (h : b < w.heap.size) : (w.alloc o).heap[b]? = w.heap[b]? := by
 show (w.heap.push o)[b]? = _
 rw [Array.getElem?_push_lt h, Array.getElem?_eq_getElem h]
theorem gh {w : World} {o : Obj} : (w.alloc o).heap.size = w.heap.size + 1 := by show (w.heap.push o).size = _; simp
theorem YS.AE {P : Program} {E : dX} {N : Nat} {G0 : Gh} {L : Loc} {a : Act} {w0 w2 : World} {s : St} {H Ha Hb : Hp} {l fn D : Nat} {ps : List Nat} {assign body : Code} {args : List AV} (h : Rel E N G0 L a w0 s) (hbx : ∀ k, get s (.b k) = none) (htk : ∀ k, get s (.t k) = none) (hk2 : eT G0 w2) (hok2 : dK G0 w2 H)
  (hl2 : w2.heap[l]? = some (.loop { state := .ready, pending := none, fn, tmps := a.tmps, params := ps.toArray, assign, body, defers := D })) (hlf : ¬ aZ G0 H w2 l) (hgn : gN ≤ l)
  (hl : ps.length = args.length) (hn : ps.Nodup) (hs : ∀ p ∈ ps, p < N) (hR : nb P N s ps assign body args Ha Hb) : YS P ⟨G0, w2, aZ G0 H w2, []⟩ l args Ha Hb := by
 intro G w cargs hge hkn hok hv hfr hx hmay
 have hlt2 : l < w2.heap.size := (Array.getElem?_eq_some_iff.1 hl2).1
 have hlt : l < w.heap.size := Nat.lt_of_lt_of_le hlt2 hfr.size
 have hl0 := (hfr.block l hlt2 hlf).trans hl2
 have hnf : ¬ aZ G Ha w l := fun e => by
  rcases hmay l e with e | e
  ·exact absurd hlt2 (Nat.not_lt.2 e)
  ·exact hlf e
 have hle : G0.le G := hx.le hk2 (fun b hb => (hok2.aZ hb).2)
 have hr := xg h hbx htk hle hge hkn hok hv hl hn hs
 refine ⟨fn, _, assign, body, run_yield hl0 (by simpa using hv.1.trans hl.symm), roundIn_of_wpIn trivial ?_⟩
 show assign.wpIn (FF (some l)) 2 P _ _ _
 refine yv (wpIn_mono (hR ⟨G, w, aZ G Ha w, []⟩ l _ _ ⟨G, L, hr⟩) ?_)
 rintro e a1 w1 ⟨s1, ⟨G1, L1, hr1⟩, rfl, hbody⟩
 have hl1 := (hr1.fr.block l hlt hnf).trans hl0
 obtain ⟨H1, gH1, _, _⟩ := hr1.heap
 refine ⟨_, run_beginRound hl1 rfl, ?_⟩
 have hr2 := hr1.Di gH1 (o' := .loop { state := .busy, pending := none, fn, tmps := a.tmps, params := ps.toArray, assign, body, defers := D }) (ds := []) hl1 (by intro x y z e; cases e) hgn hlt hnf
 have ha1 : ({ a1 with defers := [] } : Act) = a1 := by
  have := hr1.defs
  cases a1; simp at this; subst this; rfl
 rw [ha1] at hr2
 show body.wpIn (FF (some l)) 2 P _ a1 _
 refine yv (wpIn_mono (hbody _ a1 _ ⟨G1, L1, hr2⟩) ?_)
 rintro e a3 w3 ⟨s3, ⟨G3, L3, hr3⟩, rfl, hH3⟩
 have hl3 := (hr3.fr.block l (by simpa using hlt) hnf).trans (World.putObj_heap_same hlt)
 obtain ⟨H3, gH3, hok3, hmay3⟩ := hr3.heap
 rw [hH3] at gH3; cases gH3
 have hm3 : ∀ b, aZ G3 Hb w3 b → w.heap.size ≤ b ∨ aZ G Ha w b := fun b hb => by
  rcases hmay3 b hb with e | e
  ·exact .inl (by simpa using e)
  ·exact .inr e
 have hne : ∀ b, aZ G3 Hb w3 b → b ≠ l := fun b hb e => by
  subst e
  rcases hm3 b hb with e | e
  ·exact absurd hlt (Nat.not_lt.2 e)
  ·exact hnf e
 have hlt3 : l < w3.heap.size := (Array.getElem?_eq_some_iff.1 hl3).1
 refine ⟨_, _, run_endRound none hl3, .bool true, G3, rfl, .bool true, ⟨fun b o hb hm => hr3.old b o (by simpa using hb) hm, hr3.obs, fun id b e => by simpa using hr3.obn id b e⟩, mZ hr3.kn hl3 (by intro x y z e; cases e), ?_⟩
 have hst := fun o' => hok3.stay (w' := w3.putObj l o') (Gh.le.refl G3) rfl (fun b hb => (hok3.aZ hb).2) (fun k hk => World.putObj_heap_other (hne k hk)) (by simp)
 refine ⟨(hst _).1, ⟨hr3.fr.os, hr3.fr.tape, hr3.fr.output, by simpa using hr3.fr.size, fun k hk hno => ?_⟩, fun b hb => hm3 b (((hst _).2 b).1 hb)⟩
 by_cases e : k = l
 ·subst e
  rw [World.putObj_heap_same hlt3, hl0]; rfl
 ·rw [World.putObj_heap_other e]
  exact (hr3.fr.block k (by simpa using hk) hno).trans (World.putObj_heap_other e)
/-! ### The statement -/
def nL (P : Program) (N : Nat) (fn : Func) (c : Code) (s : St) (r : AV) (H' : Hp) : Prop :=
 ∀ E a w, Fits E N s a w → E.ds = [] → c.wpIn (FF none) 3 P (bodyPostM (FF none) 3 P fn (na E r H')) a w
theorem nL.seq {P : Program} {N : Nat} {fn : Func} {s : St} {r : AV} {H' : Hp} {c d : Code} (h : aC P N c s fun e s' => e = .normal ∧ nL P N fn d s' r H') : nL P N fn (.seq c d) s r H' := by
 intro E a w hf hd
 refine wpIn_seq (wpIn_mono (h.Ip a w hf) ?_)
 rintro e a' w' ⟨s', h1, rfl, h2⟩
 exact h2 E a' w' h1 hd
def B4 (P : Program) (N : Nat) (fn : Func) (b d : Code) (s : St) (r : AV) (H' : Hp) : Prop :=
 ∀ E a w, Fits E N s a w → E.ds = [] → b.wpIn (FF none) 3 P (Exit.then (d.wpIn (FF none) 3 P (bodyPostM (FF none) 3 P fn (na E r H'))) (bodyPostM (FF none) 3 P fn (na E r H'))) a w
theorem nL.Gq {P : Program} {N : Nat} {fn : Func} {s : St} {r : AV} {H' : Hp} {c b d : Code} (h : aC P N c s fun e s' => e = .normal ∧ B4 P N fn b d s' r H') : nL P N fn (.seq (.seq c b) d) s r H' := by
 intro E a w hf hd
 refine wpIn_seq (wpIn_seq (wpIn_mono (h.Ip a w hf) ?_))
 rintro e a' w' ⟨s', h1, rfl, h2⟩
 exact h2 E a' w' h1 hd
theorem B4.range {P : Program} {N : Nat} {fn : Func} {s : St} {r : AV} {H H2 H' : Hp} {id t : Nat} {ps : List Nat} {assign body d : Code} {gf : FuncId} {caps : List AV} {ys : List (List AV × Hp × Hp)} (hbx : ∀ k, get s (.b k) = none) (htk : ∀ k, get s (.t k) = none)
  (hH : get s .h = some (.hp H)) (hc : get s (.s t) = some (.sv (.v (.fn gf caps)))) (hgf : aa P gf = true) (hI : po P gf caps H ys H2) (hn : ps.Nodup) (hs : ∀ p ∈ ps, p < N) (hl : ∀ y ∈ ys, ps.length = y.1.length)
  (hR : ∀ y ∈ ys, nb P N s ps assign body y.1 y.2.1 y.2.2) (hd : aC P N d ((.h, .hp H2) :: s) fun e s' => (e = .normal ∨ e = .ret) ∧ aE P fn s' r ∧ get s' .h = some (.hp H')) :
  B4 P N fn (.block id (.rangeFunc (.tmp t) ps.toArray assign body)) d s r H' := by
 intro E a w ⟨G, L, hr⟩ hds
 refine wpIn_block (wpIn_rangeFunc ?_)
 intro fid hfn
 obtain ⟨H0, g0, hok, hmay⟩ := hr.heap
 rw [hH] at g0; cases g0
 have hv : V G (a.eval (.tmp t)) (.fn gf caps) := hr.slot t _ hc
 generalize hav : a.eval (.tmp t) = u at hv
 cases hv
 rename_i vs hvl hvv
 obtain ⟨w2, hw2⟩ : ∃ w2, w2 = (w.alloc (.deferred (some []))).alloc (.loop { state := .ready, pending := none, fn := fid, tmps := a.tmps, params := ps.toArray, assign, body, defers := w.heap.size }) := ⟨_, rfl⟩
 have hsz2 : w2.heap.size = w.heap.size + 2 := by rw [hw2, gh, gh]
 have hlow : ∀ b, b < w.heap.size → w2.heap[b]? = w.heap[b]? := fun b hb => by rw [hw2, heap_alloc (by rw [gh]; omega), heap_alloc hb]
 have hD2 : w2.heap[w.heap.size]? = some (.deferred (some [])) := by rw [hw2, heap_alloc (by rw [gh]; omega)]; exact World.alloc_heap_new w _
 have hl2 : w2.heap[w.heap.size + 1]? = some (.loop { state := .ready, pending := none, fn := fid, tmps := a.tmps, params := ps.toArray, assign, body, defers := w.heap.size }) := by
  rw [hw2]
  have := World.alloc_heap_new (w.alloc (.deferred (some []))) (.loop { state := .ready, pending := none, fn := fid, tmps := a.tmps, params := ps.toArray, assign, body, defers := w.heap.size })
  rwa [gh] at this
 have hk2 : eT G w2 := by rw [hw2]; exact tg _ (tg _ hr.kn)
 have hst := hok.stay (w' := w2) (Gh.le.refl G) rfl (fun b hb => (hok.aZ hb).2) (fun b hb => hlow b (hok.aZ hb).1) (by omega)
 have hfl : ∀ b, aZ G H w2 b → b < w.heap.size := fun b hb => (hok.aZ ((hst.2 b).1 hb)).1
 obtain ⟨ge1, ge2, ge3⟩ := hr.sB hH
 have hge2 : GE ⟨G, w2, aZ G H w2, []⟩ := ⟨DJ (fun k hk => hlow k (Nat.lt_of_lt_of_le hk ge2)) ge1, Nat.le_trans ge2 (by show w.heap.size ≤ w2.heap.size; omega), fun g hg hf => ge3 g hg ((hst.2 g).1 hf)⟩
 refine ⟨w.heap.size + 1, [{ target := .collected w.heap.size, args := #[] }], w2, { target := .fn (.func gf) vs, args := #[.func (.yield (w.heap.size + 1)) #[] #[]] }, w2, gf, #[.func (.yield (w.heap.size + 1)) #[] #[]] ++ vs, w2, ?_, ?_, fun _ _ => trivial, ?_, fun _ => by omega, ?_⟩
 ·rw [hw2]; exact run_enterLoop_outer _ _ _ _ _
 ·simp only [resolve, hav]
  simp [go_sem]
 ·simp only [invoke]; exact jF hgf _ _
 ·refine callsIn_wide.2 ((hI G w2 vs (w.heap.size + 1) hge2 hk2 hst.1 ⟨hvl, hvv⟩ fun y hy => ?_).mono ?_)
  ·refine YS.AE hr hbx htk hk2 hst.1 hl2 (fun e => by have := hfl _ e; omega) (Nat.le_trans ge2 (by show w.heap.size ≤ _; omega)) (hl y hy) hn hs (hR y hy)
  ·rintro e w3 ⟨⟨v, rfl⟩, G3, hx, hkn, hok3, hfr, hft⟩
   have hl3 : w3.heap[w.heap.size + 1]? = some (.loop { state := .ready, pending := none, fn := fid, tmps := a.tmps, params := ps.toArray, assign, body, defers := w.heap.size }) := (hfr.block _ (by omega) (fun e => by have := hfl _ e; omega)).trans hl2
   have hD3 : w3.heap[w.heap.size]? = some (.deferred (some [])) := (hfr.block _ (by omega) (fun e => by have := hfl _ e; omega)).trans hD2
   have hr3 : Rel E N G3 L a w3 ((.h, .hp H2) :: s) := by
    refine hr.called hH ⟨fun b o hb hm => hx.kn b o (by omega) (fun e => hm ((hst.2 b).1 e)), hx.ob, fun id b e => ?_⟩ hkn hok3 ⟨?_, ?_, ?_, by have := hfr.size; omega, fun k hk hno => (hfr.block k (by omega) (fun e => hno ((hst.2 k).1 e))).trans (hlow k hk)⟩ (fun b hb => ?_)
    ·rcases hx.obn id b e with e | e
     ·exact .inl e
     ·exact .inr (by omega)
    ·exact hfr.os.trans (by rw [hw2]; rfl)
    ·exact hfr.tape.trans (by rw [hw2]; rfl)
    ·exact hfr.output.trans (by rw [hw2]; rfl)
    ·rcases hft b hb with e | e
     ·exact .inl (by omega)
     ·exact .inr ((hst.2 b).1 e)
   have hnf3 : ∀ b, b = w.heap.size ∨ b = w.heap.size + 1 → ¬ aZ G3 H2 w3 b := fun b hb e => by
    rcases hft b e with e | e
    ·omega
    ·have := hfl b e; omega
   have hgh : get ((aK.h, CV.hp H2) :: s) .h = some (.hp H2) := by simp [get]
   have hr4 := hr3.Ij hgh (fun k => by simpa [get] using hbx k) (fun k => by simpa [get] using htk k) (o' := .loop { state := .exhausted, pending := none, fn := fid, tmps := a.tmps, params := ps.toArray, assign, body, defers := w.heap.size }) (ds := [{ target := .collected w.heap.size, args := #[] }] ++ a.defers) hl3 (by intro x y z e; cases e) (by show gN ≤ w.heap.size + 1; exact Nat.le_trans ge2 (by show w.heap.size ≤ _; omega)) (hnf3 _ (.inr rfl))
   refine ⟨none, _, run_endLoop (P := P) hl3 (by simp), ?_⟩
   show d.wpIn (FF none) 3 P _ _ _
   refine wpIn_mono (wpIn_wide.2 (hd _ _ _ ⟨G3, L, hr4⟩)) ?_
   rintro e a5 w5 ⟨s5, ⟨G5, L5, hr5⟩, he, hres, hH5⟩
   have hsz3 : w.heap.size + 1 < w3.heap.size := (Array.getElem?_eq_some_iff.1 hl3).1
   have hD5 : w5.heap[w.heap.size]? = some (.deferred (some [])) := (hr5.fr.block _ (by simpa using Nat.lt_of_succ_lt hsz3) (hnf3 _ (.inl rfl))).trans ((World.putObj_heap_other (by omega)).trans hD3)
   have hr6 := hr5.Di hH5 (o' := .deferred none) (ds := []) hD5 (by intro x y z e; cases e) ge2 (by simpa using Nat.lt_of_succ_lt hsz3) (hnf3 _ (.inl rfl))
   obtain ⟨v6, hv6, hV6⟩ := hres _ _ _ _ _ _ hr6
   obtain ⟨H6, g6, hok6, hmay6⟩ := hr6.heap
   rw [hH5] at g6; cases g6
   have hdf : a5.defers = [{ target := .collected w.heap.size, args := #[] }] := by rw [hr5.defs, hr.defs, hds]; rfl
   have hpost : LeavesInM (FF none) 3 P fn a5.tmps (na E r H') a5.defers .returning w5 := by
    rw [hdf]
    refine ⟨by simp, .inl ⟨w.heap.size, _, rfl, run_takeDeferred hD5, v6, hv6, v6, G5, rfl, hV6, ⟨fun b o hb hm => ?_, fun id b e => ?_, fun id b e => ?_⟩, hr6.kn, hok6, ⟨?_, ?_, ?_, ?_, fun k hk hno => ?_⟩, fun b hb => ?_⟩⟩
    ·have hnf : ¬ aZ G3 H2 w3 b := fun e => by
      obtain ⟨_, g, _, hm3⟩ := hr3.heap
      rw [hgh] at g; cases g
      rcases hm3 b e with e | e
      ·exact absurd hb (Nat.not_lt.2 e)
      ·exact hm e
     exact (hr5.old b o (by have := hr3.fr.size; simp; omega) hnf).trans (hr3.old b o hb hm)
    ·exact ⟨(hr5.obs id b (hr3.obs id b e).1).1, (hr5.obs id b (hr3.obs id b e).1).2.trans (hr3.obs id b e).2⟩
    ·rcases hr5.obn id b e with ⟨i, e⟩ | e
     ·exact hr3.obn i b e
     ·exact .inr (by have := hr3.fr.size; simp at e; omega)
    ·exact hr5.fr.os.trans hr3.fr.os
    ·exact hr5.fr.tape.trans hr3.fr.tape
    ·exact hr5.fr.output.trans hr3.fr.output
    ·have h1 := hr5.fr.size; have h2 := hr3.fr.size; simp at h1 ⊢; omega
    ·have hsz := hr.fr.size
     have hnf : ¬ aZ G3 H2 w3 k := fun e => by
      obtain ⟨_, g, _, hm3⟩ := hr3.heap
      rw [hgh] at g; cases g
      rcases hm3 k e with e | e
      ·exact absurd hk (Nat.not_lt.2 e)
      ·exact hno e
     rw [World.putObj_heap_other (by omega)]
     refine (hr5.fr.block k (by have := hr3.fr.size; simp; omega) hnf).trans ?_
     rw [World.putObj_heap_other (by omega)]
     exact hr3.fr.block k hk hno
    ·obtain ⟨_, g, _, hm3⟩ := hr3.heap
     rw [hgh] at g; cases g
     rcases hmay6 b hb with e | e
     ·exact .inl (by have := hr3.fr.size; simp at e; omega)
     ·exact hm3 b e
   rcases he with rfl | rfl
   ·exact hpost
   ·exact hpost
theorem dW.wa {P : Program} {f : FuncId} {fn : Func} {c : Code} {N : Nat} {args : List AV} {H : Hp} {r : AV} {H' : Hp} (hf : P.funcs[f]? = some fn) (hb : fn.body = some c) (hN : fn.ntmps = N) (hle : args.length ≤ N)
  (h : nL P N fn c ((.h, .hp H) :: ek args 0) r H') : dW P f args H r H' := by
 intro G w cargs hg hk hH hV
 exact callsIn_wide.1 (callsIn_of_wp_marks (F := FF none) (n := 3) hf hb trivial (h ⟨G, w, aZ G H w, []⟩ _ w (qt hN hle hg hk hH hV) rfl))
/- The program logic's rules: make([]T, n) as an object. No condition. -/
section
variable {P : Program} {N : Nat} {s : St} {d : Nat} {ty : TypeId} {pos : String} {af : Array Edge} {g : Option (Nat × Bool)}
end
theorem ar.blk {E : dX} {ro : Option Nat} {P : Program} {N : Nat} {s : St} {Q : Exit → St → Prop} {id : Nat} {c : Code} (h : ar E ro P N c s fun e s' => match e with | .exit id' => bif Nat.beq id' id then Q .normal s' else Q (.exit id') s' | e => Q e s') : ar E ro P N (.block id c) s Q := by
 refine ar.block (h.mono ?_)
 intro e s' hq
 cases e with
 | exit id' =>
  by_cases hid : id' = id
  ·subst hid
   have hb : Nat.beq id' id' = true := Nat.beq_refl id'
   simp only [hb, cond_true] at hq
   simp only [if_true]
   exact hq
  ·have : Nat.beq id' id = false := by
    cases hb : Nat.beq id' id with
    | false => rfl
    | true => exact absurd (Nat.eq_of_beq_eq_true hb) hid
   simp only [this, cond_false] at hq
   simp only [hid, if_false]
   exact hq
 | _ => exact hq
theorem ar.aW {E : dX} {ro : Option Nat} {P : Program} {N : Nat} {s : St} {Q : Exit → St → Prop} {c : Code} {α : Type} (upd : α → St) (rest : St) (I : α → Prop) (m : α → Nat) (a0 : α) (hs : s = upd a0 ++ rest) (h0 : I a0)
  (hb : ∀ a, I a → ar E ro P N c (upd a ++ rest) fun e s' => match e with | .normal => ∃ b, m b < m a ∧ I b ∧ s' = upd b ++ rest | e => Q e s') : ar E ro P N (.loop c) s Q := by
 refine ar.loop (fun n t => ∃ a, m a = n ∧ I a ∧ t = upd a ++ rest) ?_ (n := m a0) ⟨a0, rfl, h0, hs⟩
 rintro n t ⟨a, rfl, ha, rfl⟩
 refine (hb a ha).mono fun e s' h => ?_
 cases e with
 | normal => obtain ⟨b, h1, h2, h3⟩ := h; exact ⟨m b, h1, b, rfl, h2, h3⟩
 | _ => exact h
/- frames: ports -/
theorem mu (l : List Port) (hl : l.length ≤ 1000000) : Pure Tryz.prog 58 [.sl (l.map Port.av)] (.sl (l.map Port.av)) := by
 refine Pure.aN Tryz.func58 rfl rfl (aF rfl) fun H => (aC.seq (aC.region (aB.run II 1 rfl (aB.nil (aC.seq (aC.seq (aC.region (aB.run II 1 rfl (aB.pR (aF rfl) Tryz.underlying48 rfl (fun b hb => (aB.nil (aC.cond rfl (fun hc1 => ?_) (fun hc1 => ?_)))))))))))))
 ·exact aC.seq (aC.region (aB.run II 1 rfl (aB.nil (aC.ret ⟨.inr rfl, (aE.r1 rfl (.tmp rfl .nil)).cast (by rw [hb hc1]), rfl⟩))))
 ·refine aC.skip (aC.seq (aC.region (aB.c2 rfl (az («as» := []) (aF rfl) dH fz rfl rfl rfl (ft rfl) rfl) (aB.run II 1 rfl (aB.c3 rfl (aV (aF rfl) dH rfl rfl rfl (bW Port.cells (fun _ => rfl) _) rfl (by rw [List.length_map]; simp only [List.length_nil]; omega) (by rw [List.length_map]; simp only [List.length_nil]; omega)) ?_)))))
  exact aB.run II 1 rfl (aB.nil (aC.ret ⟨.inr rfl, (aE.r1 rfl (.tmp rfl .nil)).cast (by rfl), rfl⟩))
/- programs made shorter: spans, registers of an operation -/
theorem xE : aa Tryz.prog 104 = true := by kernel_rfl
theorem xD : aa Tryz.prog 105 = true := by kernel_rfl
theorem DQ : aa Tryz.prog 117 = true := by kernel_rfl
theorem xB : aa Tryz.prog 118 = true := by kernel_rfl
theorem xA : aa Tryz.prog 119 = true := by kernel_rfl
theorem wz : aa Tryz.prog 120 = true := by kernel_rfl
theorem wy : aa Tryz.prog 121 = true := by kernel_rfl
theorem dV : lk Tryz.prog 142 = some (true, 2) := by kernel_rfl
def Bx (a : Int × Nat) : List AV := [.int .i64 a.1, .int .u64 (a.2 : Int)]
def nD (a : Int × Nat) : AV := .agg (Bx a)
theorem yi : Tryz.prog.eqGuardType Tryz.prog.depth 142 = false := by kernel_rfl
theorem yh (a b : Int × Nat) (w : World) : (binOp .eql 142 (.agg #[.int .i64 a.1, .int .u64 (a.2 : Int)]) (.agg #[.int .i64 b.1, .int .u64 (b.2 : Int)])).run Tryz.prog w = .ok (.bool (a == b)) w := by
 obtain ⟨a0, a1⟩ := a
 obtain ⟨b0, b1⟩ := b
 go_simp
 by_cases h0 : a0 = b0
 ·by_cases h1 : a1 = b1
  ·simp [h0, h1, Int.natCast_inj]
  ·simp [h0, h1, Int.natCast_inj]
 ·simp [h0, Int.natCast_inj]
theorem B5 {G : Gh} {v : Value} {a : Int × Nat} (h : V G v (nD a)) : v = (.agg #[.int .i64 a.1, .int .u64 (a.2 : Int)]) := by
 unfold nD Bx at h
 cases h with
 | agg vs cs hl hf hv =>
  obtain ⟨l⟩ := vs
  match l, hl with
  | [x0, x1], _ =>
   have h0 : V G x0 (.int .i64 a.1) := hv 0 _ rfl
   cases h0
   have h1 : V G x1 (.int .u64 (a.2 : Int)) := hv 1 _ rfl
   cases h1
   rfl
theorem xy {N : Nat} {s : St} {d : Nat} {ty : TypeId} {pos : String} {af : Array Edge} {g : Option (Nat × Bool)} {t2 : TypeId} {x y : Operand} {u v : AV} (a b : Int × Nat) (hN : d < N) (hx : cU x s = some u) (hy : cU y s = some v) (hu : u = nD a) (hv : v = nD b) :
  aY Tryz.prog N ⟨some d, .binOp .eql 142 x y t2, ty, pos, af, g⟩ s (rd x ++ rd y) [(.s d, .sv (.v (.bool (a == b))))] := by
 subst hu hv
 exact aY.val rfl hN fun E G L c w tt hr hR => by
  refine ⟨.bool (a == b), ?_, .bool _⟩
  have h1 := B5 (aS hr hR.left hx)
  have h2 := B5 (aS hr hR.right hy)
  have hgd := run_eqGuard_agg (P := Tryz.prog) w .eql 142 x y #[.int .i64 a.1, .int .u64 (a.2 : Int)] #[.int .i64 b.1, .int .u64 (b.2 : Int)] yi
  simp only [execOp, Sem.run_bind, h1, h2, hgd, Result.andThen_ok, yh, Sem.run_pure]
theorem DD (a b : Int × Nat) : AV.agg [.int .i64 (if b.1 > a.1 then b.1 else a.1), .int .u64 (if (b.2 : Int) < (a.2 : Int) then (b.2 : Int) else (a.2 : Int))] = nD (oo a b) := by
 unfold nD Bx oo
 congr 2
 ·congr 1; simp only []; omega
 ·congr 2; simp only []; omega
theorem oQ : Pure Tryz.prog 120 [.int .i64 64] (nD (-9223372036854775808, 9223372036854775807)) := by
 exact Pure.aN Tryz.func120 rfl rfl (aF rfl) fun H => (aC.seq (aC.region (aB.run II 1 rfl (aB.nil (aC.seq (aC.drawn mixed rfl (aD.run II 9 rfl (aD.nil (by kernel_rfl) (Kept.now (aC.ret ⟨.inr rfl, (aE.r1 rfl (.cell dV rfl rfl rfl rfl .nil)).cast rfl, rfl⟩))))))))))
theorem oR : Pure Tryz.prog 120 [.int .i64 32] (nD (-2147483648, 2147483647)) := by
 exact Pure.aN Tryz.func120 rfl rfl (aF rfl) fun H => (aC.seq (aC.region (aB.run II 1 rfl (aB.nil (aC.seq (aC.drawn mixed rfl (aD.run II 9 rfl (aD.nil (by kernel_rfl) (Kept.now (aC.ret ⟨.inr rfl, (aE.r1 rfl (.cell dV rfl rfl rfl rfl .nil)).cast rfl, rfl⟩))))))))))
theorem qd : Pure Tryz.prog 121 [.int .i64 64] (nD (0, 18446744073709551615)) := by
 exact Pure.aN Tryz.func121 rfl rfl (aF rfl) fun H => (aC.seq (aC.region (aB.run II 1 rfl (aB.nil (aC.seq (aC.region (aB.run II 5 rfl (aB.nil (aC.ret ⟨.inr rfl, (aE.r1 rfl (.cell dV rfl rfl rfl rfl .nil)).cast rfl, rfl⟩)))))))))
theorem qe : Pure Tryz.prog 121 [.int .i64 32] (nD (0, 4294967295)) := by
 exact Pure.aN Tryz.func121 rfl rfl (aF rfl) fun H => (aC.seq (aC.region (aB.run II 1 rfl (aB.nil (aC.seq (aC.region (aB.run II 5 rfl (aB.nil (aC.ret ⟨.inr rfl, (aE.r1 rfl (.cell dV rfl rfl rfl rfl .nil)).cast rfl, rfl⟩)))))))))
theorem ze (t : Int) : Pure Tryz.prog 104 [.int .i64 t] (.tup [nD (ct t), .bool (cW t)]) := by
 refine Pure.aN Tryz.func104 rfl rfl (aF rfl) fun H => (aC.seq (aC.region (aB.run II 2 rfl (aB.nil (aC.seq (aC.region (aB.run II 1 rfl (aB.nil (aC.seq (aC.seq (aC.region (aB.run II 1 rfl (aB.c1 rfl (aG (aF rfl) DQ rfl (C8 _)) (aB.nil (aC.cond rfl (fun hc1 => ?_) (fun hc1 => ?_))))))))))))))))
 ·refine aC.region (aB.run II 1 rfl (aB.nil (aC.seq (aC.blk (aC.seq (aC.region (aB.run II 1 rfl (aB.c1 rfl (aG (aF rfl) xB rfl (tJ _)) (aB.run II 2 rfl (aB.nil (aC.cond rfl (fun hc2 => ?_) (fun hc2 => ?_))))))))))))
  ·exact aC.seq (aC.region (aB.run II 3 rfl (aB.nil (aC.ret ⟨.inr rfl, (aE.r2 rfl (.cell dV rfl rfl rfl rfl (.tmp rfl .nil))).cast (by simp_all [ct, nD, Bx]), rfl⟩))))
  ·refine aC.seq (aC.region (aB.run II 1 rfl (aB.c1 rfl (aG (aF rfl) xA rfl (wV _)) (aB.run II 1 rfl (aB.nil (aC.cond rfl (fun hc3 => ?_) (fun hc3 => ?_)))))))
   ·exact aC.seq (aC.region (aB.run II 1 rfl (aB.c1 rfl (aG (aF rfl) wz rfl (by first | exact oQ | exact oR)) (aB.run II 2 rfl (aB.nil (aC.ret ⟨.inr rfl, (aE.r2 rfl (.cell dV rfl rfl rfl rfl (.tmp rfl .nil))).cast (by simp_all [ct, nD, Bx]), rfl⟩))))))
   ·exact aC.skip (aC.seq (aC.region (aB.run II 1 rfl (aB.c1 rfl (aG (aF rfl) wy rfl (by first | exact qd | exact qe)) (aB.run II 2 rfl (aB.nil (aC.ret ⟨.inr rfl, (aE.r2 rfl (.cell dV rfl rfl rfl rfl (.tmp rfl .nil))).cast (by simp_all [ct, nD, Bx]), rfl⟩)))))))
 ·refine aC.skip (aC.seq (aC.blk (aC.seq (aC.region (aB.run II 1 rfl (aB.c1 rfl (aG (aF rfl) xB rfl (tJ _)) (aB.run II 2 rfl (aB.nil (aC.cond rfl (fun hc4 => ?_) (fun hc4 => ?_))))))))))
  ·exact aC.seq (aC.region (aB.run II 3 rfl (aB.nil (aC.ret ⟨.inr rfl, (aE.r2 rfl (.cell dV rfl rfl rfl rfl (.tmp rfl .nil))).cast (by simp_all [ct, nD, Bx]), rfl⟩))))
  ·refine aC.seq (aC.region (aB.run II 1 rfl (aB.c1 rfl (aG (aF rfl) xA rfl (wV _)) (aB.run II 1 rfl (aB.nil (aC.cond rfl (fun hc5 => ?_) (fun hc5 => ?_)))))))
   ·exact aC.seq (aC.region (aB.run II 1 rfl (aB.c1 rfl (aG (aF rfl) wz rfl (by first | exact oQ | exact oR)) (aB.run II 2 rfl (aB.nil (aC.ret ⟨.inr rfl, (aE.r2 rfl (.cell dV rfl rfl rfl rfl (.tmp rfl .nil))).cast (by simp_all [ct, nD, Bx]), rfl⟩))))))
   ·exact aC.skip (aC.seq (aC.region (aB.run II 1 rfl (aB.c1 rfl (aG (aF rfl) wy rfl (by first | exact qd | exact qe)) (aB.run II 2 rfl (aB.nil (aC.ret ⟨.inr rfl, (aE.r2 rfl (.cell dV rfl rfl rfl rfl (.tmp rfl .nil))).cast (by simp_all [ct, nD, Bx]), rfl⟩)))))))
theorem wW (a b : Int × Nat) : Pure Tryz.prog 105 [nD a, nD b] (nD (oo a b)) := by
 exact Pure.aN Tryz.func105 rfl rfl (aF rfl) fun H => (aC.seq (aC.region (aB.run II 3 rfl (aB.nil (aC.seq (aC.region (aB.run II 4 rfl (aB.c1 rfl (nS (aF rfl) rfl rfl) (aB.run II 4 rfl (aB.c1 rfl (wZ (aF rfl) rfl rfl) (aB.run II 2 rfl (aB.nil (aC.ret ⟨.inr rfl, (aE.r1 rfl (.cell dV rfl rfl rfl rfl .nil)).cast (DD a b), rfl⟩)))))))))))))
theorem zf (a b : Int × Nat) : Pure Tryz.prog 85 [nD a, nD b] (.bool (BN a b)) := by
 refine Pure.aN Tryz.func85 rfl rfl (aF rfl) fun H => (aC.seq (aC.region (aB.run II 3 rfl (aB.nil (aC.seq (aC.drawn mixed rfl (aD.run II 2 rfl (aD.c1 rfl (aG (aF rfl) xD rfl (wW _ _)) (aD.run II 1 rfl (aD.c1 rfl (xy (oo a b) b (aF rfl) rfl rfl rfl rfl) (aD.run II 1 rfl (aD.nil (by kernel_rfl) (Kept.now (aC.ret ?_))))))))))))))
 exact ⟨.inr rfl, (aE.r1 rfl (.tmp rfl .nil)).cast rfl, rfl⟩
theorem ra (x : al) : Pure Tryz.prog 84 [x.av] (.tup [nD x.own, nD (ct x.src), nD (ct x.dst)]) := by
 refine Pure.aN Tryz.func84 rfl rfl (aF rfl) fun H => (aC.seq (aC.region (aB.run II 4 rfl (aB.nil (aC.seq (aC.region (aB.run II 2 rfl (aB.c1 rfl (aG (aF rfl) xE rfl (ze _)) (aB.run II 4 rfl (aB.nil (aC.seq (aC.region (aB.run II 2 rfl (aB.c1 rfl (aG (aF rfl) xE rfl (ze _)) (aB.run II 4 rfl (aB.nil (aC.seq ?_)))))))))))))))))
 exact aC.drawn mixed rfl (aD.run II 10 rfl (aD.nil (by kernel_rfl) (Kept.now (aC.ret ⟨.inr rfl, (aE.r3 rfl (.cell dV rfl rfl rfl rfl (.cell dV rfl rfl rfl rfl (.cell dV rfl rfl rfl rfl .nil)))).cast rfl, rfl⟩))))
theorem C9 (x : al) : Pure Tryz.prog 122 [x.av] (.sl (x.makes.map dL)) := by
 refine Pure.aN Tryz.func122 rfl rfl (aF rfl) fun H => (aC.seq (aC.region (aB.run II 2 rfl (aB.nil (aC.seq (aC.seq (aC.region (aB.run II 2 rfl (aB.nil (aC.blk (aC.seq (aC.region (aB.run II 2 rfl (aB.nil (aC.cond rfl (fun hc1 => ?_) (fun hc1 => ?_))))))))))))))))
 ·exact aC.seq (aC.region (aB.run II 6 rfl (aB.nil (aC.ret ⟨.inr rfl, (aE.r1 rfl (.tmp rfl .nil)).cast (by simp_all [al.makes, dL]), rfl⟩))))
 ·refine aC.seq (aC.region (aB.run II 2 rfl (aB.nil (aC.cond rfl (fun hc2 => ?_) (fun hc2 => ?_)))))
  ·exact aC.seq (aC.region (aB.run II 4 rfl (aB.nil (aC.ret ⟨.inr rfl, (aE.r1 rfl (.tmp rfl .nil)).cast (by simp_all [al.makes, dL]), rfl⟩))))
  ·refine aC.seq (aC.seq (aC.region (aB.run II 2 rfl (aB.nil (aC.cond rfl (fun hc3 => ?_) (fun hc3 => ?_))))))
   ·exact aC.skip (aC.bG rfl hc3 (aC.seq (aC.region (aB.run II 4 rfl (aB.nil (aC.ret ⟨.inr rfl, (aE.r1 rfl (.tmp rfl .nil)).cast (by simp_all [al.makes, dL]), rfl⟩))))))
   ·refine aC.region (aB.run II 2 rfl (aB.nil (aC.cond rfl (fun hc4 => ?_) (fun hc4 => ?_))))
    ·exact aC.seq (aC.region (aB.run II 4 rfl (aB.nil (aC.ret ⟨.inr rfl, (aE.r1 rfl (.tmp rfl .nil)).cast (by simp_all [al.makes, dL]), rfl⟩))))
    ·refine aC.seq (aC.region (aB.run II 2 rfl (aB.nil (aC.cond rfl (fun hc5 => ?_) (fun hc5 => ?_)))))
     ·exact aC.seq (aC.region (aB.run II 4 rfl (aB.nil (aC.ret ⟨.inr rfl, (aE.r1 rfl (.tmp rfl .nil)).cast (by simp_all [al.makes, dL]), rfl⟩))))
     ·exact aC.skip (aC.seq (aC.region (aB.run II 1 rfl (aB.nil (aC.ret ⟨.inr rfl, (aE.r1 rfl (.tmp rfl .nil)).cast (by simp_all [al.makes, dL]), rfl⟩)))))
theorem Ex (x : al) : Pure Tryz.prog 123 [x.av] (.sl (x.kY.map dL)) := by
 refine Pure.aN Tryz.func123 rfl rfl (aF rfl) fun H => (aC.seq (aC.region (aB.run II 2 rfl (aB.nil (aC.seq (aC.seq (aC.region (aB.run II 2 rfl (aB.nil (aC.blk (aC.seq (aC.seq (aC.region (aB.run II 2 rfl (aB.nil (aC.cond rfl (fun hc1 => ?_) (fun hc1 => ?_)))))))))))))))))
 ·exact aC.skip (aC.bG rfl hc1 (aC.seq (aC.region (aB.run II 4 rfl (aB.nil (aC.ret ⟨.inr rfl, (aE.r1 rfl (.tmp rfl .nil)).cast (by simp_all [al.kY, dL]), rfl⟩))))))
 ·refine aC.seq (aC.region (aB.run II 2 rfl (aB.nil (aC.cond rfl (fun hc2 => ?_) (fun hc2 => ?_)))))
  ·exact aC.skip (aC.bG rfl hc2 (aC.seq (aC.region (aB.run II 4 rfl (aB.nil (aC.ret ⟨.inr rfl, (aE.r1 rfl (.tmp rfl .nil)).cast (by simp_all [al.kY, dL]), rfl⟩))))))
  ·refine aC.region (aB.run II 2 rfl (aB.nil (aC.cond rfl (fun hc3 => ?_) (fun hc3 => ?_))))
   ·exact aC.seq (aC.region (aB.run II 4 rfl (aB.nil (aC.ret ⟨.inr rfl, (aE.r1 rfl (.tmp rfl .nil)).cast (by simp_all [al.kY, dL]), rfl⟩))))
   ·refine aC.seq (aC.region (aB.run II 2 rfl (aB.nil (aC.cond rfl (fun hc4 => ?_) (fun hc4 => ?_)))))
    ·exact aC.seq (aC.region (aB.run II 6 rfl (aB.nil (aC.ret ⟨.inr rfl, (aE.r1 rfl (.tmp rfl .nil)).cast (by simp_all [al.kY, dL]), rfl⟩))))
    ·exact aC.skip (aC.seq (aC.region (aB.run II 1 rfl (aB.nil (aC.ret ⟨.inr rfl, (aE.r1 rfl (.tmp rfl .nil)).cast (by simp_all [al.kY, dL]), rfl⟩)))))
/- programs made shorter: which operations have a register, what is renamed -/
theorem DU : aa Tryz.prog 108 = true := by kernel_rfl
theorem DP : aa Tryz.prog 122 = true := by kernel_rfl
theorem DO : aa Tryz.prog 123 = true := by kernel_rfl
theorem sF : aa Tryz.prog 89 = true := by kernel_rfl
theorem dd : lk Tryz.prog 66 = some (true, 13) := by kernel_rfl
theorem yK (x : al) : x.makes.length ≤ 9000000000000000000 := by unfold al.makes; (repeat' split) <;> simp
theorem yw (x : al) : x.kY.length ≤ 9000000000000000000 := by unfold al.kY; (repeat' split) <;> simp
theorem iq (x : al) {a b c : Int} (h : (x.clean.a = a ∧ x.clean.b = b ∧ x.clean.c = c)) : AV.agg ([.int .i64 x.kind, .int .i64 a, .int .i64 b, .int .i64 c, .int .i64 x.src, .int .i64 x.dst, .int .i64 x.lo, .int .u64 (x.hi : Int), .int .i64 x.part, .sl (x.regs.map dL)] ++ x.dv.cells) = x.clean.av := by
 obtain ⟨rfl, rfl, rfl⟩ := h
 unfold al.clean
 repeat' split
 all_goals rfl
theorem BJ (l : List Int) (hl : l.length ≤ 9000000000000000000) (n : Int) : Pure Tryz.prog 108 [.sl (l.map dL), .int .i64 n] (.int .i64 (bU (· == n) l 0)) := by
 refine Pure.aN Tryz.func108 rfl rfl (aF rfl) fun H => (aC.seq (aC.region (aB.run II 1 rfl (aB.nil (aC.seq (aC.seq (aC.region (aB.run II 3 rfl (aB.nil (aC.blk (aC.aJ (Kept.aH [.s 8, .h, .s 0, .s 1, .s 7] rfl (by decide) (Kept.now (aC.aW (fun (i : Nat) => [(.s 8, .sv (.v (.int .i64 (i : Int))))]) _ (fun (i : Nat) => bU (· == n) (l.drop i) i = bU (· == n) l 0) (fun (i : Nat) => l.length - i) 0 rfl rfl ?_))))))))))))))
 rintro i hI
 refine aC.seq (aC.region (aB.run II 1 rfl (aB.nil (aC.seq (aC.cond rfl (fun hc1 => ?_) (fun hc1 => ?_))))))
 ·have hi := ch hc1
  refine aC.skip (aC.seq (aC.blk (aC.seq (aC.region (aB.run II 2 rfl (aB.nil (aC.seq (aC.region (aB.run II 3 rfl (aB.c1 rfl (aI (aF rfl) cA rfl rfl (Int.natCast_nonneg _) (bz hi) rfl) (aB.run II 2 rfl (aB.nil (aC.cond rfl (fun hc2 => ?_) (fun hc2 => ?_))))))))))))))
  ·exact aC.seq (aC.region (aB.run II 2 rfl (aB.nil (aC.ret ⟨.inr rfl, (aE.r1 rfl (.tmp rfl .nil)).cast (congrArg (AV.int .i64) (by rw [← hI, cj hi, if_pos (beq_iff_eq.2 (beq_iff_eq.1 hc2).symm)])), rfl⟩))))
  ·exact aC.skip (aC.region (aB.run II 2 rfl (aB.kept (Kept.aX 8 rfl (inc (by omega)) (Kept.aH [.s 8, .h, .s 0, .s 1, .s 7] rfl (by decide) (Kept.now ⟨i + 1, by omega, by rw [← hI, cj hi, if_neg (fun q => by have e := beq_iff_eq.1 q; rw [e] at hc2; exact absurd hc2 (by simp))], rfl⟩))))))
 ·have hi := ck hc1
  exact aC.exit (aC.seq (aC.region (aB.run II 1 rfl (aB.nil (aC.ret ⟨.inr rfl, (aE.r1 rfl (.tmp rfl .nil)).cast (congrArg (AV.int .i64) (by rw [← hI, eN hi])), rfl⟩)))))
theorem iB (l : List Int) (hl : l.length ≤ 9000000000000000000) (n : Int) : Pure Tryz.prog 89 [.sl (l.map dL), .int .i64 n] (.bool (py l n)) := by
 exact Pure.aN Tryz.func89 rfl rfl (aF rfl) fun H => (aC.seq (aC.region (aB.run II 1 rfl (aB.nil (aC.seq (aC.region (aB.run II 2 rfl (aB.c1 rfl (aG (aF rfl) DU rfl (BJ l hl n)) (aB.run II 2 rfl (aB.nil (aC.ret ⟨.inr rfl, (aE.r1 rfl (.tmp rfl .nil)).cast (congrArg AV.bool ku), rfl⟩)))))))))))
theorem HA (x : al) (hr : x.regs.length ≤ 1000000) (r : Int) : Pure Tryz.prog 107 [x.av, .int .i64 r] (.bool (x.has r)) := by
 refine Pure.aN Tryz.func107 rfl rfl (aF rfl) fun H => (aC.seq (aC.region (aB.run II 2 rfl (aB.nil (aC.seq (aC.seq (aC.region (aB.run II 3 rfl (aB.nil (aC.cond rfl (fun hc1 => ?_) (fun hc1 => ?_)))))))))))
 ·exact aC.seq (aC.region (aB.run II 5 rfl (aB.nil (aC.ret ⟨.inr rfl, (aE.r1 rfl (.tmp rfl .nil)).cast (congrArg AV.bool (by unfold al.has; grind)), rfl⟩))))
 ·refine aC.skip (aC.seq (aC.region (aB.run II 1 rfl (aB.c1 rfl (aG (aF rfl) DP rfl (C9 x)) (aB.run II 1 rfl (aB.c1 rfl (aG (aF rfl) sF rfl (iB _ (yK x) _)) (aB.run II 1 rfl (aB.tell (d := 16) rfl (fun hg2 => ?_) (fun hg2 => ?_)))))))))
  ·exact aB.run II 12 rfl (aB.nil (aC.ret ⟨.inr rfl, (aE.r1 rfl (.tmp rfl .nil)).cast (congrArg AV.bool (by unfold al.has; grind)), rfl⟩))
  ·refine aB.run II 1 rfl (aB.g1 rfl (aF rfl) rfl rfl (aG (aF rfl) DO rfl (Ex x)) (aB.run II 1 rfl (aB.g1 rfl (aF rfl) rfl rfl (aG (aF rfl) sF rfl (iB _ (yw x) _)) (aB.run II 2 rfl (aB.tell (d := 22) rfl (fun hg3 => ?_) (fun hg3 => ?_))))))
   ·exact aB.run II 6 rfl (aB.nil (aC.ret ⟨.inr rfl, (aE.r1 rfl (.tmp rfl .nil)).cast (congrArg AV.bool (by unfold al.has; grind)), rfl⟩))
   ·exact aB.run II 3 rfl (aB.g1 rfl (aF rfl) rfl rfl (aG (aF rfl) sF rfl (iB _ (by omega) _)) (aB.run II 2 rfl (aB.nil (aC.ret ⟨.inr rfl, (aE.r1 rfl (.tmp rfl .nil)).cast (congrArg AV.bool (by unfold al.has; grind)), rfl⟩))))
theorem Cb (x : al) : Pure Tryz.prog 109 [x.av] x.clean.av := by
 refine Pure.aN Tryz.func109 rfl rfl (aF rfl) fun H => (aC.seq (aC.region (aB.run II 2 rfl (aB.nil (aC.seq (aC.seq (aC.region (aB.run II 2 rfl (aB.nil (aC.blk (aC.seq (aC.seq (aC.region (aB.run II 2 rfl (aB.nil (aC.cond rfl (fun hc1 => ?_) (fun hc1 => ?_)))))))))))))))))
 ·exact aC.skip (aC.bG rfl hc1 (aC.region (aB.run II 4 rfl (aB.nil (aC.seq (aC.region (aB.run II 2 rfl (aB.nil (aC.ret ⟨.inr rfl, (aE.r1 rfl (.cell dd rfl rfl rfl rfl .nil)).cast (iq x (by unfold al.clean; simp_all)), rfl⟩)))))))))
 ·refine aC.region (aB.run II 2 rfl (aB.nil (aC.cond rfl (fun hc2 => ?_) (fun hc2 => ?_))))
  ·exact aC.region (aB.run II 4 rfl (aB.nil (aC.seq (aC.region (aB.run II 2 rfl (aB.nil (aC.ret ⟨.inr rfl, (aE.r1 rfl (.cell dd rfl rfl rfl rfl .nil)).cast (iq x (by unfold al.clean; simp_all)), rfl⟩)))))))
  ·refine aC.seq (aC.seq (aC.region (aB.run II 2 rfl (aB.nil (aC.cond rfl (fun hc3 => ?_) (fun hc3 => ?_))))))
   ·exact aC.skip (aC.bG rfl hc3 (aC.region (aB.run II 2 rfl (aB.nil (aC.seq (aC.region (aB.run II 2 rfl (aB.nil (aC.ret ⟨.inr rfl, (aE.r1 rfl (.cell dd rfl rfl rfl rfl .nil)).cast (iq x (by unfold al.clean; simp_all)), rfl⟩)))))))))
   ·refine aC.region (aB.run II 2 rfl (aB.nil (aC.cond rfl (fun hc4 => ?_) (fun hc4 => ?_))))
    ·exact aC.region (aB.run II 2 rfl (aB.nil (aC.seq (aC.region (aB.run II 2 rfl (aB.nil (aC.ret ⟨.inr rfl, (aE.r1 rfl (.cell dd rfl rfl rfl rfl .nil)).cast (iq x (by unfold al.clean; simp_all)), rfl⟩)))))))
    ·refine aC.seq (aC.region (aB.run II 2 rfl (aB.nil (aC.cond rfl (fun hc5 => ?_) (fun hc5 => ?_)))))
     ·exact aC.region (aB.run II 6 rfl (aB.nil (aC.seq (aC.region (aB.run II 2 rfl (aB.nil (aC.ret ⟨.inr rfl, (aE.r1 rfl (.cell dd rfl rfl rfl rfl .nil)).cast (iq x (by unfold al.clean; simp_all)), rfl⟩)))))))
     ·exact aC.skip (aC.seq (aC.region (aB.run II 2 rfl (aB.nil (aC.ret ⟨.inr rfl, (aE.r1 rfl (.cell dd rfl rfl rfl rfl .nil)).cast (iq x (by unfold al.clean; simp_all)), rfl⟩)))))
theorem HC (p q r : Int) (pid qid : Nat) (H : Hp) (hp : H.obj pid = some [.v (.int .i64 p)]) (hq : H.obj qid = some [.v (.int .i64 q)]) : dW Tryz.prog 110 [.int .i64 r, .op pid 0, .op qid 0] H (.int .i64 (qF p q r)) H := by
 refine dW.aN Tryz.func110 rfl rfl (aF rfl) (aC.seq (aC.region (aB.run II 1 rfl (aB.nil (aC.seq (aC.seq (aC.region (aB.run II 1 rfl (aB.c1 rfl (dI (aF rfl) de rfl rfl hp rfl) (aB.run II 1 rfl (aB.nil (aC.cond rfl (fun hc1 => ?_) (fun hc1 => ?_)))))))))))))
 ·exact aC.seq (aC.region (aB.c1 rfl (dI (aF rfl) de rfl rfl hq rfl) (aB.run II 1 rfl (aB.nil (aC.ret ⟨.inr rfl, (aE.r1 rfl (.tmp rfl .nil)).cast (congrArg (AV.int .i64) (by unfold qF; grind)), rfl⟩)))))
 ·exact aC.skip (aC.seq (aC.region (aB.run II 2 rfl (aB.nil (aC.ret ⟨.inr rfl, (aE.r1 rfl (.tmp rfl .nil)).cast (congrArg (AV.int .i64) (by unfold qF; grind)), rfl⟩)))))
theorem Ca (y : Port) (x : al) (xid : Nat) (H : Hp) (hX : H.obj xid = some (x.cells.map .v)) : dW Tryz.prog 87 [y.av, .op xid 0] H (.bool (y.reg == x.a)) H := by
 exact dW.aN Tryz.func87 rfl rfl (aF rfl) (aC.seq (aC.region (aB.run II 2 rfl (aB.nil (aC.seq (aC.region (aB.run II 3 rfl (aB.c1 rfl (dI (aF rfl) de rfl rfl hX rfl) (aB.run II 2 rfl (aB.nil (aC.ret ⟨.inr rfl, (aE.r1 rfl (.tmp rfl .nil)).cast rfl, rfl⟩)))))))))))
theorem Cc (p q : Int) (H : Hp) : dW Tryz.prog 92 [.int .i64 p, .int .i64 q] H (.fn 110 [.op H.next 0, .op (H.next + 1) 0]) ((H.new [.v (.int .i64 p)]).new [.v (.int .i64 q)]) := by
 exact dW.aN Tryz.func92 rfl rfl (aF rfl) (aC.seq (aC.region (aB.run II 3 rfl (aB.nil (aC.seq (aC.aJ (Kept.xn 2 rfl rfl (Kept.op 2 rfl rfl (Kept.cls 2 rfl rfl rfl rfl (Kept.now (aC.aJ (Kept.xn 3 rfl rfl (Kept.op 3 rfl rfl (Kept.cls 3 rfl rfl rfl rfl (Kept.now (aC.region (aB.c1 rfl (uv (aF rfl) rfl) (aB.run II 1 rfl (aB.nil (aC.ret ⟨.inr rfl, (aE.r1 rfl (.tmp rfl .nil)).cast rfl, rfl⟩))))))))))))))))))))
/- The program logic's rules: rows that are objects, or nil: their length, their elements; operations that go from one row to another. No condition. -/
def pz : AV → Nat | .os id _ _ => id | _ => 0
theorem tq {H : Hp} {o : AV} {e : Nat} {xs : List AV} (h : dC H o e xs) {i : Nat} (hi : i < xs.length) : H.obj (pz o) = some (ae xs) := by
 rcases h with ⟨_, rfl⟩ | ⟨id, rfl, h2⟩
 ·exact absurd hi (Nat.not_lt_zero _)
 ·exact h2
theorem dU {H : Hp} {o : AV} {e : Nat} {xs : List AV} (h : isRow H o e xs) {i : Nat} (hi : i < xs.length) : H.obj (pz o) = some (ae xs) := by
 rcases h with ⟨_, rfl⟩ | h
 ·exact absurd hi (Nat.not_lt_zero _)
 ·exact tq h hi
section
variable {P : Program} {N : Nat} {s : St} {d : Nat} {ty : TypeId} {pos : String} {af : Array Edge} {g : Option (Nat × Bool)}
theorem Cm (hN : d < N) : aY P N ⟨some d, .assign (.const (.slice none 0 0)), ty, pos, af, g⟩ s [] [(.s d, .sv (.v .nsl))] :=
 aY.val rfl hN fun _ _ _ a _ _ _ _ => ⟨.slice none 0 0, rfl, V.nsl⟩
theorem fU {t1 e : TypeId} {x : Operand} {o : AV} {xs : List AV} {H : Hp} {esz : Nat} (hN : d < N) (h1 : P.underlying t1 = some (.slice e)) (hx : cU x s = some o) (ho : isRow H o esz xs) :
  aY P N ⟨some d, .call { callee := .builtin .len, args := #[x], argTypes := #[t1] }, ty, pos, af, g⟩ s (rd x) [(.s d, .sv (.v (.int .i64 (xs.length : Int))))] := by
 rcases ho with ⟨rfl, rfl⟩ | ⟨rfl, rfl⟩ | ⟨id, rfl, h2⟩
 ·exact l5 hN h1 hx
 ·exact aY.val rfl hN fun E G L a w t hr hR => by
   have hv := aS hr hR hx
   generalize hav : a.eval x = u at hv
   cases hv
   refine ⟨.int .i64 0, ?_, .int _ _⟩
   simp [execOp, resolve, invoke, builtin, hav, Builtin.len_, run_underlying h1, goInt]
 ·exact zq hN h1 hx
theorem eK {t1 : TypeId} {x i : Operand} {o : AV} {xs : List AV} {H : Hp} {esz : Nat} {k : IntKind} {j : Int} (hN : d < N) (ht : ie P t1 = some esz) (hx : cU x s = some o) (ho : isRow H o esz xs) (hi : cU i s = some (.int k j)) (h0 : 0 ≤ j) (h1 : j < (xs.length : Int)) :
  aY P N ⟨some d, .indexAddr t1 x i, ty, pos, af, g⟩ s (rd x ++ rd i) [(.s d, .sv (.v (.op (pz o) (j.toNat * esz))))] := by
 rcases ho with ⟨rfl, rfl⟩ | ⟨rfl, rfl⟩ | ⟨id, rfl, h2⟩
 ·exfalso; simp at h1; omega
 ·exfalso; simp at h1; omega
 ·exact cM hN ht hx hi h0 h1
end
theorem kj {α : Type} {l : List α} {i : Nat} (hi : i < l.length) : l.take (i + 1) = l.take i ++ [l[i]] := by
 rw [List.take_add_one, List.getElem?_eq_getElem hi]; rfl
theorem qx (a : List Int) : ∀ (l m : List al) (i : Nat), et a i (l ++ m) = et a i l ++ et a (i + l.length) m
 | [], m, i => by simp [et]
 | x :: l, m, i => by
  rw [List.cons_append, et, et, qx a l m (i + 1), show i + 1 + l.length = i + (x :: l).length from by simp; omega]
  split <;> rfl
theorem pS {a : List Int} {l : List al} {i : Nat} (hi : i < l.length) : et a 0 (l.take (i + 1)) = et a 0 (l.take i) ++ if py a (i : Int) = true then [] else [l[i]] := by
 rw [kj hi, qx, List.length_take, Nat.min_eq_left (Nat.le_of_lt hi), Nat.zero_add]
 congr 1
theorem ot {l : List al} {i : Nat} (r : Int) (hi : i < l.length) : eB (l.take (i + 1)) r = eB (l.take i) r + if (l[i]).has r = true then 1 else 0 := by
 unfold eB
 rw [kj hi, List.countP_append, List.countP_cons, List.countP_nil, Nat.zero_add]
theorem Mv.then {K K1 : Hp} {o o1 : AV} {ops : List al} (M : Mv K o K1 o1 ops) (a : al) : Mv K o (lC K1 o1 (ae (ops.map al.av ++ [a.av]))) (.os K1.next ((ops.map al.av).length + 1) 13) (ops ++ [a]) := by
 have h := Mv.app (o := o1) (ops := ops) M.fin a
 refine ⟨h.fin, Nat.le_trans M.nx h.nx, fun j hj ho => ?_, h.res, .inr ⟨_, _, _, rfl, M.nx⟩⟩
 rw [h.aH j (Nat.lt_of_lt_of_le hj M.nx) fun n e e1 => ?_, M.aH j hj ho]
 rcases M.fresh with e2 | ⟨id, n2, e2, h1, h2⟩
 ·exact ho n e (e2 ▸ e1)
 ·rw [h1] at e1; cases e1; omega
theorem AY (l : List al) (r : Int) : eB l r ≤ l.length := List.countP_le_length
/- programs made shorter: how many operations have a register; operations left out -/
theorem DV : aa Tryz.prog 107 = true := by kernel_rfl
theorem fO : ie Tryz.prog 49 = some 13 := by kernel_rfl
theorem eh : lk Tryz.prog 49 = some (false, 1) := by kernel_rfl
theorem mF : Tryz.prog.underlying 49 = some (TypeDesc.slice 66) := Tryz.underlying49
theorem Hp.dS {H : Hp} {id i : Nat} {cs : List Hc} (h : i ≠ id) : (H.set id cs).obj i = H.obj i := by
 show (if i = id then _ else H.obj i) = _
 rw [if_neg h]
theorem FZ.get {S : Nat → Prop} {H0 K : Hp} {A i : Nat} {os : List (AV × AV)} {all : List aR} {p : aR} {o : AV × AV} (I : FZ S H0 K A os all) (hp : all[i]? = some p) (ho : os[i]? = some o) : (fW all os)[i]? = some (fe p o) := lH hp ho
def Dd (S : Nat → Prop) (H0 K : Hp) (A : Nat) (os : List (AV × AV)) (all : List aR) (i : Nat) (q : aR) : AV → Hp → Prop := fun r K' => r = .tup [] ∧ K.next ≤ K'.next ∧ ∃ o', FZ S H0 K' A (os.set i o') (all.set i q)
theorem Mv.nk {K K1 : Hp} {o1 : AV} {ops : List al} (M : Mv K .nsl K1 o1 ops) {j : Nat} (hj : j < K.next) : K1.obj j = K.obj j := M.aH j hj fun _ _ e => by cases e
theorem Mv.IW {K K1 : Hp} {o1 : AV} {ops : List al} (M : Mv K .nsl K1 o1 ops) {id : Nat} (h : bh o1 = some id) : K.next ≤ id := by
 obtain ⟨n, e, h2⟩ := qg h
 rcases M.fresh with e2 | ⟨id2, n2, e2, h1, h3⟩
 ·rw [e2] at h; cases h
 ·rw [h1] at h2; cases h2; exact h3
theorem FZ.drop {S : Nat → Prop} {H0 K K1 : Hp} {A i : Nat} {os : List (AV × AV)} {all : List aR} {p : aR} {o : AV × AV} {o1 : AV} (I : FZ S H0 K A os all) (hp : all[i]? = some p) (ho : os[i]? = some o) {at_ : List Int} (M : Mv K .nsl K1 o1 (et at_ 0 p.ops)) :
  Dd S H0 K A os all i (p.drop at_) (.tup []) (K1.set A (ae ((fW all os).set i (fe (p.drop at_) (o1, o.2))))) := by
 have hA := I.alt
 have hn := M.nx
 have hi := (List.getElem?_eq_some_iff.1 hp).1
 have hlow : ∀ j, j < K.next → j ≠ A → (K1.set A (ae ((fW all os).set i (fe (p.drop at_) (o1, o.2))))).obj j = K.obj j := fun j hj hne => by rw [Hp.dS hne]; exact M.nk hj
 refine ⟨rfl, hn, (o1, o.2), I.put hp ho (jE M.fin (Nat.lt_of_lt_of_le hA hn) _) hn (fun j hj hne _ _ => hlow j hj hne) (by rw [Hp.dG, sZ]) ?_ ?_ (.inr fun id h => M.IW h) (.inl rfl) fun id h1 h2 => ?_⟩
 ·exact c6 (.inr M.res) fun id h => Hp.dS (by have := M.IW h; omega)
 ·exact c6 (I.ops _ _ _ ho hp).2 fun id h => hlow id (I.sA ho (.inr h)) (I.ids _ _ _ ho (.inr h)).2
 ·have := M.IW h1; have := I.sA ho (.inr h2); omega
theorem rj {l : List al} {j : Nat} (hj : j < l.length) : (l.map al.av)[((j : Nat) : Int).toNat]? = some (.agg l[j].cells) := by
 rw [Int.toNat_natCast, List.getElem?_map, List.getElem?_eq_getElem hj]; rfl
theorem vT {H : Hp} {o : AV} {e : Nat} {xs : List AV} (h : dC H o e xs) : o.flat = true := by
 rcases h with ⟨rfl, _⟩ | ⟨id, rfl, _⟩ <;> rfl
theorem qZ {H : Hp} {o : AV} {e : Nat} {xs : List AV} (h : isRow H o e xs) : o.flat = true := by
 rcases h with ⟨rfl, _⟩ | ⟨rfl, _⟩ | ⟨id, rfl, _⟩ <;> rfl
theorem nz {H : Hp} {o : AV} {e : Nat} {xs : List AV} (h : isRow H o e xs) {i : Nat} (hi : i < xs.length) : bh o = some (pz o) := by
 rcases h with ⟨_, rfl⟩ | ⟨_, rfl⟩ | ⟨id, rfl, h2⟩
 ·exact absurd hi (Nat.not_lt_zero _)
 ·exact absurd hi (Nat.not_lt_zero _)
 ·rfl
theorem qk {H : Hp} {o : AV} {e : Nat} {xs : List AV} (h : dC H o e xs) {i : Nat} (hi : i < xs.length) : bh o = some (pz o) := by
 rcases h with ⟨_, rfl⟩ | ⟨id, rfl, h2⟩
 ·exact absurd hi (Nat.not_lt_zero _)
 ·rfl
theorem Gc {a : Nat} (h : a < 9000000000000000000) : pk .add (.int .i64 (a : Int)) (.int .i64 1) = some (.int .i64 ((a + 1 : Nat) : Int)) := jZ (by omega) (by omega)
theorem AX {l : List al} {r : Int} {j : Nat} (h : l.length ≤ 1000000) : eB (l.take j) r < 9000000000000000000 := by have := AY (l.take j) r; rw [List.length_take] at this; omega
theorem rb {S : Nat → Prop} {H0 K : Hp} {A i : Nat} {os : List (AV × AV)} {all : List aR} {p : aR} {o : AV × AV} (I : FZ S H0 K A os all) (hp : all[i]? = some p) (ho : os[i]? = some o) (hl : p.ops.length ≤ 1000000) (hr : ∀ x ∈ p.ops, x.regs.length ≤ 1000000) (r : Int) : dW Tryz.prog 88 [.op A (i * 7), .int .i64 r] K (.int .i64 (eB p.ops r : Int)) K := by
 refine dW.aN Tryz.func88 rfl rfl (aF rfl) (aC.seq (aC.region (aB.run II 1 rfl (aB.nil (aC.seq (aC.region (aB.run II 1 rfl (aB.nil (aC.seq (aC.seq (aC.region (aB.run II 3 rfl (aB.c1 rfl (c9 (aF rfl) eh rfl rfl I.row (dF _ _) rfl (I.get hp ho) rfl) (aB.c1 rfl (fU (aF rfl) mF rfl (I.ops _ _ _ ho hp).1) (aB.run II 1 rfl (aB.nil (aC.blk (aC.aJ (Kept.aH [.s 13, .s 5, .h, .s 1, .s 11, .s 12] rfl (by decide) (Kept.now ?_))))))))))))))))))))
 refine aC.aW (fun ((j, c) : Nat × Nat) => [(.s 13, .sv (.v (.int .i64 (j : Int)))), (.s 5, .sv (.v (.int .i64 (c : Int))))]) _ (fun ((j, c) : Nat × Nat) => c = eB (p.ops.take j) r) (fun ((j, c) : Nat × Nat) => p.ops.length - j) (0, 0) rfl rfl ?_
 rintro ⟨j, c⟩ hI
 refine aC.seq (aC.region (aB.run II 1 rfl (aB.nil (aC.seq (aC.cond rfl (fun hc1 => ?_) (fun hc1 => ?_))))))
 ·have hj := ch hc1
  refine aC.skip (aC.seq (aC.blk (aC.seq (aC.region (aB.c1 rfl (eK (aF rfl) fO rfl (I.ops _ _ _ ho hp).1 rfl (Int.natCast_nonneg _) (by rw [List.length_map]; omega)) ?_)))))
  refine aB.c1 rfl (ed (aF rfl) dd rfl rfl (dU (I.ops _ _ _ ho hp).1 (by rw [List.length_map]; exact hj)) (eA _) rfl (rj hj)) ?_
  refine aB.run II 2 rfl (aB.nil (aC.seq (aC.region (aB.run II 2 rfl (aB.c1 rfl (aG (aF rfl) DV rfl (HA _ (hr _ (List.getElem_mem hj)) _)) (aB.nil (aC.cond rfl (fun hc2 => ?_) (fun hc2 => ?_))))))))
  ·refine aC.region (aB.run II 1 rfl (aB.c1 rfl (bI (aF rfl) rfl rfl (Gc (a := c) (by rw [hI]; exact AX hl))) ?_))
   exact aB.run II 1 rfl (aB.nil (aC.region (aB.run II 2 rfl (aB.kept (Kept.aX 13 rfl (inc (by omega)) (Kept.aH [.s 13, .s 5, .h, .s 1, .s 11, .s 12] rfl (by decide) (Kept.now ⟨(j + 1, c + 1), by dsimp only; omega, by dsimp only; rw [ot r hj, if_pos hc2, hI], rfl⟩)))))))
  ·exact aC.skip (aC.region (aB.run II 2 rfl (aB.kept (Kept.aX 13 rfl (inc (by omega)) (Kept.aH [.s 13, .s 5, .h, .s 1, .s 11, .s 12] rfl (by decide) (Kept.now ⟨(j + 1, c), by dsimp only; omega, by dsimp only; rw [ot r hj, if_neg (by rw [hc2]; simp), Nat.add_zero, hI], rfl⟩))))))
 ·have hj := ck hc1
  exact aC.exit (aC.seq (aC.region (aB.run II 2 rfl (aB.nil (aC.ret ⟨.inr rfl, (aE.r1 rfl (.tmp rfl .nil)).cast (congrArg (AV.int .i64) (by rw [hI, List.take_of_length_le (by omega)])), rfl⟩)))))
theorem oT {S : Nat → Prop} {H0 K : Hp} {A i : Nat} {os : List (AV × AV)} {all : List aR} {p : aR} {o : AV × AV} (I : FZ S H0 K A os all) (hp : all[i]? = some p) (ho : os[i]? = some o) (hl : p.ops.length ≤ 1000000) (at_ : List Int) (hat : at_.length ≤ 9000000000000000000) : fw Tryz.prog 62 [.op A (i * 7), .sl (at_.map dL)] K (Dd S H0 K A os all i (p.drop at_)) := by
 refine fw.aN Tryz.func62 rfl rfl (aF rfl) (aC.seq (aC.region (aB.c1 rfl (Cm (aF rfl)) (aB.nil (aC.seq (aC.seq (aC.region (aB.run II 3 rfl (aB.c1 rfl (c9 (aF rfl) eh rfl rfl I.row (dF _ _) rfl (I.get hp ho) rfl) (aB.c1 rfl (fU (aF rfl) mF rfl (I.ops _ _ _ ho hp).1) (aB.run II 1 rfl (aB.nil (aC.blk (aC.aJ (Kept.aH [.s 12, .s 4, .h, .s 0, .s 1, .s 10, .s 11] rfl (by decide) (Kept.now (aC.aW (fun ((j, o1, K1) : Nat × AV × Hp) => [(.s 12, .sv (.v (.int .i64 (j : Int)))), (.s 4, .sv (.v o1)), (.h, .hp K1)]) _ (fun ((j, o1, K1) : Nat × AV × Hp) => Mv K .nsl K1 o1 (et at_ 0 (p.ops.take j))) (fun ((j, o1, K1) : Nat × AV × Hp) => p.ops.length - j) (0, .nsl, K) rfl (Mv.same I.fin (.inl ⟨rfl, rfl⟩)) ?_)))))))))))))))))
 rintro ⟨j, o1, K1⟩ hI
 refine aC.seq (aC.region (aB.run II 1 rfl (aB.nil (aC.seq (aC.cond rfl (fun hc1 => ?_) (fun hc1 => ?_))))))
 ·have hj := ch hc1
  refine aC.skip (aC.seq (aC.blk (aC.seq (aC.region (aB.run II 1 rfl (aB.c1 rfl (eK (aF rfl) fO rfl (I.ops _ _ _ ho hp).1 rfl (Int.natCast_nonneg _) (by rw [List.length_map]; omega)) ?_))))))
  refine aB.c1 rfl (ed (aF rfl) dd rfl rfl (by rw [hI.nk (rY I.fin (I.ops _ _ _ ho hp).1 ((nz (I.ops _ _ _ ho hp).1 (by rw [List.length_map]; exact hj))))]; exact dU (I.ops _ _ _ ho hp).1 (by rw [List.length_map]; exact hj)) (eA _) rfl (rj hj)) ?_
  refine aB.run II 3 rfl (aB.nil (aC.seq (aC.region (aB.run II 2 rfl (aB.c1 rfl (aG (aF rfl) sF rfl (iB at_ hat _)) (aB.run II 1 rfl (aB.nil (aC.cond rfl (fun hc2 => ?_) (fun hc2 => ?_)))))))))
  ·refine aC.region (aB.run II 3 rfl (aB.c3 rfl (jm (aF rfl) fm eU rfl rfl hI.res (eA _) rfl rfl (List.cons_ne_nil _ _) rfl (by have := (cc at_ (p.ops.take j) 0).length_le; rw [List.length_take] at this; simp only [List.length_map, List.length_cons, List.length_nil]; omega) (by have := (cc at_ (p.ops.take j) 0).length_le; rw [List.length_take] at this; simp only [List.length_map, List.length_cons, List.length_nil]; omega)) ?_))
   exact aB.run II 1 rfl (aB.nil (aC.region (aB.run II 2 rfl (aB.kept (Kept.aX 12 rfl (inc (by omega)) (Kept.aH [.s 12, .s 4, .h, .s 0, .s 1, .s 10, .s 11] rfl (by decide) (Kept.now ⟨(j + 1, _, _), by dsimp only; omega, by dsimp only; rw [pS hj, if_neg (by simpa using hc2)]; exact hI.then _, rfl⟩)))))))
  ·exact aC.skip (aC.region (aB.run II 2 rfl (aB.kept (Kept.aX 12 rfl (inc (by omega)) (Kept.aH [.s 12, .s 4, .h, .s 0, .s 1, .s 10, .s 11] rfl (by decide) (Kept.now ⟨(j + 1, o1, K1), by dsimp only; omega, by dsimp only; rw [pS hj, if_pos (by simpa using hc2), List.append_nil]; exact hI, rfl⟩))))))
 ·have hj := ck hc1
  refine aC.exit (aC.region (aB.run II 4 rfl (aB.c1 rfl (uu eh rfl rfl (by rw [hI.nk I.alt]; exact I.row) rfl (vT hI.res) (dF _ _) rfl (I.get hp ho) (aF rfl)) ?_)))
  exact aB.nil ⟨.inl rfl, _, _, (I.drop hp ho (by have h := hI; dsimp only at h; rwa [List.take_of_length_le (by omega)] at h)), aE.r0 rfl, rfl⟩
/- programs made shorter: boxes, two ranges made one, what is idle -/
theorem DW : aa Tryz.prog 106 = true := by kernel_rfl
theorem uZ : Tryz.prog.underlying 48 = some (TypeDesc.slice 89) := Tryz.underlying48
theorem zc {l : List Port} {j : Nat} (hj : j < l.length) : (l.map Port.av)[((j : Nat) : Int).toNat]? = some (.agg l[j].cells) := by
 rw [Int.toNat_natCast, List.getElem?_map, List.getElem?_eq_getElem hj]; rfl
theorem Hh {p : aR} (h : (((p.ops.map al.av).length : Int) == 0) = false) : p8 p = false := by
 unfold p8
 cases e : p.ops with
 | nil => rw [e] at h; simp at h
 | cons x l => rfl
theorem Hg {p : aR} (h : (((p.outs.map Port.av).length : Int) == 1) = false) : p8 p = false := by
 unfold p8
 cases e1 : p.ops with
 | cons x l => rfl
 | nil => cases e : p.outs with
  | nil => rfl
  | cons x l => cases l with
   | nil => rw [e] at h; simp at h
   | cons y l => rfl
theorem Hf {p : aR} (h0 : (((p.ops.map al.av).length : Int) == 0) = true) (h1 : (((p.outs.map Port.av).length : Int) == 1) = true) (hi : p.ins ≠ []) : p8 p = ((p.outs.headD gU).reg == (p.ins.headD gU).reg) := by
 unfold p8
 cases e1 : p.ops with
 | cons x l => rw [e1] at h0; simp at h0; omega
 | nil => cases e : p.outs with
  | nil => rw [e] at h1; simp at h1
  | cons x l => cases l with
   | cons y l => rw [e] at h1; simp at h1; omega
   | nil => cases e2 : p.ins with
    | nil => exact absurd e2 hi
    | cons z l => rfl
theorem wk {l : List Port} (h : l ≠ []) : (l.map Port.av)[((0 : Int)).toNat]? = some (.agg (l.headD gU).cells) := by
 cases l with
 | nil => exact absurd rfl h
 | cons x l => rfl
theorem uy {p : aR} (h1 : (((p.outs.map Port.av).length : Int) == 1) = true) : p.outs ≠ [] := by
 intro e; rw [e] at h1; simp at h1
theorem Ey (o : AV) (l : List Port) (H : Hp) (hO : isRow H o 9 (l.map Port.av)) (hl : l.length ≤ 1000000) (F : FuncId) (caps : List AV) (p : Port → Bool) (hF : aa Tryz.prog F = true) (hp : ∀ x ∈ l, dW Tryz.prog F ([x.av] ++ caps) H (.bool (p x)) H) : dW Tryz.prog 106 [o, .fn F caps] H (.int .i64 (bU p l 0)) H := by
 refine dW.aN Tryz.func106 rfl rfl (aF rfl) (aC.seq (aC.region (aB.run II 1 rfl (aB.nil (aC.seq (aC.seq (aC.region (aB.run II 1 rfl (aB.c1 rfl (fU (aF rfl) uZ rfl hO) (aB.run II 1 rfl (aB.nil (aC.blk (aC.aJ (Kept.aH [.s 8, .h, .s 0, .s 1, .s 7] rfl (by decide) (Kept.now (aC.aW (fun (i : Nat) => [(.s 8, .sv (.v (.int .i64 (i : Int))))]) _ (fun (i : Nat) => bU p (l.drop i) i = bU p l 0) (fun (i : Nat) => l.length - i) 0 rfl rfl ?_))))))))))))))))
 rintro i hI
 refine aC.seq (aC.region (aB.run II 1 rfl (aB.nil (aC.seq (aC.cond rfl (fun hc1 => ?_) (fun hc1 => ?_))))))
 ·have hi := ch hc1
  refine aC.skip (aC.seq (aC.blk (aC.seq (aC.region (aB.run II 2 rfl (aB.nil (aC.seq (aC.region (aB.run II 3 rfl (aB.c1 rfl (eK (aF rfl) cy rfl hO rfl (Int.natCast_nonneg _) (by rw [List.length_map]; omega)) ?_))))))))))
  refine aB.c1 rfl (ed (aF rfl) A0 rfl rfl (dU hO (by rw [List.length_map]; exact hi)) (jJ _) rfl (zc hi)) ?_
  refine aB.c2 rfl (xz (aF rfl) hF rfl rfl rfl (hp _ (List.getElem_mem hi))) (aB.nil (aC.cond rfl (fun hc2 => ?_) (fun hc2 => ?_)))
  ·exact aC.seq (aC.region (aB.run II 2 rfl (aB.nil (aC.ret ⟨.inr rfl, (aE.r1 rfl (.tmp rfl .nil)).cast (congrArg (AV.int .i64) (by rw [← hI, cj hi, if_pos hc2])), rfl⟩))))
  ·exact aC.skip (aC.region (aB.run II 2 rfl (aB.kept (Kept.aX 8 rfl (inc (by omega)) (Kept.aH [.s 8, .h, .s 0, .s 1, .s 7] rfl (by decide) (Kept.now ⟨i + 1, by omega, by rw [← hI, cj hi, hc2]; rfl, rfl⟩))))))
 ·have hi := ck hc1
  exact aC.exit (aC.seq (aC.region (aB.run II 1 rfl (aB.nil (aC.ret ⟨.inr rfl, (aE.r1 rfl (.tmp rfl .nil)).cast (congrArg (AV.int .i64) (by rw [← hI, eN hi])), rfl⟩)))))
theorem tK (o : AV) (l : List Port) (H : Hp) (hO : isRow H o 9 (l.map Port.av)) (hl : l.length ≤ 1000000) (F : FuncId) (caps : List AV) (p : Port → Bool) (hF : aa Tryz.prog F = true) (hp : ∀ x ∈ l, dW Tryz.prog F ([x.av] ++ caps) H (.bool (p x)) H) : dW Tryz.prog 86 [o, .fn F caps] H (.bool (l.any p)) H := by
 exact dW.aN Tryz.func86 rfl rfl (aF rfl) (aC.seq (aC.region (aB.run II 1 rfl (aB.nil (aC.seq (aC.region (aB.run II 2 rfl (aB.c1 rfl (ff (aF rfl) DW rfl rfl (Ey o l H hO hl F caps p hF hp)) (aB.run II 2 rfl (aB.nil (aC.ret ⟨.inr rfl, (aE.r1 rfl (.tmp rfl .nil)).cast (congrArg AV.bool ku), rfl⟩)))))))))))
theorem HB (p : aR) (o : AV × AV) (K : Hp) (h1 : isRow K o.1 13 (p.ops.map al.av)) (h2 : isRow K o.2 9 (p.outs.map Port.av)) (hin : p.ins ≠ []) : dW Tryz.prog 93 [fe p o] K (.bool (p8 p)) K := by
 refine dW.aN Tryz.func93 rfl rfl (aF rfl) (aC.seq (aC.region (aB.run II 2 rfl (aB.nil (aC.seq (aC.drawn mixed rfl (aD.run II 2 rfl (aD.c1 rfl (fU (aF rfl) mF rfl h1) (aD.run II 2 rfl (aD.tell (d := 7) rfl (fun hg1 => ?_) (fun hg1 => ?_)))))))))))
 ·refine aD.run II 2 rfl (aD.g1 rfl (aF rfl) rfl rfl (fU (aF rfl) uZ rfl h2) (aD.run II 3 rfl (aD.tell (d := 13) rfl (fun hg2 => ?_) (fun hg2 => ?_))))
  ·refine aD.run II 2 rfl (aD.g1 rfl (aF rfl) rfl rfl (eK (aF rfl) cy rfl h2 rfl (by decide) (by have := uy hg2; cases e : p.outs with | nil => exact absurd e this | cons x l => simp only [List.map_cons, List.length_cons]; omega)) ?_)
   refine aD.run II 1 rfl (aD.g1 rfl (aF rfl) rfl rfl (c9 (aF rfl) de rfl rfl (dU (i := 0) h2 (by rw [List.length_map]; exact List.length_pos_iff.2 (uy hg2))) (jJ _) rfl (wk (uy hg2)) rfl) ?_)
   exact aD.run II 2 rfl (aD.g1 rfl (aF rfl) rfl rfl (aI (aF rfl) cy rfl rfl (by decide) (wk hin) rfl) (aD.run II 5 rfl (aD.nil (by kernel_rfl) (Kept.now (aC.ret ⟨.inr rfl, (aE.r1 rfl (.tmp rfl .nil)).cast (congrArg AV.bool (Hf hg1 hg2 hin).symm), rfl⟩)))))
  ·exact aD.run II 13 rfl (aD.nil (by kernel_rfl) (Kept.now (aC.ret ⟨.inr rfl, (aE.r1 rfl (.tmp rfl .nil)).cast (congrArg AV.bool (Hg hg2).symm), rfl⟩)))
 ·exact aD.run II 19 rfl (aD.nil (by kernel_rfl) (Kept.now (aC.ret ⟨.inr rfl, (aE.r1 rfl (.tmp rfl .nil)).cast (congrArg AV.bool (Hh hg1).symm), rfl⟩)))
/- programs made shorter: two ranges made one; what is idle -/
theorem pK : aa Tryz.prog 62 = true := by kernel_rfl
theorem v8 : aa Tryz.prog 84 = true := by kernel_rfl
theorem An : aa Tryz.prog 85 = true := by kernel_rfl
theorem Fk : aa Tryz.prog 86 = true := by kernel_rfl
theorem sG : aa Tryz.prog 88 = true := by kernel_rfl
theorem F4 : lk Tryz.prog 62 = some (false, 1) := by kernel_rfl
theorem qG {all : List aR} {os : List (AV × AV)} {i : Nat} {p q : aR} {o : AV × AV} (hp : all[i]? = some p) (ho : os[i]? = some o) (h : ∀ o, fe q o = fe p o) : fW (all.set i q) os = fW all os := by
 have h1 := sZ (all := all) (os := os) (i := i) (p := q) (o := o)
 have h2 := (List.getElem?_eq_some_iff.1 ho)
 rw [show os.set i o = os from by obtain ⟨h3, h4⟩ := h2; rw [← h4]; exact List.set_getElem_self h3] at h1
 rw [← h1, h]
 have h5 := List.getElem?_eq_some_iff.1 (lH hp ho)
 obtain ⟨h3, h4⟩ := h5
 rw [← h4]; exact List.set_getElem_self h3
theorem fa {α : Type} {l : List α} {i : Nat} {x : α} (h : l[i]? = some x) : l.set i x = l := by
 obtain ⟨h3, h4⟩ := List.getElem?_eq_some_iff.1 h
 rw [← h4]; exact List.set_getElem_self h3
theorem qj {K : Hp} {o : AV} {e : Nat} {xs ys : List AV} (h : dC K o e xs) (hl : ys.length = xs.length) (h0 : 0 < xs.length) : dC (K.set (pz o) (ae ys)) o e ys := by
 rcases h with ⟨_, rfl⟩ | ⟨id, rfl, h2⟩
 ·exact absurd h0 (Nat.lt_irrefl _)
 ·exact .inr ⟨id, by rw [hl], Hp.dG⟩
theorem su {K : Hp} {o : AV} {e : Nat} {xs ys : List AV} (h : isRow K o e xs) (hl : ys.length = xs.length) (h0 : 0 < xs.length) : isRow (K.set (pz o) (ae ys)) o e ys := by
 rcases h with ⟨_, rfl⟩ | h
 ·exact absurd h0 (Nat.lt_irrefl _)
 ·exact .inr (qj h hl h0)
theorem FZ.zL {S : Nat → Prop} {H0 K : Hp} {A i : Nat} {os : List (AV × AV)} {all : List aR} {p : aR} {o : AV × AV} (I : FZ S H0 K A os all) (hp : all[i]? = some p) (ho : os[i]? = some o) {l : List al} (hl : l.length = p.ops.length) (h0 : 0 < p.ops.length) : FZ S H0 (K.set (pz o.1) (ae (l.map al.av))) A os (all.set i { p with ops := l }) := by
 have h1 := (I.ops _ _ _ ho hp)
 have hid := nz h1.1 (i := 0) (by simpa using h0)
 have hlt := I.sA ho (.inl hid)
 have hne := (I.ids _ _ _ ho (.inl hid)).2
 have := I.put (q := { p with ops := l }) (o' := o) (K' := K.set (pz o.1) (ae (l.map al.av))) hp ho (jE I.fin hlt _) (Nat.le_refl _) (fun j _ _ h _ => Hp.dS fun e => h (by rw [e]; exact hid)) (by rw [Hp.dS hne.symm, fa ho, qG (q := { p with ops := l }) hp ho fun _ => rfl]; exact I.row)
  (su h1.1 (by simp [hl]) (by simpa using h0)) (c6 h1.2 fun id h => Hp.dS fun e => I.own _ _ _ ho hid (e ▸ h)) (.inl rfl) (.inl rfl) (I.own _ _ · ho)
 rwa [fa ho] at this
theorem FZ.Bz {S : Nat → Prop} {H0 K : Hp} {A i : Nat} {os : List (AV × AV)} {all : List aR} {p : aR} {o : AV × AV} (I : FZ S H0 K A os all) (hp : all[i]? = some p) (ho : os[i]? = some o) {l : List Port} (hl : l.length = p.outs.length) (h0 : 0 < p.outs.length) : FZ S H0 (K.set (pz o.2) (ae (l.map Port.av))) A os (all.set i { p with outs := l }) := by
 have h1 := (I.ops _ _ _ ho hp)
 have hid := nz h1.2 (i := 0) (by simpa using h0)
 have hlt := I.sA ho (.inr hid)
 have hne := (I.ids _ _ _ ho (.inr hid)).2
 have := I.put (q := { p with outs := l }) (o' := o) (K' := K.set (pz o.2) (ae (l.map Port.av))) hp ho (jE I.fin hlt _) (Nat.le_refl _) (fun j _ _ _ h => Hp.dS fun e => h (by rw [e]; exact hid)) (by rw [Hp.dS hne.symm, fa ho, qG (q := { p with outs := l }) hp ho fun _ => rfl]; exact I.row)
  (c6 h1.1 fun id h => Hp.dS fun e => I.own _ _ _ ho h (e ▸ hid)) (su h1.2 (by simp [hl]) (by simpa using h0)) (.inl rfl) (.inl rfl) (I.own _ _ · ho)
 rwa [fa ho] at this
theorem ky {p : aR} {x : al} (h : x.kind = 1) : kb p x = (BN x.own (ct x.src) && BN x.own (ct x.dst)) := by unfold kb; rw [if_pos h]
theorem kx {p : aR} {x : al} (h : x.kind = 7) : kb p x = (((x.dv.n : Int) == 0) && x.dv.s == [] && !(p.outs.any fun y => y.reg == x.a) && ((eB p.ops x.a : Int) == 1)) := by
 unfold kb
 rw [if_neg (by omega), if_pos h]
 congr 1
 ·congr 1; congr 1
  rw [Bool.eq_iff_iff]; simp
 ·rw [Bool.eq_iff_iff]; simp; omega
theorem kz {p : aR} {x : al} (h : ¬ x.kind = 1) (h2 : ¬ x.kind = 7) : kb p x = false := by unfold kb; rw [if_neg h, if_neg h2]
theorem oW {l : List al} {j : Nat} {x : al} (h : l[j]? = some x) : (l.map al.av)[((j : Nat) : Int).toNat]? = some (.agg x.cells) := by
 rw [Int.toNat_natCast, List.getElem?_map, h]; rfl
theorem bP {α : Type} {l : List α} {j : Nat} {x : α} (h : l[j]? = some x) : j < l.length := (List.getElem?_eq_some_iff.1 h).1
theorem G6 {S : Nat → Prop} {H0 K : Hp} {A i : Nat} {os : List (AV × AV)} {all : List aR} {p : aR} {o : AV × AV} (I : FZ S H0 K A os all) (hp : all[i]? = some p) (ho : os[i]? = some o) (hl : p.ops.length ≤ 1000000) {j k : Nat} {x y : al} (hx : p.ops[j]? = some x) (hy : p.ops[k]? = some y) : fw Tryz.prog 90 [.op A (i * 7), .int .i64 (j : Int), .int .i64 (k : Int)] K (Dd S H0 K A os all i (aR.drop [(k : Int)] { p with ops := p.ops.set j (nA x y) })) := by
 refine fw.aN Tryz.func90 rfl rfl (aF rfl) (aC.seq (aC.drawn mixed rfl (aD.run II 3 rfl (aD.c1 rfl (c9 (aF rfl) eh rfl rfl I.row (dF _ _) rfl (I.get hp ho) rfl) (aD.run II 1 rfl (aD.c1 rfl (eK (aF rfl) fO rfl (I.ops _ _ _ ho hp).1 rfl (Int.natCast_nonneg _) (by rw [List.length_map]; have := bP hx; omega)) ?_))))))
 refine aD.c1 rfl (ed (aF rfl) dd rfl rfl (dU (I.ops _ _ _ ho hp).1 (by rw [List.length_map]; exact bP hx)) (eA _) rfl (oW hx)) ?_
 refine aD.run II 3 rfl (aD.c1 rfl (c9 (aF rfl) eh rfl rfl I.row (dF _ _) rfl (I.get hp ho) rfl) (aD.run II 1 rfl (aD.c1 rfl (eK (aF rfl) fO rfl (I.ops _ _ _ ho hp).1 rfl (Int.natCast_nonneg _) (by rw [List.length_map]; have := bP hy; omega)) ?_)))
 refine aD.c1 rfl (ed (aF rfl) dd rfl rfl (dU (I.ops _ _ _ ho hp).1 (by rw [List.length_map]; exact bP hy)) (eA _) rfl (oW hy)) ?_
 refine aD.run II 4 rfl (aD.nil (by kernel_rfl) (Kept.now (aC.seq (aC.region (aB.run II 1 rfl (aB.c1 rfl (aG (aF rfl) v8 rfl (ra _)) (aB.run II 10 rfl (aB.nil (aC.seq (aC.region (aB.run II 1 rfl (aB.c1 rfl (aG (aF rfl) v8 rfl (ra _)) (aB.run II 10 rfl (aB.nil (aC.seq (aC.region (aB.run II 2 rfl ?_)))))))))))))))))
 refine aB.c1 rfl (aG (aF rfl) xD rfl (wW _ _)) (aB.run II 2 rfl (aB.nil (aC.seq (aC.drawn mixed rfl (aD.run II 12 rfl (aD.nil (by kernel_rfl) (Kept.now (aC.seq (aC.drawn mixed rfl (aD.run II 3 rfl (aD.c1 rfl (c9 (aF rfl) eh rfl rfl I.row (dF _ _) rfl (I.get hp ho) rfl) (aD.run II 2 rfl (aD.c1 rfl (eK (aF rfl) fO rfl (I.ops _ _ _ ho hp).1 rfl (Int.natCast_nonneg _) (by rw [List.length_map]; have := bP hx; omega)) ?_)))))))))))))
 refine aD.c1 rfl (kq dd rfl rfl (dU (I.ops _ _ _ ho hp).1 (by rw [List.length_map]; exact bP hx)) rfl (eA _) rfl (by rw [Int.toNat_natCast, List.length_map]; exact bP hx) rfl) ?_
 refine aD.nil (by kernel_rfl) (Kept.k6 rfl (show _ = K.set (pz o.1) (ae ((p.ops.set j (nA x y)).map al.av)) from by rw [Int.toNat_natCast, List.map_set]; rfl) (Kept.now ?_))
 refine aC.region (aB.run II 3 rfl (aB.dh (aF rfl) pK rfl rfl (oT (FZ.zL I hp ho (l := p.ops.set j (nA x y)) (List.length_set ..) (Nat.zero_lt_of_lt (bP hx))) (List.getElem?_set_self (bP hp)) ho (by simpa using hl) [(k : Int)] (by simp)) (fun r1 K1 hP1 => ?_)))
 obtain ⟨rfl, hN, o1, hZ⟩ := hP1
 exact aB.nil (⟨.inl rfl, _, _, (⟨rfl, hN, o1, by rw [List.set_set] at hZ; exact hZ⟩), aE.r0 rfl, rfl⟩)
theorem Ez {S : Nat → Prop} {H0 K : Hp} {A i : Nat} {os : List (AV × AV)} {all : List aR} {p : aR} {o : AV × AV} (I : FZ S H0 K A os all) (hp : all[i]? = some p) (ho : os[i]? = some o) (hl : p.ops.length ≤ 1000000) (hu : p.outs.length ≤ 1000000) (hr : ∀ x ∈ p.ops, x.regs.length ≤ 1000000) (x : al) : dW Tryz.prog 61 [.op A (i * 7), x.av] K (.bool (kb p x)) K := by
 refine dW.nY Tryz.func61 rfl rfl (aF rfl) (.bool _) (aC.seq (aC.region (aB.run II 2 rfl (aB.nil (aC.seq (aC.seq (aC.region (aB.run II 2 rfl (aB.nil (aC.blk (aC.seq (aC.region (aB.run II 2 rfl (aB.nil (aC.cond rfl (fun hc1 => ?_) (fun hc1 => ?_))))))))))))))))
 ·refine aC.seq (aC.region (aB.run II 1 rfl (aB.c1 rfl (aG (aF rfl) v8 rfl (ra _)) (aB.run II 10 rfl (aB.nil (aC.seq (aC.region (aB.run II 2 rfl (aB.c1 rfl (aG (aF rfl) An rfl (zf _ _)) (aB.run II 1 rfl (aB.tell (d := 22) rfl (fun hg2 => ?_) (fun hg2 => ?_))))))))))))
  ·exact aB.run II 2 rfl (aB.g1 rfl (aF rfl) rfl rfl (aG (aF rfl) An rfl (zf _ _)) (aB.run II 2 rfl (aB.nil (aC.ret (⟨.inr rfl, (aE.r1 rfl (.tmp rfl .nil)).cast (congrArg AV.bool (by first | (rw [ky (by simpa using hc1)]; grind) | (rw [kx (by simpa using hc3)]; grind) | (exact (kz (by simpa using hc1) (by simpa using hc3)).symm))), ⟨_, rfl, by first | exact ⟨Nat.le_refl _, fun _ _ => rfl⟩ | exact ⟨Nat.le_succ _, fun j hj => Hp.cN _ _ hj⟩⟩⟩)))))
  ·exact aB.run II 5 rfl (aB.nil (aC.ret (⟨.inr rfl, (aE.r1 rfl (.tmp rfl .nil)).cast (congrArg AV.bool (by first | (rw [ky (by simpa using hc1)]; grind) | (rw [kx (by simpa using hc3)]; grind) | (exact (kz (by simpa using hc1) (by simpa using hc3)).symm))), ⟨_, rfl, by first | exact ⟨Nat.le_refl _, fun _ _ => rfl⟩ | exact ⟨Nat.le_succ _, fun j hj => Hp.cN _ _ hj⟩⟩⟩)))
 ·refine aC.seq (aC.region (aB.run II 2 rfl (aB.nil (aC.cond rfl (fun hc3 => ?_) (fun hc3 => ?_)))))
  ·refine aC.seq (aC.aJ (Kept.xn 3 rfl rfl (Kept.op 3 rfl rfl (Kept.cls 3 rfl rfl rfl rfl (Kept.now (aC.region (aB.run II 3 rfl (aB.c1 rfl (c9 (aF rfl) gY rfl rfl ((Hp.cN _ _ I.alt).trans I.row) (dF _ _) rfl (I.get hp ho) rfl) (aB.c1 rfl (uv (aF rfl) rfl) (aB.c1 rfl (ff (aF rfl) Fk rfl rfl (tK o.2 p.outs _ (c6 (I.ops _ _ _ ho hp).2 fun id h => Hp.cN _ _ (I.sA ho (.inr h))) hu _ _ (fun y => y.reg == x.a) (by kernel_rfl) fun y hy => Ca y x _ _ (Hp.cg _ _))) (aB.run II 1 rfl (aB.nil (aC.seq (aC.region (aB.run II 2 rfl (aB.c1 rfl (dI (aF rfl) F4 rfl rfl (Hp.cg _ _) rfl) (aB.run II 2 rfl ?_)))))))))))))))))
   refine aB.tell (d := 39) rfl (fun hg4 => ?_) (fun hg4 => ?_)
   ·refine aB.run II 2 rfl (aB.g1 rfl (aF rfl) rfl rfl (dI (aF rfl) tc rfl rfl (Hp.cg _ _) rfl) (aB.run II 3 rfl (aB.tell (d := 45) rfl (fun hg5 => ?_) (fun hg5 => ?_))))
    ·refine aB.run II 4 rfl (aB.tell (d := 49) rfl (fun hg6 => ?_) (fun hg6 => ?_))
     ·exact aB.run II 2 rfl (aB.g1 rfl (aF rfl) rfl rfl (dI (aF rfl) de rfl rfl (Hp.cg _ _) rfl) (aB.g1 rfl (aF rfl) rfl rfl (ff (aF rfl) sG rfl rfl (rb (I.more (eF I.fin _) (Nat.le_succ _) fun j hj => Hp.cN _ _ hj) hp ho hl hr _)) (aB.run II 3 rfl (aB.nil (aC.ret (⟨.inr rfl, (aE.r1 rfl (.tmp rfl .nil)).cast (congrArg AV.bool (by first | (rw [ky (by simpa using hc1)]; grind) | (rw [kx (by simpa using hc3)]; grind) | (exact (kz (by simpa using hc1) (by simpa using hc3)).symm))), ⟨_, rfl, by first | exact ⟨Nat.le_refl _, fun _ _ => rfl⟩ | exact ⟨Nat.le_succ _, fun j hj => Hp.cN _ _ hj⟩⟩⟩))))))
     ·exact aB.run II 7 rfl (aB.nil (aC.ret (⟨.inr rfl, (aE.r1 rfl (.tmp rfl .nil)).cast (congrArg AV.bool (by first | (rw [ky (by simpa using hc1)]; grind) | (rw [kx (by simpa using hc3)]; grind) | (exact (kz (by simpa using hc1) (by simpa using hc3)).symm))), ⟨_, rfl, by first | exact ⟨Nat.le_refl _, fun _ _ => rfl⟩ | exact ⟨Nat.le_succ _, fun j hj => Hp.cN _ _ hj⟩⟩⟩)))
    ·exact aB.run II 11 rfl (aB.nil (aC.ret (⟨.inr rfl, (aE.r1 rfl (.tmp rfl .nil)).cast (congrArg AV.bool (by first | (rw [ky (by simpa using hc1)]; grind) | (rw [kx (by simpa using hc3)]; grind) | (exact (kz (by simpa using hc1) (by simpa using hc3)).symm))), ⟨_, rfl, by first | exact ⟨Nat.le_refl _, fun _ _ => rfl⟩ | exact ⟨Nat.le_succ _, fun j hj => Hp.cN _ _ hj⟩⟩⟩)))
   ·exact aB.run II 17 rfl (aB.nil (aC.ret (⟨.inr rfl, (aE.r1 rfl (.tmp rfl .nil)).cast (congrArg AV.bool (by first | (rw [ky (by simpa using hc1)]; grind) | (rw [kx (by simpa using hc3)]; grind) | (exact (kz (by simpa using hc1) (by simpa using hc3)).symm))), ⟨_, rfl, by first | exact ⟨Nat.le_refl _, fun _ _ => rfl⟩ | exact ⟨Nat.le_succ _, fun j hj => Hp.cN _ _ hj⟩⟩⟩)))
  ·exact aC.skip (aC.seq (aC.region (aB.run II 1 rfl (aB.nil (aC.ret (⟨.inr rfl, (aE.r1 rfl (.tmp rfl .nil)).cast (congrArg AV.bool (by first | (rw [ky (by simpa using hc1)]; grind) | (rw [kx (by simpa using hc3)]; grind) | (exact (kz (by simpa using hc1) (by simpa using hc3)).symm))), ⟨_, rfl, by first | exact ⟨Nat.le_refl _, fun _ _ => rfl⟩ | exact ⟨Nat.le_succ _, fun j hj => Hp.cN _ _ hj⟩⟩⟩))))))
/- programs made shorter: a list of numbers, cloned, that may be written -/
theorem tn {H : Hp} {o : AV} {e : Nat} {xs : List AV} (h : isRow H o e xs) {i : Nat} (hi : i < xs.length) : H.obj (pz o) = some (ae xs) := by
 rcases h with ⟨_, rfl⟩ | h
 ·exact absurd hi (Nat.not_lt_zero _)
 ·exact tq h hi
section
variable {P : Program} {N : Nat} {s : St} {d : Nat} {ty : TypeId} {pos : String} {af : Array Edge} {g : Option (Nat × Bool)}
theorem Ck {t1 e : TypeId} {x : Operand} {o : AV} {xs : List AV} {H : Hp} {esz : Nat} (hN : d < N) (h1 : P.underlying t1 = some (.slice e)) (hx : cU x s = some o) (ho : isRow H o esz xs) :
  aY P N ⟨some d, .call { callee := .builtin .len, args := #[x], argTypes := #[t1] }, ty, pos, af, g⟩ s (rd x) [(.s d, .sv (.v (.int .i64 (xs.length : Int))))] := fU hN h1 hx ho
theorem zv {t1 : TypeId} {x i : Operand} {o : AV} {xs : List AV} {H : Hp} {esz : Nat} {k : IntKind} {j : Int} (hN : d < N) (ht : ie P t1 = some esz) (hx : cU x s = some o) (ho : isRow H o esz xs) (hi : cU i s = some (.int k j)) (h0 : 0 ≤ j) (h1 : j < (xs.length : Int)) :
  aY P N ⟨some d, .indexAddr t1 x i, ty, pos, af, g⟩ s (rd x ++ rd i) [(.s d, .sv (.v (.op (pz o) (j.toNat * esz))))] := eK hN ht hx ho hi h0 h1
end
def sC (K : Hp) (o : AV) : Hp := match o with | .os id _ _ => K.del id | _ => K
def JO (K : Hp) (l : List Int) : AV → Hp → Prop := fun o K' => isRow K' o 1 (l.map dL) ∧ K'.fin ∧ K.next ≤ K'.next ∧ (∀ j, j < K.next → K'.obj j = K.obj j) ∧ (∀ id, bh o = some id → K.next ≤ id) ∧ o ≠ .nsl
theorem tO (l : List Int) (hl : l.length ≤ 1000000) : Pure Tryz.prog 60 [.sl (l.map dL)] (.sl (l.map dL)) := by
 refine Pure.aN Tryz.func60 rfl rfl (aF rfl) fun H => (aC.seq (aC.region (aB.run II 1 rfl (aB.nil (aC.seq (aC.seq (aC.region (aB.run II 1 rfl (aB.pR (aF rfl) Tryz.underlying50 rfl (fun b hb => (aB.nil (aC.cond rfl (fun hc1 => ?_) (fun hc1 => ?_)))))))))))))
 ·exact aC.seq (aC.region (aB.run II 1 rfl (aB.nil (aC.ret ⟨.inr rfl, (aE.r1 rfl (.tmp rfl .nil)).cast (by rw [hb hc1]), rfl⟩))))
 ·refine aC.skip (aC.seq (aC.region (aB.c2 rfl (az («as» := []) (aF rfl) bK dm rfl rfl rfl (ft rfl) rfl) (aB.run II 1 rfl (aB.c3 rfl (aV (aF rfl) bK rfl rfl rfl (bf .i64 id _) rfl (by rw [List.length_map]; simp only [List.length_nil]; omega) (by rw [List.length_map]; simp only [List.length_nil]; omega)) ?_)))))
  exact aB.run II 1 rfl (aB.nil (aC.ret ⟨.inr rfl, (aE.r1 rfl (.tmp rfl .nil)).cast (by rfl), rfl⟩))
def rX (rows : List AV) (H : Hp) : Hp := ((H.new (ae [])).del H.next).new (ae rows)
theorem HT (l : List Int) : ∀ e ∈ l.map dL, e.cells.length = 1 := la (bf .i64 id _)
theorem xt (l : List Int) (hl : l.length ≤ 1000000) (hne : l ≠ []) (H : Hp) : dW Tryz.prog 60 [.sl (l.map dL)] H (.os (H.next + 1) l.length 1) (rX (l.map dL) H) := by
 refine dW.aN Tryz.func60 rfl rfl (aF rfl) (aC.seq (aC.region (aB.run II 1 rfl (aB.nil (aC.seq (aC.seq (aC.region (aB.run II 1 rfl (aB.pR (aF rfl) Tryz.underlying50 rfl (fun b hb => (aB.nil (aC.cond (b := b) rfl (fun hc1 => ?_) (fun hc1 => ?_)))))))))))))
 ·exact aC.seq (aC.region (aB.run II 1 rfl (aB.nil (aC.ret (absurd (List.map_eq_nil_iff.1 (hb hc1)) hne)))))
 ·refine aC.skip (aC.seq (aC.region (aB.c3 rfl (gw («as» := []) (aF rfl) bK dm rfl rfl rfl (ft rfl) rfl rfl) (aB.run II 1 rfl (aB.c3 rfl (iF (aF rfl) bK dm rfl rfl Hp.dG (fun e he => by cases he) rfl rfl (bf .i64 id _) rfl (by rw [List.length_map]; omega) (by rw [List.length_map]; omega)) ?_)))))
  exact aB.run II 1 rfl (aB.nil (aC.ret ⟨.inr rfl, (aE.r1 rfl (.tmp rfl .nil)).cast (by rw [List.length_map, Nat.zero_add]; rfl), rfl⟩))
theorem nw (rows : List AV) (H : Hp) : (rX rows H).obj (H.next + 1) = some (ae rows) := Hp.cg _ _
theorem ny (rows : List AV) (H : Hp) {j : Nat} (hj : j < H.next) : (rX rows H).obj j = H.obj j := by
 show (if j = H.next + 1 then _ else if j = H.next then none else if j = H.next then _ else H.obj j) = _
 rw [if_neg (by omega), if_neg (by omega), if_neg (by omega)]
theorem zh (l : List Int) (hl : l.length ≤ 1000000) (K : Hp) (hf : K.fin) : fw Tryz.prog 60 [.sl (l.map dL)] K (JO K l) := by
 by_cases hne : l = []
 ·subst hne
  exact (tO [] hl K).CD ⟨.inl ⟨rfl, rfl⟩, hf, Nat.le_refl _, fun _ _ => rfl, fun id h => (by cases h), (by intro h; cases h)⟩
 ·refine (xt l hl hne K).CD ⟨.inr (.inr ⟨_, by rw [List.length_map], nw _ _⟩), eF (jW (eF hf _) _) _, by show K.next ≤ K.next + 1 + 1; omega, fun j hj => ny _ _ hj, fun id h => (by cases h; omega), (by intro h; cases h)⟩
theorem Kept.sC {s : St} {Q : St → Prop} (k i : Nat) {xs : List AV} {o : AV} {cs : List Sv} {esz : Nat} {H : Hp} (hk : get s (.b k) = some (.bx cs)) (hH : get s .h = some (.hp H)) (ho : isRow H o esz xs) (hnn : o ≠ .nsl) (hes : ∀ e ∈ xs, e.cells.length = esz) (hi : cs[i]? = some (.v o)) (hd : ∀ id n, o = .os id n esz → n = xs.length → cs.map (iG id xs) = cs.set i (.v (.sl xs)))
  (h : Kept ((.b k, .bx (cs.set i (.v (.sl xs)))) :: (.h, .hp (sC H o)) :: s) Q) : Kept s Q := by
 rcases ho with ⟨rfl, rfl⟩ | ⟨rfl, rfl⟩ | ⟨id, rfl, h2⟩
 ·intro E N a w hr
  have e : cs.set i (.v (.sl [])) = cs := fa hi
  rw [e] at h
  obtain ⟨G, L, hr⟩ := hr
  refine h E N a w ⟨G, L, hr.ext fun c => ?_⟩
  show get ((.b k, .bx cs) :: (.h, .hp H) :: s) c = get s c
  simp only [get]
  split
  ·rename_i e2; subst e2; exact hk.symm
  ·split
   ·rename_i e2; subst e2; exact hH.symm
   ·rfl
 ·exact absurd rfl hnn
 ·exact Kept.Ai k id hk hH h2 hes (hd id _ rfl rfl) h
/- programs made shorter: registers renamed -/
theorem DT : aa Tryz.prog 109 = true := by kernel_rfl
theorem Av : aa Tryz.prog 60 = true := by kernel_rfl
theorem vI : lk Tryz.prog 50 = some (false, 1) := by kernel_rfl
/-! ### a list, of which the first are renamed -/
section
variable {α : Type} (f : α → α) (l : List α)
def gk (j : Nat) : List α := (l.take j).map f ++ l.drop j
theorem bX (j : Nat) : (gk f l j).length = l.length := by unfold gk; simp; omega
theorem oF {j : Nat} (h : l.length ≤ j) : gk f l j = l.map f := by unfold gk; rw [List.take_of_length_le h, List.drop_of_length_le h, List.append_nil]
theorem jk {j : Nat} (h : j < l.length) : (gk f l j)[j]? = some l[j] := by
 unfold gk
 rw [List.getElem?_append_right (by simp; omega)]
 simp only [List.length_map, List.length_take, Nat.min_eq_left (Nat.le_of_lt h), Nat.sub_self, List.getElem?_drop, Nat.add_zero]
 exact List.getElem?_eq_getElem h
theorem oE {j : Nat} (h : j < l.length) : (gk f l j).set j (f l[j]) = gk f l (j + 1) := by
 unfold gk
 rw [List.set_append_right _ _ (by simp; omega)]
 simp only [List.length_map, List.length_take, Nat.min_eq_left (Nat.le_of_lt h), Nat.sub_self]
 rw [List.drop_eq_getElem_cons h, List.set_cons_zero, kj h, List.map_append, List.append_assoc]
 rfl
end
def Hn (S : Nat → Prop) (H0 : Hp) (F : FuncId) (caps : List AV) (u v : Int) : Prop := aa Tryz.prog F = true ∧ ∀ K' : Hp, (∀ j, S j → K'.obj j = H0.obj j) → ∀ r : Int, dW Tryz.prog F ([.int .i64 r] ++ caps) K' (.int .i64 (qF u v r)) K'
theorem oA (l : List Int) : ae (l.map dL) = l.map fun x => Hc.v (.int .i64 x) := by
 unfold ae
 induction l with
 | nil => rfl
 | cons x l ih => simp only [List.map_cons, List.flatMap_cons, List.map_append, ih]; rfl
theorem wM {l : List Int} {m : Nat} {x : Int} (h : l[m]? = some x) : (ae (l.map dL))[((m : Nat) : Int).toNat * 1]? = some (.v (.int .i64 x)) := by
 rw [oA, Int.toNat_natCast, Nat.mul_one, List.getElem?_map, h]; rfl
theorem CF {l : List Int} {m : Nat} {x : Int} (h : l[m]? = some x) : vO false 1 (((ae (l.map dL)).map fun c => Sv.v (qA c)).drop (((m : Nat) : Int).toNat * 1)) = some (.v (.int .i64 x)) := by
 have h1 := wM h
 obtain ⟨h2, h3⟩ := List.getElem?_eq_some_iff.1 h1
 rw [List.drop_eq_getElem_cons (by simpa using h2)]
 rw [List.getElem_map, h3]; rfl
theorem tI {l : List Port} {j : Nat} {x : Port} (h : l[j]? = some x) : (l.map Port.av)[((j : Nat) : Int).toNat]? = some (.agg x.cells) := by
 rw [Int.toNat_natCast, List.getElem?_map, h]; rfl
theorem CE (l : List Int) (m : Nat) (x : Int) : (ae (l.map dL)).set (((m : Nat) : Int).toNat * 1) (.v (.int .i64 x)) = ae ((l.set m x).map dL) := by
 rw [oA, oA, Int.toNat_natCast, Nat.mul_one, List.map_set]
theorem A9 {K : Hp} {o : AV} {e : Nat} {xs : List AV} (h : isRow K o e xs) (h0 : 0 < xs.length) : bh o = some (pz o) := by
 rcases h with ⟨_, rfl⟩ | h
 ·exact absurd h0 (Nat.lt_irrefl _)
 ·exact qk h h0
theorem yZ {K : Hp} {o : AV} {e : Nat} {xs ys : List AV} (h : isRow K o e xs) (hl : ys.length = xs.length) (h0 : 0 < xs.length) : isRow (K.set (pz o) (ae ys)) o e ys := by
 rcases h with ⟨_, rfl⟩ | h
 ·exact absurd h0 (Nat.lt_irrefl _)
 ·exact .inr (qj h hl h0)
theorem A8 {K : Hp} (hf : K.fin) {o : AV} {e : Nat} {xs : List AV} (h : isRow K o e xs) (h0 : 0 < xs.length) : pz o < K.next := by
 rcases h with ⟨_, rfl⟩ | h
 ·exact absurd h0 (Nat.lt_irrefl _)
 ·exact tp hf h (qk h h0)
theorem yY {K : Hp} {o : AV} {e : Nat} {xs : List AV} (h : isRow K o e xs) : (Sv.v o).j5 = false := by
 rcases h with ⟨rfl, _⟩ | ⟨rfl, _⟩ | ⟨id, rfl, _⟩ <;> rfl
theorem tj {K : Hp} {o : AV} {e : Nat} {xs : List AV} (h : isRow K o e xs) : (Sv.v o).cells = [Sv.v o] := by
 rcases h with ⟨rfl, _⟩ | ⟨rfl, _⟩ | ⟨id, rfl, _⟩ <;> rfl
theorem Cd {P : Program} {N : Nat} {s : St} {ty : TypeId} {pos : String} {af : Array Edge} {g : Option (Nat × Bool)} {t1 : TypeId} {x y : Operand} {k off : Nat} {b : Bool} {cs : List Sv} {z : Sv} (hl : lk P t1 = some (b, 1)) (hx : fq x s = some (.lp k off)) (hk : get s (.b k) = some (.bx cs)) (hy : fq y s = some z) (ht : z.j5 = false)
  (hc : z.cells = [z]) (hf : off + 1 ≤ cs.length) : aY P N ⟨none, .store t1 x y, ty, pos, af, g⟩ s (rd x ++ (rd y ++ [.b k])) [(.b k, .bx (setAt cs off [z]))] := by
 have := zm (ty := ty) (pos := pos) (af := af) (g := g) (N := N) hl hx hk hy ht (by rw [hc]; rfl) hf
 rwa [hc] at this
theorem iT {P : Program} {N : Nat} {s : St} {d : Nat} {ty : TypeId} {pos : String} {af : Array Edge} {g : Option (Nat × Bool)} {x : Operand} {f : FuncId} {xs : Array Operand} {tys : Array TypeId} {«as» caps : List AV} {r : AV} {H : Hp} (hN : d < N) (hf : aa P f = true) (hx : cU x s = some (.fn f caps)) (hH : get s .h = some (.hp H)) (ha : k7 xs.toList s = some «as») (hp : dW P f («as» ++ caps) H r H) :
  aY P N ⟨some d, .call { callee := .value x, args := xs, argTypes := tys }, ty, pos, af, g⟩ s ((rd x ++ lF xs.toList) ++ [.h]) [(.s d, .sv (.v r))] :=
 qy hp rfl hN hH (qw hf hx ha)
theorem Af {K : Hp} (hf : K.fin) (o : AV) : (sC K o).fin := by cases o <;> first | exact hf | exact jW hf _
theorem qn {K : Hp} (o : AV) : (sC K o).next = K.next := by cases o <;> rfl
theorem Ae {K : Hp} {o : AV} {j : Nat} (h : bh o ≠ some j) : (sC K o).obj j = K.obj j := by
 cases o
 case os id n e =>
  show (if j = id then none else K.obj j) = _
  rw [if_neg fun e2 => h (by rw [e2]; rfl)]
 all_goals rfl
theorem Fe {id n : Nat} {x : al} {a b c : Int} {R : List Int} (hn : n = (R.map dL).length) : [Sv.v (.int .i64 x.kind), .v (.int .i64 a), .v (.int .i64 b), .v (.int .i64 c), .v (.int .i64 x.src), .v (.int .i64 x.dst), .v (.int .i64 x.lo), .v (.int .u64 (x.hi : Int)), .v (.int .i64 x.part), .v (.os id n 1), .v (.int .u64 (x.dv.n : Int)), .v (.str x.dv.s), .v (.sl (x.dv.m.map Tree.av))].map (iG id (R.map dL))
  = [Sv.v (.int .i64 x.kind), .v (.int .i64 a), .v (.int .i64 b), .v (.int .i64 c), .v (.int .i64 x.src), .v (.int .i64 x.dst), .v (.int .i64 x.lo), .v (.int .u64 (x.hi : Int)), .v (.int .i64 x.part), .v (.sl (R.map dL)), .v (.int .u64 (x.dv.n : Int)), .v (.str x.dv.s), .v (.sl (x.dv.m.map Tree.av))] := by
 subst hn
 have e : (R.map dL).take R.length = R.map dL := List.take_of_length_le (by simp)
 simp [iG, ez, e]
theorem lW {S : Nat → Prop} {H0 K : Hp} {A i : Nat} {os : List (AV × AV)} {all : List aR} {p : aR} {o : AV × AV} (I : FZ S H0 K A os all) (hp : all[i]? = some p) (ho : os[i]? = some o) (hl : p.ops.length ≤ 1000000) (hu : p.outs.length ≤ 1000000) (hr : ∀ x ∈ p.ops, x.regs.length ≤ 1000000) {F : FuncId} {caps : List AV} {u v : Int} (hC : Hn S H0 F caps u v) : fw Tryz.prog 91 [.op A (i * 7), .fn F caps] K (Dd S H0 K A os all i (p.cS u v)) := by
 refine fw.aN Tryz.func91 rfl rfl (aF rfl) (aC.seq (aC.seq (aC.region (aB.run II 3 rfl (aB.c1 rfl (c9 (aF rfl) eh rfl rfl I.row (dF _ _) rfl (I.get hp ho) rfl) (aB.c1 rfl (fU (aF rfl) mF rfl (I.ops _ _ _ ho hp).1) (aB.run II 1 rfl (aB.nil (aC.blk (aC.aJ (Kept.aH [.s 14, .h, .s 0, .s 1, .s 12, .s 13] rfl (by decide) (Kept.now (aC.aW (fun ((j, Kj) : Nat × Hp) => [(.s 14, .sv (.v (.int .i64 (j : Int)))), (.h, .hp Kj)]) _ (fun ((j, Kj) : Nat × Hp) => FZ S H0 Kj A os (all.set i { p with ops := gk (al.cS u v) p.ops j }) ∧ K.next ≤ Kj.next) (fun ((j, Kj) : Nat × Hp) => p.ops.length - j) (0, K) rfl ⟨(by show FZ S H0 K A os (all.set i p); rw [fa hp]; exact I), Nat.le_refl _⟩ ?_)))))))))))))
 rintro ⟨j, Kj⟩ hI
 refine aC.seq (aC.region (aB.run II 1 rfl (aB.nil (aC.seq (aC.cond rfl (fun hc1 => ?_) (fun hc1 => ?_))))))
 ·have hj := ch hc1
  have hrr := hr _ (List.getElem_mem hj)
  have hse : ∀ q : aR, (all.set i q)[i]? = some q := fun q => List.getElem?_set_self (bP hp)
  have hO := (hI.1.ops _ _ _ ho (hse _)).1
  have hjr : j < (gk (al.cS u v) p.ops j).length := by rw [bX]; exact hj
  refine aC.skip (aC.seq (aC.blk (aC.seq (aC.region (aB.run II 1 rfl (aB.c1 rfl (eK (aF rfl) fO rfl hO rfl (Int.natCast_nonneg _) (by rw [List.length_map, bX]; omega)) ?_))))))
  refine aB.c1 rfl (ed (aF rfl) dd rfl rfl (dU hO (by rw [List.length_map]; exact hjr)) (eA _) rfl (oW (jk _ _ hj))) ?_
  refine aB.run II 3 rfl (aB.nil (aC.seq (aC.drawn mixed rfl (aD.run II 3 rfl (aD.c1 rfl (iT (aF rfl) hC.1 rfl rfl rfl (hC.2 _ hI.1.old _)) (aD.run II 3 rfl (aD.c1 rfl (iT (aF rfl) hC.1 rfl rfl rfl (hC.2 _ hI.1.old _)) (aD.run II 3 rfl (aD.c1 rfl (iT (aF rfl) hC.1 rfl rfl rfl (hC.2 _ hI.1.old _)) (aD.run II 6 rfl (aD.nil (by kernel_rfl) (Kept.now (aC.seq (aC.region ?_))))))))))))))
  refine aB.run II 2 rfl (aB.dh (aF rfl) Av rfl rfl (zh _ (hr _ (List.getElem_mem hj)) _ hI.1.fin) (fun r1 K1 hP1 => ?_))
  obtain ⟨hW, hf1, hn1, hl1, hi1, hnn⟩ := hP1
  refine aB.run II 1 rfl (aB.c1 rfl (Cd vI rfl rfl rfl (yY hW) (tj hW) (ft rfl)) (aB.nil (aC.seq (aC.seq (aC.region (aB.run II 2 rfl (aB.c1 rfl (Ck (aF rfl) rK rfl hW) (aB.run II 1 rfl (aB.nil (aC.blk (aC.aJ (Kept.aH [.s 41, .h, .s 0, .s 1, .s 4, .s 5, .b 5, .s 12, .s 13, .s 14, .s 39, .s 40] rfl (by decide) (Kept.now (aC.aW (fun ((m, K3) : Nat × Hp) => [(.s 41, .sv (.v (.int .i64 (m : Int)))), (.h, .hp K3)]) _ (fun ((m, K3) : Nat × Hp) => isRow K3 r1 1 ((gk (qF u v) p.ops[j].regs m).map dL) ∧ K3.fin ∧ Kj.next ≤ K3.next ∧ ∀ a, a < Kj.next → K3.obj a = Kj.obj a) (fun ((m, K3) : Nat × Hp) => p.ops[j].regs.length - m) (0, K1) rfl (show isRow K1 r1 1 ((gk (qF u v) p.ops[j].regs 0).map dL) ∧ K1.fin ∧ Kj.next ≤ K1.next ∧ (∀ a, a < Kj.next → K1.obj a = Kj.obj a) from ⟨hW, hf1, hn1, hl1⟩) ?_))))))))))))))
  rintro ⟨m, K3⟩ hM
  refine aC.seq (aC.region (aB.run II 1 rfl (aB.nil (aC.seq (aC.cond rfl (fun hc2 => ?_) (fun hc2 => ?_))))))
  ·have hm := ch hc2
   refine aC.skip (aC.seq (aC.blk (aC.seq (aC.region (aB.run II 1 rfl (aB.c1 rfl (zv (aF rfl) cA rfl hM.1 rfl (Int.natCast_nonneg _) (by rw [List.length_map, bX]; omega)) ?_))))))
   refine aB.c1 rfl (dI (aF rfl) de rfl rfl (tn hM.1 (by rw [List.length_map, bX]; exact hm)) (CF (jk _ _ hm))) ?_
   refine aB.run II 2 rfl (aB.nil (aC.drawn mixed rfl (aD.run II 5 rfl (aD.c1 rfl (iT (aF rfl) hC.1 rfl rfl rfl (hC.2 _ (fun a ha => (hM.2.2.2 a (hI.1.sN a ha)).trans (hI.1.old a ha)) _)) (aD.c1 rfl (zv (aF rfl) cA rfl hM.1 rfl (Int.natCast_nonneg _) (by rw [List.length_map, bX]; omega)) ?_)))))
   refine aD.c1 rfl (oY de rfl rfl (tn hM.1 (by rw [List.length_map, bX]; exact hm)) rfl rfl (wM (jk _ _ hm))) ?_
   exact aD.nil (by kernel_rfl) (Kept.k6 rfl (show _ = K3.set (pz r1) (ae ((gk (qF u v) p.ops[j].regs (m + 1)).map dL)) from by rw [CE, oE _ _ hm]) (Kept.now (aC.region (aB.run II 2 rfl (aB.kept (Kept.aX 41 rfl (inc (by omega)) (Kept.aH [.s 41, .h, .s 0, .s 1, .s 4, .s 5, .b 5, .s 12, .s 13, .s 14, .s 39, .s 40] rfl (by decide) (Kept.now (⟨(m + 1, _), by dsimp only; omega, ⟨yZ hM.1 (by rw [List.length_map, List.length_map, bX, bX]) (by rw [List.length_map, bX]; omega), jE hM.2.1 (A8 hM.2.1 hM.1 (by rw [List.length_map, bX]; omega)) _, hM.2.2.1, fun a ha => by rw [Hp.dS (fun e => by have := hi1 _ (A9 hM.1 (by rw [List.length_map, bX]; omega)); omega)]; exact hM.2.2.2 a ha⟩, rfl⟩)))))))))
  ·have hm := ck hc2
   have hMr : isRow K3 r1 1 ((p.ops[j].regs.map (qF u v)).map dL) := by have h := hM.1; rwa [oF _ _ (by omega)] at h
   have IF : FZ S H0 (sC K3 r1) A os (all.set i { p with ops := gk (al.cS u v) p.ops j }) := hI.1.more (Af hM.2.1 _) (by rw [qn]; exact hM.2.2.1) (fun a ha => by rw [Ae (fun e => by have := hi1 _ e; omega)]; exact hM.2.2.2 a ha)
   have hO2 := (IF.ops _ _ _ ho (hse _)).1
   refine aC.exit (aC.aJ (Kept.sC 5 9 rfl rfl hMr hnn (HT _) rfl (fun id n e1 e2 => by subst e1; exact Fe e2) (Kept.now ?_)))
   refine aC.drawn mixed rfl (aD.run II 3 rfl (aD.c1 rfl (c9 (aF rfl) eh rfl rfl IF.row (dF _ _) rfl (IF.get (hse _) ho) rfl) (aD.run II 2 rfl (aD.c1 rfl (aG (aF rfl) DT rfl (Cb { p.ops[j] with a := qF u v p.ops[j].a, b := qF u v p.ops[j].b, c := qF u v p.ops[j].c, regs := p.ops[j].regs.map (qF u v) })) (aD.c1 rfl (eK (aF rfl) fO rfl hO2 rfl (Int.natCast_nonneg _) (by rw [List.length_map, bX]; omega)) ?_)))))
   refine aD.c1 rfl (kq dd rfl rfl (dU hO2 (by rw [List.length_map]; exact hjr)) rfl (eA _) rfl (by rw [Int.toNat_natCast, List.length_map]; exact hjr) rfl) ?_
   refine aD.nil (by kernel_rfl) (Kept.k6 rfl (show _ = (sC K3 r1).set (pz o.1) (ae ((gk (al.cS u v) p.ops (j + 1)).map al.av)) from by rw [← oE _ _ hj, List.map_set, Int.toNat_natCast]; rfl) (Kept.now ?_))
   exact aC.region (aB.run II 2 rfl (aB.kept (Kept.aX 14 rfl (inc (by omega)) (Kept.aH [.s 14, .h, .s 0, .s 1, .s 12, .s 13] rfl (by decide) (Kept.now (⟨(j + 1, _), by dsimp only; omega, ⟨by have h := IF.zL (hse _) ho (l := gk (al.cS u v) p.ops (j + 1)) (by dsimp only; rw [bX, bX]) (by dsimp only; rw [bX]; omega); rw [List.set_set] at h; exact h, by show K.next ≤ (sC K3 r1).next; rw [qn]; exact Nat.le_trans hI.2 hM.2.2.1⟩, rfl⟩))))))
 ·have hj := ck hc1
  have hse : ∀ q : aR, (all.set i q)[i]? = some q := fun q => List.getElem?_set_self (bP hp)
  have hU : FZ S H0 Kj A os (all.set i { p with ops := p.ops.map (al.cS u v) }) := by have h := hI.1; rwa [oF _ _ (by omega)] at h
  refine aC.exit (aC.seq (aC.region (aB.run II 3 rfl (aB.c1 rfl (c9 (aF rfl) gY rfl rfl hU.row (dF _ _) rfl (hU.get (hse _) ho) rfl) (aB.c1 rfl (fU (aF rfl) uZ rfl (hU.ops _ _ _ ho (hse _)).2) (aB.run II 1 rfl (aB.nil (aC.blk (aC.aJ (Kept.aH [.s 68, .h, .s 0, .s 1, .s 67] rfl (by decide) (Kept.now (aC.aW (fun ((n, K4) : Nat × Hp) => [(.s 68, .sv (.v (.int .i64 (n : Int)))), (.h, .hp K4)]) _ (fun ((n, K4) : Nat × Hp) => FZ S H0 K4 A os (all.set i { p with ops := p.ops.map (al.cS u v), outs := gk (Port.cS u v) p.outs n }) ∧ K.next ≤ K4.next) (fun ((n, K4) : Nat × Hp) => p.outs.length - n) (0, _) rfl ⟨hU, hI.2⟩ ?_))))))))))))
  rintro ⟨n, K4⟩ hP
  refine aC.seq (aC.region (aB.run II 1 rfl (aB.nil (aC.seq (aC.cond rfl (fun hc3 => ?_) (fun hc3 => ?_))))))
  ·have hn : n < p.outs.length := ch hc3
   have hO := (hP.1.ops _ _ _ ho (hse _)).2
   have hnr : n < (gk (Port.cS u v) p.outs n).length := by rw [bX]; exact hn
   refine aC.skip (aC.seq (aC.blk (aC.seq (aC.region (aB.run II 2 rfl (aB.nil (aC.drawn mixed rfl (aD.run II 3 rfl (aD.c1 rfl (c9 (aF rfl) gY rfl rfl hP.1.row (dF _ _) rfl (hP.1.get (hse _) ho) rfl) (aD.run II 5 rfl (aD.c1 rfl (c9 (aF rfl) gY rfl rfl hP.1.row (dF _ _) rfl (hP.1.get (hse _) ho) rfl) (aD.run II 1 rfl (aD.c1 rfl (eK (aF rfl) cy rfl hO rfl (Int.natCast_nonneg _) (by rw [List.length_map, bX]; omega)) ?_)))))))))))))
   refine aD.run II 1 rfl (aD.c1 rfl (c9 (aF rfl) de rfl rfl (dU hO (by rw [List.length_map]; exact hnr)) (jJ _) rfl (tI (jk _ _ hn)) rfl) ?_)
   refine aD.c1 rfl (iT (aF rfl) hC.1 rfl rfl rfl (hC.2 _ hP.1.old _)) (aD.c1 rfl (eK (aF rfl) cy rfl hO rfl (Int.natCast_nonneg _) (by rw [List.length_map, bX]; omega)) ?_)
   refine aD.run II 1 rfl (aD.c1 rfl (uu de rfl rfl (dU hO (by rw [List.length_map]; exact hnr)) rfl rfl (jJ _) rfl (tI (jk _ _ hn)) (aF rfl)) ?_)
   refine aD.nil (by kernel_rfl) (Kept.k6 rfl (show _ = K4.set (pz o.2) (ae ((gk (Port.cS u v) p.outs (n + 1)).map Port.av)) from by rw [← oE _ _ hn, List.map_set, Int.toNat_natCast]; rfl) (Kept.now ?_))
   exact aC.region (aB.run II 2 rfl (aB.kept (Kept.aX 68 rfl (inc (by omega)) (Kept.aH [.s 68, .h, .s 0, .s 1, .s 67] rfl (by decide) (Kept.now (⟨(n + 1, K4.set (pz o.2) (ae ((gk (Port.cS u v) p.outs (n + 1)).map Port.av))), by dsimp only; omega, ⟨by have h := hP.1.Bz (hse _) ho (l := gk (Port.cS u v) p.outs (n + 1)) (by dsimp only; rw [bX, bX]) (by dsimp only; rw [bX]; omega); rw [List.set_set] at h; exact h, hP.2⟩, rfl⟩))))))
  ·have hn : p.outs.length ≤ n := ck hc3
   exact aC.exit (⟨.inl rfl, _, _, (⟨rfl, hP.2, o, by have h := hP.1; rw [oF _ _ (by omega)] at h; rw [fa ho]; exact h⟩), aE.r0 rfl, rfl⟩)
end Go.Proofs.YtpifnegikoldmaaGreatDoor.X
