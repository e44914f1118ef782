/- the document: steps small enough; MparseBack. -/
import Derived.Test.YtabihkfhoohfnaaGreatDoorZCK
import Derived.Test.YtabihkfhoohfnaaGreatDoorZCD
import Derived.Test.YtabihkfhoohfnaaGreatDoorZCC
import Derived.Test.YtabihkfhoohfnaaGreatDoorZCE
import Derived.Test.YtabihkfhoohfnaaGreatDoorRows
import Derived.ProofKit
import Derived.LaidMore
import Derived.OpenShut
import Derived.Stop.Joined
import Derived.HandedShaped
import Derived.Shelf.Vars
import Derived.LaidLaws
import Derived.Lib.LaidU8T
set_option linter.unusedVariables false
set_option linter.unusedSimpArgs false
set_option linter.unusedSectionVars false
set_option maxRecDepth 100000
namespace Go.Proofs.YtabihkfhoohfnaaGreatDoor.X
open Go Go.RowKit Go.Proofs
theorem fn11_q : isFn Tryz.prog 11 = true := by kernel_rfl
theorem fn12_q : isFn Tryz.prog 12 = true := by kernel_rfl
theorem fn21_q : isFn Tryz.prog 21 = true := by kernel_rfl
theorem fn22_q : isFn Tryz.prog 22 = true := by kernel_rfl
theorem fn6_q : isFn Tryz.prog 6 = true := by kernel_rfl
theorem se56_q : se Tryz.prog 56 = some (55, 2, 32) := by kernel_rfl
theorem spl55_q : spl Tryz.prog 55 = some [(0, 1), (1, 1)] := by kernel_rfl
theorem spl59_q : spl Tryz.prog 59 = some [(0, 1), (1, 1)] := by kernel_rfl
theorem zA59_q : zeroA Tryz.prog 59 = some [AV.sl [], AV.sl []] := by kernel_rfl
theorem zAe56_q : zeroA Tryz.prog 55 = some [AV.int IntKind.i64 (0), AV.sl []] := by kernel_rfl
theorem all_take {l : List Stp} {i : Nat} (hi : i < l.length) : render (allPcs (l.take (i + 1))) = render (allPcs (l.take i)) ++ render (linePcs l[i]) := by
 rw [List.take_add_one, List.getElem?_eq_getElem hi, allPcs_app, render_app]
 simp [allPcs]
structure Bigs (l : List Stp) : Prop where
 n : l.length ≤ 40
 b : ∀ x ∈ l, x.dv.n < 18446744073709551616 ∧ x.big ∧ x.dv.s.length ≤ 8000
theorem take_short {l : List Stp} (h : Bigs l) {i : Nat} (hr : ∀ x ∈ l.take i, x.right = true) : (render (allPcs (l.take i))).length ≤ 720000 := by
 have := all_short (l := l.take i) fun x hx => ⟨RS.of (hr x hx) (h.b x (List.mem_of_mem_take hx)).1, (h.b x (List.mem_of_mem_take hx)).2.2⟩
 have h2 := h.n
 rw [List.length_take] at this
 omega
theorem text_short {x : Stp} (h : RS x) (hr : x.right = true) (hs : x.dv.s.length ≤ 8000) : (textT x).length ≤ 18000 := by
 have := line_short h hs
 rw [line_text hr] at this
 simp at this; omega
theorem right_take {l : List Stp} {i : Nat} (hi : i < l.length) (h : ∀ x ∈ l.take i, x.right = true) (hx : l[i].right = true) : ∀ x ∈ l.take (i + 1), x.right = true := by
 intro x h2
 rw [List.take_add_one, List.getElem?_eq_getElem hi] at h2
 rcases List.mem_append.1 h2 with h2 | h2
 ·exact h x h2
 ·simp at h2; rw [h2]; exact hx
theorem all_bad {l : List Stp} {i : Nat} (hi : i < l.length) (hx : l[i].right = false) : allT l = [] := by
 refine all_nil ?_
 cases e : l.all Stp.right with
 | false => rfl
 | true => rw [List.all_eq_true.1 e _ (List.getElem_mem hi)] at hx; cases hx
theorem all_good {l : List Stp} {i : Nat} (hi : l.length ≤ i) (h : ∀ x ∈ l.take i, x.right = true) : render (allPcs (l.take i)) = allT l := by
 rw [List.take_of_length_le hi] at h ⊢
 unfold allT
 rw [if_pos (List.all_eq_true.2 h)]
theorem r_alltext (l : List Stp) (hb : Bigs l) : Pure Tryz.prog 12 [.sl (l.map Stp.av)] (.str (allT l)) := by
 have hn := hb.n
 refine Pure.of_tri Tryz.func12 rfl rfl (ltb rfl) fun H => ?_
 refine Tri.seq (Tri.region ?_)
 refine TriL.c1 rfl (op_as (ltb rfl) rfl) ?_
 refine TriL.nil (Tri.seq (Tri.region ?_))
 refine TriL.c1 rfl (op_as (ltb rfl) rfl) ?_
 refine TriL.nil (Tri.seq (Tri.seq (Tri.region ?_)))
 refine TriL.c1 rfl (op_as (ltb rfl) rfl) ?_
 refine TriL.nil (Tri.blk ?_)
 refine Tri.ofKept (Kept.keep [.s 4, .s 3, .h, .s 0] rfl (by decide) (Kept.now ?_))
 -- LOOP 1
 refine Tri.loopk (fun ((i, s) : Nat × Str) => [(.s 4, .sv (.v (.int .i64 (i : Int)))), (.s 3, .sv (.v (.str s)))]) _ (fun ((i, s) : Nat × Str) => (∀ x ∈ l.take i, x.right = true) ∧ s = render (allPcs (l.take i))) (fun ((i, s) : Nat × Str) => l.length - i) (0, _) rfl (by simp [allPcs, render]) ?_
 rintro ⟨i, s⟩ hI
 refine Tri.seq (Tri.seq (Tri.region ?_))
 iterate 2 (refine TriL.c1 rfl (op_mv (ltb rfl) rfl) ?_)
 refine TriL.c1 rfl (op_lenl (ltb rfl) un23_q rfl) ?_
 refine TriL.c1 rfl (op_bin (ltb rfl) rfl rfl rfl) ?_
 refine TriL.nil ?_
 refine Tri.cond rfl (fun hc1 => ?_) (fun hc1 => ?_)
 ·have hi := ltm hc1
  refine Tri.skip (Tri.seq (Tri.blk (Tri.seq (Tri.seq (Tri.region ?_)))))
  iterate 2 (refine TriL.c1 rfl (op_mv (ltb rfl) rfl) ?_)
  refine TriL.c1 rfl (op_iak (ltb rfl) ie23_q rfl rfl (Int.natCast_nonneg _) (ixmE (fun _ => rfl) hi) rfl) ?_
  refine TriL.c1 rfl (op_ldk (ltb rfl) lk46_q rfl rfl) ?_
  refine TriL.c1 rfl (op_call (ltb rfl) fn18_q rfl (r_right _ (hb.b _ (List.getElem_mem hi)).2.1)) ?_
  refine TriL.c1 rfl (op_un (ltb rfl) rfl rfl) ?_
  refine TriL.nil ?_
  refine Tri.cond rfl (fun hc2 => ?_) (fun hc2 => ?_)
  ·refine Tri.seq (Tri.region ?_)
   refine TriL.c1 rfl (op_as (ltb rfl) rfl) ?_
   refine TriL.nil (Tri.ret ?_)
   exact ⟨.inr rfl, (ResOK.r1 rfl (.tmp rfl .nil)).cast (congrArg AV.str (all_bad hi (by simpa using hc2)).symm), rfl⟩
  ·refine Tri.skip (Tri.region ?_)
   iterate 3 (refine TriL.c1 rfl (op_mv (ltb rfl) rfl) ?_)
   refine TriL.c1 rfl (op_iak (ltb rfl) ie23_q rfl rfl (Int.natCast_nonneg _) (ixmE (fun _ => rfl) hi) rfl) ?_
   refine TriL.c1 rfl (op_ldk (ltb rfl) lk46_q rfl rfl) ?_
   refine TriL.c1 rfl (op_call (ltb rfl) fn22_q rfl (r_stptext _ (RS.of (by simpa using hc2) (hb.b _ (List.getElem_mem hi)).1) (by simpa using hc2) (hb.b _ (List.getElem_mem hi)).2.1 (hb.b _ (List.getElem_mem hi)).2.2)) ?_
   iterate 2 (refine TriL.c1 rfl (op_cat (ltb rfl) rfl rfl (by have h1 := take_short hb hI.1; have h2 := text_short (RS.of (x := l[i]) (by simpa using hc2) (hb.b _ (List.getElem_mem hi)).1) (by simpa using hc2) (hb.b _ (List.getElem_mem hi)).2.2; have h3 := hI.2; subst h3; simp only [List.length_append, List.length_cons, List.length_nil] at *; omega)) ?_)
   refine TriL.c1 rfl (op_as (ltb rfl) rfl) ?_
   refine TriL.nil (Tri.region ?_)
   refine TriL.c1 rfl (op_mv (ltb rfl) rfl) ?_
   refine TriL.c1 rfl (op_bin (ltb rfl) rfl rfl rfl) ?_
   refine TriL.c1 rfl (op_as (ltb rfl) rfl) ?_
   refine TriL.kept (Kept.seti 4 rfl (inc (by omega)) (Kept.keep [.s 4, .s 3, .h, .s 0] rfl (by decide) (Kept.now ?_)))
   exact ⟨(i + 1, _), by dsimp only; omega, ⟨right_take hi hI.1 (by simpa using hc2), by rw [all_take hi, line_text (by simpa using hc2), hI.2, List.append_assoc]⟩, rfl⟩
 ·have hi := gem hc1
  refine Tri.exit (Tri.seq (Tri.region ?_))
  refine TriL.c1 rfl (op_mv (ltb rfl) rfl) ?_
  refine TriL.c1 rfl (op_as (ltb rfl) rfl) ?_
  refine TriL.nil (Tri.ret ?_)
  exact ⟨.inr rfl, (ResOK.r1 rfl (.tmp rfl .nil)).cast (congrArg AV.str (by rw [hI.2]; exact all_good hi hI.1)), rfl⟩
def sumNm : List Str → Int → Int
 | [], n => n
 | s :: l, n => if n < 500 then sumNm l (w64 (n + (s.length : Int))) else n
theorem sumNm_step {l : List Str} {i : Nat} {n : Int} (h : i < l.length) : sumNm (l.drop i) n = if n < 500 then sumNm (l.drop (i + 1)) (w64 (n + (l[i].length : Int))) else n := by rw [List.drop_eq_getElem_cons h]; rfl
theorem sumNm_end {l : List Str} {i : Nat} {n : Int} (h : l.length ≤ i) : sumNm (l.drop i) n = n := by rw [List.drop_of_length_le h]; rfl
def Stp.sum0 (x : Stp) : Int := w64 (w64 (w64 (w64 ((x.msg.length : Int) + (x.field.length : Int)) + (x.dest.length : Int)) + (x.also.length : Int)) + w64 (10 * (x.names.length : Int)))
def Stp.tree (x : Stp) : Tree := .mk [.mk 0 [x.dv]] []
def Stp.lit (x : Stp) : Bool := !(decide (500 ≤ sumNm x.names x.sum0) || !x.tree.small)
def smallS (l : List Stp) : Bool := (l.take 41).all Stp.lit && decide (l.length ≤ 40)
theorem lit_step {l : List Stp} {i : Nat} (hi : i < l.length) (h : i ≤ 40) : ((l.take 41).drop i).all Stp.lit = (l[i].lit && ((l.take 41).drop (i + 1)).all Stp.lit) := by
 have h2 : i < (l.take 41).length := by rw [List.length_take]; omega
 rw [List.drop_eq_getElem_cons h2]
 simp
theorem lit_end {l : List Stp} {i : Nat} (h : l.length ≤ i ∨ 40 < i) : ((l.take 41).drop i).all Stp.lit = true := by
 rw [List.drop_of_length_le (by rw [List.length_take]; omega)]; rfl
theorem small_at {l : List Stp} {i : Nat} (hi : i < l.length) (h : i ≤ 40) (hI : ((l.take 41).drop i).all Stp.lit = (l.take 41).all Stp.lit) (hx : l[i].lit = false) : smallS l = false := by
 rw [lit_step hi h, hx, Bool.false_and] at hI
 unfold smallS; rw [← hI]; rfl
theorem small_next {l : List Stp} {i : Nat} (hi : i < l.length) (h : i ≤ 40) (hI : ((l.take 41).drop i).all Stp.lit = (l.take 41).all Stp.lit) (hx : l[i].lit = true) : ((l.take 41).drop (i + 1)).all Stp.lit = (l.take 41).all Stp.lit := by
 rw [lit_step hi h, hx, Bool.true_and] at hI
 exact hI
theorem small_done {l : List Stp} {i : Nat} (h : l.length ≤ i ∨ 40 < i) (hI : ((l.take 41).drop i).all Stp.lit = (l.take 41).all Stp.lit) : decide (((l.map Stp.av).length : Int) ≤ 40) = smallS l := by
 rw [lit_end h] at hI
 unfold smallS; rw [← hI, List.length_map, Bool.true_and]
 exact decide_eq_decide.2 (by omega)
theorem tsmall1 (x : Stp) (hb : x.tree.big) : Pure Tryz.prog 21 [.agg [.sl [.agg [.int .i64 0, .sl [.agg [.int .u64 (x.dv.n : Int), .str x.dv.s, .sl (x.dv.m.map Tree.av)]]]], .sl []]] (.bool x.tree.small) := by
 have := r_tsmall x.tree hb
 simp only [Stp.tree, Tree.cells, Tree.slots, Tree.rest, List.map_cons, List.map_nil, Slot.av_eq, Slot.cells, Slot.num, Slot.vals, Val.av_eq, Val.cells] at this
 exact this
theorem tree_dv {x : Stp} (h : x.tree.small = true) (hs : x.dv.s.length ≤ 140737488355328) : x.dv.s.length ≤ 8000 := by
 have h1 : 0 ≤ x.tree.left 400 40 := of_decide_eq_true h
 have e1 : w64 (w64 (400 - (([] : List Rw).length : Int)) - (([Slot.mk 0 [x.dv]] : List Slot).length : Int)) = 399 := by
  show w64 (w64 (400 - ((0 : Nat) : Int)) - ((1 : Nat) : Int)) = 399
  decide
 have e2 : w64 (399 - (([x.dv] : List Val).length : Int)) = 398 := by
  show w64 (399 - ((1 : Nat) : Int)) = 398
  decide
 have e3 : x.tree.left 400 40 = leftT x.dv.m (w64 (398 - w64 ((x.dv.s.length : Int).tdiv 20))) 40 := by
  rw [Tree.left_eq, if_neg (by decide)]
  show leftS [Slot.mk 0 [x.dv]] (leftR [] (w64 (w64 (400 - (([] : List Rw).length : Int)) - (([Slot.mk 0 [x.dv]] : List Slot).length : Int)))) 40 = _
  rw [e1]
  show leftS [Slot.mk 0 [x.dv]] 399 40 = _
  rw [leftS, if_pos (by decide), leftS, Slot.left_eq]
  show leftV [x.dv] (w64 (399 - (([x.dv] : List Val).length : Int))) 40 = _
  rw [e2, leftV, if_pos (by decide), leftV, Val.left_eq]
 rw [e3] at h1
 apply Classical.byContradiction
 intro hn
 have e4 : w64 (398 - w64 ((x.dv.s.length : Int).tdiv 20)) = 398 - (x.dv.s.length : Int) / 20 := by
  rw [Int.tdiv_eq_ediv_of_nonneg (by omega)]
  show IntKind.i64.wrap (398 - IntKind.i64.wrap ((x.dv.s.length : Int) / 20)) = _
  rw [wr64 (n := (x.dv.s.length : Int) / 20) (by omega) (by omega), wr64 (by omega) (by omega)]
 rw [e4, leftT_neg (by omega)] at h1
 omega
theorem sumNm_big {l : List Str} {n : Int} (h : 500 ≤ n) : sumNm l n = n := by
 cases l with
 | nil => rfl
 | cons s l => unfold sumNm; rw [if_neg (by omega)]
theorem r_ssmall (l : List Stp) (hl : l.length ≤ 140737488355328) (hb : ∀ x ∈ l, x.names.length ≤ 140737488355328 ∧ x.tree.big) : Pure Tryz.prog 11 [.sl (l.map Stp.av)] (.bool (smallS l)) := by
 refine Pure.of_tri Tryz.func11 rfl rfl (ltb rfl) fun H => ?_
 refine Tri.seq (Tri.region ?_)
 refine TriL.c1 rfl (op_as (ltb rfl) rfl) ?_
 refine TriL.nil (Tri.seq (Tri.seq (Tri.region ?_)))
 refine TriL.c1 rfl (op_as (ltb rfl) rfl) ?_
 refine TriL.nil (Tri.blk ?_)
 refine Tri.ofKept (Kept.keep [.s 3, .h, .s 0] rfl (by decide) (Kept.now ?_))
 -- LOOP 1
 refine Tri.loopk (fun (i : Nat) => [(.s 3, .sv (.v (.int .i64 (i : Int))))]) _ (fun (i : Nat) => ((l.take 41).drop i).all Stp.lit = (l.take 41).all Stp.lit) (fun (i : Nat) => l.length - i) 0 rfl rfl ?_
 rintro i hI
 refine Tri.seq (Tri.seq (Tri.region ?_))
 iterate 2 (refine TriL.c1 rfl (op_mv (ltb rfl) rfl) ?_)
 refine TriL.c1 rfl (op_lenl (ltb rfl) un23_q rfl) ?_
 refine TriL.c1 rfl (op_bin (ltb rfl) rfl rfl rfl) ?_
 refine TriL.c1 rfl (op_mv (ltb rfl) rfl) ?_
 refine TriL.split (d := 11) rfl (fun hg1 => ?_) (fun hg1 => ?_)
 ·have hi := ltm hg1
  have hnm := (hb _ (List.getElem_mem hi)).1
  refine TriL.g1 rfl (ltb rfl) rfl hg1 (op_mv (ltb rfl) rfl) ?_
  refine TriL.g1 rfl (ltb rfl) rfl hg1 (op_bin (ltb rfl) rfl rfl rfl) ?_
  refine TriL.c1 rfl (op_pickt (ltb rfl) rfl hg1 rfl) ?_
  refine TriL.nil ?_
  refine Tri.cond rfl (fun hc2 => ?_) (fun hc2 => ?_)
  ·refine Tri.skip (Tri.seq (Tri.blk (Tri.seq (Tri.region ?_))))
   iterate 2 (refine TriL.c1 rfl (op_mv (ltb rfl) rfl) ?_)
   refine TriL.c1 rfl (op_iak (ltb rfl) ie23_q rfl rfl (Int.natCast_nonneg _) (ixmE (fun _ => rfl) hi) rfl) ?_
   refine TriL.c1 rfl (op_ldk (ltb rfl) lk46_q rfl rfl) ?_
   refine TriL.c2 rfl (op_all (ltb rfl) zA46_q rfl) ?_
   refine TriL.c1 rfl (op_stl lk46_q rfl rfl rfl rfl rfl (leb rfl)) ?_
   refine TriL.nil (Tri.seq (Tri.region ?_))
   refine TriL.c1 rfl (op_fal (ltb rfl) fo46_1_q rfl) ?_
   refine TriL.c1 rfl (op_ldl (ltb rfl) lk9_q rfl rfl rfl) ?_
   refine TriL.c1 rfl (op_lens (ltb rfl) un9_q rfl) ?_
   refine TriL.c1 rfl (op_fal (ltb rfl) fo46_2_q rfl) ?_
   refine TriL.c1 rfl (op_ldl (ltb rfl) lk9_q rfl rfl rfl) ?_
   refine TriL.c1 rfl (op_lens (ltb rfl) un9_q rfl) ?_
   refine TriL.c1 rfl (op_bin (ltb rfl) rfl rfl rfl) ?_
   refine TriL.c1 rfl (op_fal (ltb rfl) fo46_3_q rfl) ?_
   refine TriL.c1 rfl (op_ldl (ltb rfl) lk9_q rfl rfl rfl) ?_
   refine TriL.c1 rfl (op_lens (ltb rfl) un9_q rfl) ?_
   refine TriL.c1 rfl (op_bin (ltb rfl) rfl rfl rfl) ?_
   refine TriL.c1 rfl (op_fal (ltb rfl) fo46_4_q rfl) ?_
   refine TriL.c1 rfl (op_ldl (ltb rfl) lk9_q rfl rfl rfl) ?_
   refine TriL.c1 rfl (op_lens (ltb rfl) un9_q rfl) ?_
   refine TriL.c1 rfl (op_bin (ltb rfl) rfl rfl rfl) ?_
   refine TriL.c1 rfl (op_fal (ltb rfl) fo46_8_q rfl) ?_
   refine TriL.c1 rfl (op_ldl (ltb rfl) lk40_q rfl rfl rfl) ?_
   refine TriL.c1 rfl (op_lenl (ltb rfl) un40_q rfl) ?_
   iterate 2 (refine TriL.c1 rfl (op_bin (ltb rfl) rfl rfl rfl) ?_)
   refine TriL.c1 rfl (op_as (ltb rfl) rfl) ?_
   refine TriL.nil (Tri.seq (Tri.seq (Tri.region ?_)))
   refine TriL.c1 rfl (op_as (ltb rfl) rfl) ?_
   refine TriL.nil (Tri.blk ?_)
   refine Tri.ofKept (Kept.keep [.s 6, .s 5, .h, .s 0, .s 3, .s 4, .b 4] rfl (by decide) (Kept.now ?_))
   -- LOOP 2
   refine Tri.loopk (fun ((k, n) : Nat × Int) => [(.s 6, .sv (.v (.int .i64 (k : Int)))), (.s 5, .sv (.v (.int .i64 n)))]) _ (fun ((k, n) : Nat × Int) => sumNm ((l[i]'hi).names.drop k) n = sumNm (l[i]'hi).names (l[i]'hi).sum0) (fun ((k, n) : Nat × Int) => (l[i]'hi).names.length - k) (0, _) rfl (by simp [Stp.sum0]) ?_
   rintro ⟨k, n⟩ hK
   refine Tri.seq (Tri.seq (Tri.region ?_))
   refine TriL.c1 rfl (op_mv (ltb rfl) rfl) ?_
   refine TriL.c1 rfl (op_fal (ltb rfl) fo46_8_q rfl) ?_
   refine TriL.c1 rfl (op_ldl (ltb rfl) lk40_q rfl rfl rfl) ?_
   refine TriL.c1 rfl (op_lenl (ltb rfl) un40_q rfl) ?_
   refine TriL.c1 rfl (op_bin (ltb rfl) rfl rfl rfl) ?_
   refine TriL.c1 rfl (op_mv (ltb rfl) rfl) ?_
   refine TriL.split (d := 46) rfl (fun hg3 => ?_) (fun hg3 => ?_)
   ·have hk := ltm hg3
    have hS := @sumNm_step (l[i]'hi).names k n hk
    refine TriL.g1 rfl (ltb rfl) rfl hg3 (op_mv (ltb rfl) rfl) ?_
    refine TriL.g1 rfl (ltb rfl) rfl hg3 (op_bin (ltb rfl) rfl rfl rfl) ?_
    refine TriL.c1 rfl (op_pickt (ltb rfl) rfl hg3 rfl) ?_
    refine TriL.nil ?_
    refine Tri.cond rfl (fun hc4 => ?_) (fun hc4 => ?_)
    ·refine Tri.skip (Tri.seq (Tri.blk (Tri.region ?_)))
     refine TriL.c1 rfl (op_mv (ltb rfl) rfl) ?_
     refine TriL.c1 rfl (op_fal (ltb rfl) fo46_8_q rfl) ?_
     refine TriL.c1 rfl (op_ldl (ltb rfl) lk40_q rfl rfl rfl) ?_
     refine TriL.c1 rfl (op_mv (ltb rfl) rfl) ?_
     refine TriL.c1 rfl (op_iak (ltb rfl) ie40_q rfl rfl (Int.natCast_nonneg _) (ixm hk) rfl) ?_
     refine TriL.c1 rfl (op_ldk (ltb rfl) lk9_q rfl rfl) ?_
     refine TriL.c1 rfl (op_lens (ltb rfl) un9_q rfl) ?_
     refine TriL.c1 rfl (op_bin (ltb rfl) rfl rfl rfl) ?_
     refine TriL.c1 rfl (op_as (ltb rfl) rfl) ?_
     refine TriL.nil (Tri.region ?_)
     refine TriL.c1 rfl (op_mv (ltb rfl) rfl) ?_
     refine TriL.c1 rfl (op_bin (ltb rfl) rfl rfl rfl) ?_
     refine TriL.c1 rfl (op_as (ltb rfl) rfl) ?_
     refine TriL.kept (Kept.seti 6 rfl (inc (by omega)) (Kept.keep [.s 6, .s 5, .h, .s 0, .s 3, .s 4, .b 4] rfl (by decide) (Kept.now ?_)))
     exact ⟨(k + 1, _), (by dsimp only; omega), by grind, rfl⟩
    ·refine Tri.exit (Tri.seq (Tri.region ?_))
     refine TriL.c1 rfl (op_mv (ltb rfl) rfl) ?_
     refine TriL.c1 rfl (op_bin (ltb rfl) rfl rfl rfl) ?_
     refine TriL.c1 rfl (op_mv (ltb rfl) rfl) ?_
     refine TriL.split (d := 62) rfl (fun hg5 => ?_) (fun hg5 => ?_)
     ·iterate 8 (refine TriL.skipu rfl rfl (ltb rfl) (ltb rfl) rfl hg5 ?_)
      refine TriL.c1 rfl (op_pickt (ltb rfl) rfl hg5 rfl) ?_
      refine TriL.nil ?_
      refine Tri.condT rfl rfl ?_
      refine Tri.seq (Tri.region ?_)
      refine TriL.c1 rfl (op_as (ltb rfl) rfl) ?_
      refine TriL.nil (Tri.ret ?_)
      exact ⟨.inr rfl, (ResOK.r1 rfl (.tmp rfl .nil)).cast (congrArg AV.bool (small_at hi (by have := of_decide_eq_true hc2; omega) hI (by unfold Stp.lit; grind [sumNm_end, sumNm_big])).symm), rfl⟩
     ·refine TriL.g1 rfl (ltb rfl) rfl hg5 (op_fal (ltb rfl) fo46_9_q rfl) ?_
      refine TriL.g1 rfl (ltb rfl) rfl hg5 (op_ldl (ltb rfl) lk44_q rfl rfl rfl) ?_
      refine TriL.g1 rfl (ltb rfl) rfl hg5 (op_lit («as» := [_]) (ltb rfl) se52_q zAe52_q rfl rfl rfl (leb rfl)) ?_
      refine TriL.g1 rfl (ltb rfl) rfl hg5 (op_bld (ltb rfl) spl55_q zA55_q rfl rfl) ?_
      refine TriL.g1 rfl (ltb rfl) rfl hg5 (op_lit («as» := [_]) (ltb rfl) se56_q zAe56_q rfl rfl rfl (leb rfl)) ?_
      refine TriL.g1 rfl (ltb rfl) rfl hg5 (op_bld (ltb rfl) spl59_q zA59_q rfl rfl) ?_
      refine TriL.g1 rfl (ltb rfl) rfl hg5 (op_call (ltb rfl) fn21_q rfl (tsmall1 (l[i]'hi) (hb _ (List.getElem_mem hi)).2)) ?_
      refine TriL.g1 rfl (ltb rfl) rfl hg5 (op_un (ltb rfl) rfl rfl) ?_
      refine TriL.c1 rfl (op_pickf (ltb rfl) rfl hg5 rfl) ?_
      refine TriL.nil ?_
      refine Tri.cond rfl (fun hc6 => ?_) (fun hc6 => ?_)
      ·refine Tri.seq (Tri.region ?_)
       refine TriL.c1 rfl (op_as (ltb rfl) rfl) ?_
       refine TriL.nil (Tri.ret ?_)
       exact ⟨.inr rfl, (ResOK.r1 rfl (.tmp rfl .nil)).cast (congrArg AV.bool (small_at hi (by have := of_decide_eq_true hc2; omega) hI (by unfold Stp.lit; grind [sumNm_end, sumNm_big])).symm), rfl⟩
      ·refine Tri.skip (Tri.region ?_)
       refine TriL.c1 rfl (op_mv (ltb rfl) rfl) ?_
       refine TriL.c1 rfl (op_bin (ltb rfl) rfl rfl rfl) ?_
       refine TriL.c1 rfl (op_as (ltb rfl) rfl) ?_
       refine TriL.kept (Kept.seti 3 rfl (inc (by omega)) (Kept.keep [.s 3, .h, .s 0] rfl (by decide) (Kept.now ?_)))
       exact ⟨i + 1, by omega, small_next hi (by have := of_decide_eq_true hc2; omega) hI (by unfold Stp.lit; grind [sumNm_end, sumNm_big]), rfl⟩
   ·have hk := gem hg3
    have hS := @sumNm_end (l[i]'hi).names k n hk
    iterate 2 (refine TriL.skipu rfl rfl (ltb rfl) (ltb rfl) rfl hg3 ?_)
    refine TriL.c1 rfl (op_pickf (ltb rfl) rfl hg3 rfl) ?_
    refine TriL.nil ?_
    refine Tri.condF rfl rfl ?_
    refine Tri.exit (Tri.seq (Tri.region ?_))
    refine TriL.c1 rfl (op_mv (ltb rfl) rfl) ?_
    refine TriL.c1 rfl (op_bin (ltb rfl) rfl rfl rfl) ?_
    refine TriL.c1 rfl (op_mv (ltb rfl) rfl) ?_
    refine TriL.split (d := 62) rfl (fun hg7 => ?_) (fun hg7 => ?_)
    ·iterate 8 (refine TriL.skipu rfl rfl (ltb rfl) (ltb rfl) rfl hg7 ?_)
     refine TriL.c1 rfl (op_pickt (ltb rfl) rfl hg7 rfl) ?_
     refine TriL.nil ?_
     refine Tri.condT rfl rfl ?_
     refine Tri.seq (Tri.region ?_)
     refine TriL.c1 rfl (op_as (ltb rfl) rfl) ?_
     refine TriL.nil (Tri.ret ?_)
     exact ⟨.inr rfl, (ResOK.r1 rfl (.tmp rfl .nil)).cast (congrArg AV.bool (small_at hi (by have := of_decide_eq_true hc2; omega) hI (by unfold Stp.lit; grind [sumNm_end, sumNm_big])).symm), rfl⟩
    ·refine TriL.g1 rfl (ltb rfl) rfl hg7 (op_fal (ltb rfl) fo46_9_q rfl) ?_
     refine TriL.g1 rfl (ltb rfl) rfl hg7 (op_ldl (ltb rfl) lk44_q rfl rfl rfl) ?_
     refine TriL.g1 rfl (ltb rfl) rfl hg7 (op_lit («as» := [_]) (ltb rfl) se52_q zAe52_q rfl rfl rfl (leb rfl)) ?_
     refine TriL.g1 rfl (ltb rfl) rfl hg7 (op_bld (ltb rfl) spl55_q zA55_q rfl rfl) ?_
     refine TriL.g1 rfl (ltb rfl) rfl hg7 (op_lit («as» := [_]) (ltb rfl) se56_q zAe56_q rfl rfl rfl (leb rfl)) ?_
     refine TriL.g1 rfl (ltb rfl) rfl hg7 (op_bld (ltb rfl) spl59_q zA59_q rfl rfl) ?_
     refine TriL.g1 rfl (ltb rfl) rfl hg7 (op_call (ltb rfl) fn21_q rfl (tsmall1 (l[i]'hi) (hb _ (List.getElem_mem hi)).2)) ?_
     refine TriL.g1 rfl (ltb rfl) rfl hg7 (op_un (ltb rfl) rfl rfl) ?_
     refine TriL.c1 rfl (op_pickf (ltb rfl) rfl hg7 rfl) ?_
     refine TriL.nil ?_
     refine Tri.cond rfl (fun hc8 => ?_) (fun hc8 => ?_)
     ·refine Tri.seq (Tri.region ?_)
      refine TriL.c1 rfl (op_as (ltb rfl) rfl) ?_
      refine TriL.nil (Tri.ret ?_)
      exact ⟨.inr rfl, (ResOK.r1 rfl (.tmp rfl .nil)).cast (congrArg AV.bool (small_at hi (by have := of_decide_eq_true hc2; omega) hI (by unfold Stp.lit; grind [sumNm_end, sumNm_big])).symm), rfl⟩
     ·refine Tri.skip (Tri.region ?_)
      refine TriL.c1 rfl (op_mv (ltb rfl) rfl) ?_
      refine TriL.c1 rfl (op_bin (ltb rfl) rfl rfl rfl) ?_
      refine TriL.c1 rfl (op_as (ltb rfl) rfl) ?_
      refine TriL.kept (Kept.seti 3 rfl (inc (by omega)) (Kept.keep [.s 3, .h, .s 0] rfl (by decide) (Kept.now ?_)))
      exact ⟨i + 1, by omega, small_next hi (by have := of_decide_eq_true hc2; omega) hI (by unfold Stp.lit; grind [sumNm_end, sumNm_big]), rfl⟩
  ·refine Tri.exit (Tri.seq (Tri.region ?_))
   refine TriL.c1 rfl (op_mv (ltb rfl) rfl) ?_
   refine TriL.c1 rfl (op_lenl (ltb rfl) un23_q rfl) ?_
   refine TriL.c1 rfl (op_bin (ltb rfl) rfl rfl rfl) ?_
   refine TriL.c1 rfl (op_as (ltb rfl) rfl) ?_
   refine TriL.nil (Tri.ret ?_)
   exact ⟨.inr rfl, (ResOK.r1 rfl (.tmp rfl .nil)).cast (congrArg AV.bool (small_done (.inr (by have := of_decide_eq_false hc2; omega)) hI)), rfl⟩
 ·have hi := gem hg1
  iterate 2 (refine TriL.skipu rfl rfl (ltb rfl) (ltb rfl) rfl hg1 ?_)
  refine TriL.c1 rfl (op_pickf (ltb rfl) rfl hg1 rfl) ?_
  refine TriL.nil ?_
  refine Tri.condF rfl rfl ?_
  refine Tri.exit (Tri.seq (Tri.region ?_))
  refine TriL.c1 rfl (op_mv (ltb rfl) rfl) ?_
  refine TriL.c1 rfl (op_lenl (ltb rfl) un23_q rfl) ?_
  refine TriL.c1 rfl (op_bin (ltb rfl) rfl rfl rfl) ?_
  refine TriL.c1 rfl (op_as (ltb rfl) rfl) ?_
  refine TriL.nil (Tri.ret ?_)
  exact ⟨.inr rfl, (ResOK.r1 rfl (.tmp rfl .nil)).cast (congrArg AV.bool (small_done (.inl hi) hI)), rfl⟩
theorem small_ok {l : List Stp} (h : smallS l = true) : l.length ≤ 40 ∧ ∀ x ∈ l, x.lit = true := by
 simp only [smallS, Bool.and_eq_true, decide_eq_true_eq] at h
 rw [List.take_of_length_le (by omega), List.all_eq_true] at h
 exact ⟨h.2, h.1⟩
/-- what comes in -/
structure In (l : List Stp) : Prop where
 n : l.length ≤ 140737488355328
 b : ∀ x ∈ l, x.dv.n < 18446744073709551616 ∧ x.big ∧ x.dv.s.length ≤ 140737488355328 ∧ x.names.length ≤ 140737488355328 ∧ x.tree.big
theorem In.bigs {l : List Stp} (h : In l) (hs : smallS l = true) : Bigs l := by
 obtain ⟨h1, h2⟩ := small_ok hs
 refine ⟨h1, fun x hx => ?_⟩
 obtain ⟨b1, b2, b3, _, _⟩ := h.b x hx
 refine ⟨b1, b2, tree_dv ?_ b3⟩
 have := h2 x hx
 simp only [Stp.lit, Bool.not_eq_true', Bool.or_eq_false_iff, Bool.not_eq_false'] at this
 exact this.2
theorem right_of {l : List Stp} (h : l = [] ∨ allT l ≠ []) : l.all Stp.right = true := by
 rcases h with rfl | h
 ·rfl
 ·cases e : l.all Stp.right with
  | true => rfl
  | false => exact absurd (all_nil e) h
theorem same_self2 {a b : List Stp} (e : b = a) (ha : a.length ≤ 9223372036854775807) (hn : ∀ x ∈ a, x.names.length ≤ 9223372036854775807) (hm : ∀ x ∈ a, x.dv.m = []) : Pure Tryz.prog 9 [.sl (b.map Stp.av), .sl (a.map Stp.av)] (.bool true) := by
 subst e; exact same_self b ha hn hm
theorem RS.m0 {x : Stp} (h : RS x) : x.dv.m = [] := by
 have hv := h.v
 by_cases hk : x.kind = 9
 ·have hv := ok9 h hk
  have hw := wd9 h hk
  obtain ⟨p, k, _, _, _, v4⟩ := st_val hv h.u hw
  exact gVal_m (v4 [k.at 0] 0 [] ⟨by simp, rfl, trivial⟩)
 ·have : (shapeT x.kind).dv = false := by
   unfold shapeT
   repeat' split
   all_goals first | rfl | omega
  rw [this] at hv
  rw [val_zero hv]; rfl
theorem back_a (l : List Stp) (hS : Pure Tryz.prog 11 [.sl (l.map Stp.av)] (.bool false)) : Pure Tryz.prog 4 [.sl (l.map Stp.av)] (.bool true) := by
 refine Pure.of_tri Tryz.func4 rfl rfl (ltb rfl) fun H => ?_
 refine Tri.seq (Tri.region ?_)
 refine TriL.c1 rfl (op_as (ltb rfl) rfl) ?_
 refine TriL.nil (Tri.seq (Tri.seq (Tri.region ?_)))
 refine TriL.c1 rfl (op_mv (ltb rfl) rfl) ?_
 refine TriL.c1 rfl (op_call (ltb rfl) fn11_q rfl hS) ?_
 refine TriL.c1 rfl (op_un (ltb rfl) rfl rfl) ?_
 refine TriL.c1 rfl (op_mv (ltb rfl) rfl) ?_
 iterate 4 (refine TriL.skipu rfl rfl (ltb rfl) (ltb rfl) rfl (congrArg not rfl) ?_)
 iterate 3 (refine TriL.skipg rfl rfl (ltb rfl) (ltb rfl) rfl ?_)
 refine TriL.skipu rfl rfl (ltb rfl) (ltb rfl) rfl (congrArg not rfl) ?_
 refine TriL.c1 rfl (op_pickt (ltb rfl) rfl (congrArg not rfl) rfl) ?_
 refine TriL.nil ?_
 refine Tri.condT rfl rfl ?_
 refine Tri.seq (Tri.region ?_)
 refine TriL.c1 rfl (op_call (ltb rfl) fn6_q rfl live_pure) ?_
 refine TriL.c1 rfl (op_as (ltb rfl) rfl) ?_
 refine TriL.nil (Tri.ret ?_)
 exact ⟨.inr rfl, (ResOK.r1 rfl (.tmp rfl .nil)).cast rfl, rfl⟩
theorem back_b (l : List Stp) (h : 0 < l.length) (hS : Pure Tryz.prog 11 [.sl (l.map Stp.av)] (.bool true)) (hA : Pure Tryz.prog 12 [.sl (l.map Stp.av)] (.str [])) : Pure Tryz.prog 4 [.sl (l.map Stp.av)] (.bool true) := by
 refine Pure.of_tri Tryz.func4 rfl rfl (ltb rfl) fun H => ?_
 refine Tri.seq (Tri.region ?_)
 refine TriL.c1 rfl (op_as (ltb rfl) rfl) ?_
 refine TriL.nil (Tri.seq (Tri.seq (Tri.region ?_)))
 refine TriL.c1 rfl (op_mv (ltb rfl) rfl) ?_
 refine TriL.c1 rfl (op_call (ltb rfl) fn11_q rfl hS) ?_
 refine TriL.c1 rfl (op_un (ltb rfl) rfl rfl) ?_
 refine TriL.c1 rfl (op_mv (ltb rfl) rfl) ?_
 refine TriL.g1 rfl (ltb rfl) rfl (congrArg not rfl) (op_mv (ltb rfl) rfl) ?_
 refine TriL.g1 rfl (ltb rfl) rfl (congrArg not rfl) (op_lenl (ltb rfl) un23_q rfl) ?_
 refine TriL.g1 rfl (ltb rfl) rfl (congrArg not rfl) (op_bin (ltb rfl) rfl rfl rfl) ?_
 refine TriL.g1 rfl (ltb rfl) rfl (congrArg not rfl) (op_mv (ltb rfl) rfl) ?_
 refine TriL.g1 rfl (ltb rfl) rfl (by simpa using h) (op_mv (ltb rfl) rfl) ?_
 refine TriL.g1 rfl (ltb rfl) rfl (by simpa using h) (op_call (ltb rfl) fn12_q rfl hA) ?_
 refine TriL.g1 rfl (ltb rfl) rfl (by simpa using h) (op_bin (ltb rfl) rfl rfl rfl) ?_
 refine TriL.g1 rfl (ltb rfl) rfl (congrArg not rfl) (op_pickt (ltb rfl) rfl (by simpa using h) rfl) ?_
 refine TriL.c1 rfl (op_pickf (ltb rfl) rfl (congrArg not rfl) rfl) ?_
 refine TriL.nil ?_
 refine Tri.condT rfl rfl ?_
 refine Tri.seq (Tri.region ?_)
 refine TriL.c1 rfl (op_call (ltb rfl) fn6_q rfl live_pure) ?_
 refine TriL.c1 rfl (op_as (ltb rfl) rfl) ?_
 refine TriL.nil (Tri.ret ?_)
 exact ⟨.inr rfl, (ResOK.r1 rfl (.tmp rfl .nil)).cast rfl, rfl⟩
theorem back_c (l : List Stp) (h : l.length = 0) (s : Str) (z : List Stp) (e : Int) (hl : In l) (hm : ∀ x ∈ l, x.dv.m = []) (hS : Pure Tryz.prog 11 [.sl (l.map Stp.av)] (.bool true)) (hA : Pure Tryz.prog 12 [.sl (l.map Stp.av)] (.str s)) (hP0 : s.length ≤ 6000 → Pure Tryz.prog 7 [.str s] (.tup [.sl (z.map Stp.av), .int .i64 (s.length : Int), .int .i64 e])) (h16 : 16 < l.length → e = 4) (h17 : ¬ 16 < l.length → e = 0 ∧ z = l) : Pure Tryz.prog 4 [.sl (l.map Stp.av)] (.bool true) := by
 refine Pure.of_tri Tryz.func4 rfl rfl (ltb rfl) fun H => ?_
 refine Tri.seq (Tri.region ?_)
 refine TriL.c1 rfl (op_as (ltb rfl) rfl) ?_
 refine TriL.nil (Tri.seq (Tri.seq (Tri.region ?_)))
 refine TriL.c1 rfl (op_mv (ltb rfl) rfl) ?_
 refine TriL.c1 rfl (op_call (ltb rfl) fn11_q rfl hS) ?_
 refine TriL.c1 rfl (op_un (ltb rfl) rfl rfl) ?_
 refine TriL.c1 rfl (op_mv (ltb rfl) rfl) ?_
 refine TriL.g1 rfl (ltb rfl) rfl (congrArg not rfl) (op_mv (ltb rfl) rfl) ?_
 refine TriL.g1 rfl (ltb rfl) rfl (congrArg not rfl) (op_lenl (ltb rfl) un23_q rfl) ?_
 refine TriL.g1 rfl (ltb rfl) rfl (congrArg not rfl) (op_bin (ltb rfl) rfl rfl rfl) ?_
 refine TriL.g1 rfl (ltb rfl) rfl (congrArg not rfl) (op_mv (ltb rfl) rfl) ?_
 iterate 3 (refine TriL.skipu rfl rfl (ltb rfl) (ltb rfl) rfl (by simp [h]) ?_)
 refine TriL.g1 rfl (ltb rfl) rfl (congrArg not rfl) (op_pickf (ltb rfl) rfl (by simp [h]) rfl) ?_
 refine TriL.c1 rfl (op_pickf (ltb rfl) rfl (congrArg not rfl) rfl) ?_
 refine TriL.nil ?_
 refine Tri.condF rfl rfl ?_
 refine Tri.skip (Tri.seq (Tri.region ?_))
 refine TriL.c1 rfl (op_mv (ltb rfl) rfl) ?_
 refine TriL.c1 rfl (op_call (ltb rfl) fn12_q rfl hA) ?_
 refine TriL.c1 rfl (op_as (ltb rfl) rfl) ?_
 refine TriL.nil (Tri.seq (Tri.seq (Tri.region ?_)))
 refine TriL.c1 rfl (op_mv (ltb rfl) rfl) ?_
 refine TriL.c1 rfl (op_lens (ltb rfl) un9_q rfl) ?_
 refine TriL.c1 rfl (op_bin (ltb rfl) rfl rfl rfl) ?_
 refine TriL.nil ?_
 refine Tri.cond rfl (fun hc1 => ?_) (fun hc1 => ?_)
 ·refine Tri.seq (Tri.region ?_)
  refine TriL.c1 rfl (op_call (ltb rfl) fn6_q rfl live_pure) ?_
  refine TriL.c1 rfl (op_as (ltb rfl) rfl) ?_
  refine TriL.nil (Tri.ret ?_)
  exact ⟨.inr rfl, (ResOK.r1 rfl (.tmp rfl .nil)).cast rfl, rfl⟩
 ·refine Tri.skip (Tri.seq (Tri.region ?_))
  refine TriL.c1 rfl (op_mv (ltb rfl) rfl) ?_
  refine TriL.c1 rfl (op_call (ltb rfl) fn7_q rfl (hP0 (by have := of_decide_eq_false hc1; omega))) ?_
  refine TriL.c1 rfl (op_mv (ltb rfl) rfl) ?_
  iterate 3 (refine TriL.c1 rfl (op_ext (ltb rfl) rfl rfl) ?_)
  iterate 3 (refine TriL.c1 rfl (op_as (ltb rfl) rfl) ?_)
  refine TriL.nil (Tri.seq (Tri.seq (Tri.region ?_)))
  refine TriL.c1 rfl (op_mv (ltb rfl) rfl) ?_
  refine TriL.c1 rfl (op_lenl (ltb rfl) un23_q rfl) ?_
  refine TriL.c1 rfl (op_bin (ltb rfl) rfl rfl rfl) ?_
  refine TriL.nil ?_
  refine Tri.cond rfl (fun hc2 => ?_) (fun hc2 => ?_)
  ·refine Tri.seq (Tri.region ?_)
   refine TriL.c1 rfl (op_mv (ltb rfl) rfl) ?_
   refine TriL.c1 rfl (op_call (ltb rfl) fn10_q rfl (num_pure _)) ?_
   refine TriL.c1 rfl (op_bin (ltb rfl) rfl rfl rfl) ?_
   refine TriL.c1 rfl (op_mv (ltb rfl) rfl) ?_
   iterate 2 (refine TriL.g1 rfl (ltb rfl) rfl (by rw [(h16 (by have := of_decide_eq_true hc2; simp only [List.length_map] at this; omega))]; rfl) (op_mv (ltb rfl) rfl) ?_)
   refine TriL.g1 rfl (ltb rfl) rfl (by rw [(h16 (by have := of_decide_eq_true hc2; simp only [List.length_map] at this; omega))]; rfl) (op_lens (ltb rfl) un9_q rfl) ?_
   refine TriL.g1 rfl (ltb rfl) rfl (by rw [(h16 (by have := of_decide_eq_true hc2; simp only [List.length_map] at this; omega))]; rfl) (op_bin (ltb rfl) rfl rfl rfl) ?_
   refine TriL.c1 rfl (op_pickt (ltb rfl) rfl (by rw [(h16 (by have := of_decide_eq_true hc2; simp only [List.length_map] at this; omega))]; rfl) rfl) ?_
   refine TriL.c1 rfl (op_mv (ltb rfl) rfl) ?_
   refine TriL.g1 rfl (ltb rfl) rfl (by simp) (op_call (ltb rfl) fn6_q rfl live_pure) ?_
   refine TriL.c1 rfl (op_pickt (ltb rfl) rfl (by simp) rfl) ?_
   refine TriL.c1 rfl (op_as (ltb rfl) rfl) ?_
   refine TriL.nil (Tri.ret ?_)
   exact ⟨.inr rfl, (ResOK.r1 rfl (.tmp rfl .nil)).cast rfl, rfl⟩
  ·refine Tri.skip (Tri.seq (Tri.region ?_))
   refine TriL.c1 rfl (op_mv (ltb rfl) rfl) ?_
   refine TriL.c1 rfl (op_call (ltb rfl) fn10_q rfl (num_pure _)) ?_
   refine TriL.c1 rfl (op_bin (ltb rfl) rfl rfl rfl) ?_
   refine TriL.c1 rfl (op_mv (ltb rfl) rfl) ?_
   iterate 2 (refine TriL.g1 rfl (ltb rfl) rfl (by rw [(h17 (by have := of_decide_eq_false hc2; simp only [List.length_map] at this; omega)).1]; rfl) (op_mv (ltb rfl) rfl) ?_)
   refine TriL.g1 rfl (ltb rfl) rfl (by rw [(h17 (by have := of_decide_eq_false hc2; simp only [List.length_map] at this; omega)).1]; rfl) (op_lens (ltb rfl) un9_q rfl) ?_
   refine TriL.g1 rfl (ltb rfl) rfl (by rw [(h17 (by have := of_decide_eq_false hc2; simp only [List.length_map] at this; omega)).1]; rfl) (op_bin (ltb rfl) rfl rfl rfl) ?_
   refine TriL.c1 rfl (op_pickt (ltb rfl) rfl (by rw [(h17 (by have := of_decide_eq_false hc2; simp only [List.length_map] at this; omega)).1]; rfl) rfl) ?_
   refine TriL.c1 rfl (op_mv (ltb rfl) rfl) ?_
   iterate 2 (refine TriL.g1 rfl (ltb rfl) rfl (by simp) (op_mv (ltb rfl) rfl) ?_)
   refine TriL.g1 rfl (ltb rfl) rfl (by simp) (op_call (ltb rfl) fn9_q rfl (same_self2 (h17 (by have := of_decide_eq_false hc2; simp only [List.length_map] at this; omega)).2 (by have := hl.n; omega) (fun x hx => by have := (hl.b x hx).2.2.2.1; omega) hm)) ?_
   refine TriL.c1 rfl (op_pickt (ltb rfl) rfl (by simp) rfl) ?_
   refine TriL.c1 rfl (op_mv (ltb rfl) rfl) ?_
   refine TriL.g1 rfl (ltb rfl) rfl rfl (op_call (ltb rfl) fn6_q rfl live_pure) ?_
   refine TriL.c1 rfl (op_pickt (ltb rfl) rfl rfl rfl) ?_
   refine TriL.c1 rfl (op_as (ltb rfl) rfl) ?_
   refine TriL.nil (Tri.ret ?_)
   exact ⟨.inr rfl, (ResOK.r1 rfl (.tmp rfl .nil)).cast rfl, rfl⟩
theorem back_d (l : List Stp) (h : 0 < l.length) (s : Str) (hne : s ≠ []) (z : List Stp) (e : Int) (hl : In l) (hm : ∀ x ∈ l, x.dv.m = []) (hS : Pure Tryz.prog 11 [.sl (l.map Stp.av)] (.bool true)) (hA : Pure Tryz.prog 12 [.sl (l.map Stp.av)] (.str s)) (hP0 : s.length ≤ 6000 → Pure Tryz.prog 7 [.str s] (.tup [.sl (z.map Stp.av), .int .i64 (s.length : Int), .int .i64 e])) (h16 : 16 < l.length → e = 4) (h17 : ¬ 16 < l.length → e = 0 ∧ z = l) : Pure Tryz.prog 4 [.sl (l.map Stp.av)] (.bool true) := by
 refine Pure.of_tri Tryz.func4 rfl rfl (ltb rfl) fun H => ?_
 refine Tri.seq (Tri.region ?_)
 refine TriL.c1 rfl (op_as (ltb rfl) rfl) ?_
 refine TriL.nil (Tri.seq (Tri.seq (Tri.region ?_)))
 refine TriL.c1 rfl (op_mv (ltb rfl) rfl) ?_
 refine TriL.c1 rfl (op_call (ltb rfl) fn11_q rfl hS) ?_
 refine TriL.c1 rfl (op_un (ltb rfl) rfl rfl) ?_
 refine TriL.c1 rfl (op_mv (ltb rfl) rfl) ?_
 refine TriL.g1 rfl (ltb rfl) rfl (congrArg not rfl) (op_mv (ltb rfl) rfl) ?_
 refine TriL.g1 rfl (ltb rfl) rfl (congrArg not rfl) (op_lenl (ltb rfl) un23_q rfl) ?_
 refine TriL.g1 rfl (ltb rfl) rfl (congrArg not rfl) (op_bin (ltb rfl) rfl rfl rfl) ?_
 refine TriL.g1 rfl (ltb rfl) rfl (congrArg not rfl) (op_mv (ltb rfl) rfl) ?_
 refine TriL.g1 rfl (ltb rfl) rfl (by simpa using h) (op_mv (ltb rfl) rfl) ?_
 refine TriL.g1 rfl (ltb rfl) rfl (by simpa using h) (op_call (ltb rfl) fn12_q rfl hA) ?_
 refine TriL.g1 rfl (ltb rfl) rfl (by simpa using h) (op_bin (ltb rfl) rfl rfl rfl) ?_
 refine TriL.g1 rfl (ltb rfl) rfl (congrArg not rfl) (op_pickt (ltb rfl) rfl (by simpa using h) rfl) ?_
 refine TriL.c1 rfl (op_pickf (ltb rfl) rfl (congrArg not rfl) rfl) ?_
 refine TriL.nil ?_
 refine Tri.condF rfl (by simpa using hne) ?_
 refine Tri.skip (Tri.seq (Tri.region ?_))
 refine TriL.c1 rfl (op_mv (ltb rfl) rfl) ?_
 refine TriL.c1 rfl (op_call (ltb rfl) fn12_q rfl hA) ?_
 refine TriL.c1 rfl (op_as (ltb rfl) rfl) ?_
 refine TriL.nil (Tri.seq (Tri.seq (Tri.region ?_)))
 refine TriL.c1 rfl (op_mv (ltb rfl) rfl) ?_
 refine TriL.c1 rfl (op_lens (ltb rfl) un9_q rfl) ?_
 refine TriL.c1 rfl (op_bin (ltb rfl) rfl rfl rfl) ?_
 refine TriL.nil ?_
 refine Tri.cond rfl (fun hc1 => ?_) (fun hc1 => ?_)
 ·refine Tri.seq (Tri.region ?_)
  refine TriL.c1 rfl (op_call (ltb rfl) fn6_q rfl live_pure) ?_
  refine TriL.c1 rfl (op_as (ltb rfl) rfl) ?_
  refine TriL.nil (Tri.ret ?_)
  exact ⟨.inr rfl, (ResOK.r1 rfl (.tmp rfl .nil)).cast rfl, rfl⟩
 ·refine Tri.skip (Tri.seq (Tri.region ?_))
  refine TriL.c1 rfl (op_mv (ltb rfl) rfl) ?_
  refine TriL.c1 rfl (op_call (ltb rfl) fn7_q rfl (hP0 (by have := of_decide_eq_false hc1; omega))) ?_
  refine TriL.c1 rfl (op_mv (ltb rfl) rfl) ?_
  iterate 3 (refine TriL.c1 rfl (op_ext (ltb rfl) rfl rfl) ?_)
  iterate 3 (refine TriL.c1 rfl (op_as (ltb rfl) rfl) ?_)
  refine TriL.nil (Tri.seq (Tri.seq (Tri.region ?_)))
  refine TriL.c1 rfl (op_mv (ltb rfl) rfl) ?_
  refine TriL.c1 rfl (op_lenl (ltb rfl) un23_q rfl) ?_
  refine TriL.c1 rfl (op_bin (ltb rfl) rfl rfl rfl) ?_
  refine TriL.nil ?_
  refine Tri.cond rfl (fun hc2 => ?_) (fun hc2 => ?_)
  ·refine Tri.seq (Tri.region ?_)
   refine TriL.c1 rfl (op_mv (ltb rfl) rfl) ?_
   refine TriL.c1 rfl (op_call (ltb rfl) fn10_q rfl (num_pure _)) ?_
   refine TriL.c1 rfl (op_bin (ltb rfl) rfl rfl rfl) ?_
   refine TriL.c1 rfl (op_mv (ltb rfl) rfl) ?_
   iterate 2 (refine TriL.g1 rfl (ltb rfl) rfl (by rw [(h16 (by have := of_decide_eq_true hc2; simp only [List.length_map] at this; omega))]; rfl) (op_mv (ltb rfl) rfl) ?_)
   refine TriL.g1 rfl (ltb rfl) rfl (by rw [(h16 (by have := of_decide_eq_true hc2; simp only [List.length_map] at this; omega))]; rfl) (op_lens (ltb rfl) un9_q rfl) ?_
   refine TriL.g1 rfl (ltb rfl) rfl (by rw [(h16 (by have := of_decide_eq_true hc2; simp only [List.length_map] at this; omega))]; rfl) (op_bin (ltb rfl) rfl rfl rfl) ?_
   refine TriL.c1 rfl (op_pickt (ltb rfl) rfl (by rw [(h16 (by have := of_decide_eq_true hc2; simp only [List.length_map] at this; omega))]; rfl) rfl) ?_
   refine TriL.c1 rfl (op_mv (ltb rfl) rfl) ?_
   refine TriL.g1 rfl (ltb rfl) rfl (by simp) (op_call (ltb rfl) fn6_q rfl live_pure) ?_
   refine TriL.c1 rfl (op_pickt (ltb rfl) rfl (by simp) rfl) ?_
   refine TriL.c1 rfl (op_as (ltb rfl) rfl) ?_
   refine TriL.nil (Tri.ret ?_)
   exact ⟨.inr rfl, (ResOK.r1 rfl (.tmp rfl .nil)).cast rfl, rfl⟩
  ·refine Tri.skip (Tri.seq (Tri.region ?_))
   refine TriL.c1 rfl (op_mv (ltb rfl) rfl) ?_
   refine TriL.c1 rfl (op_call (ltb rfl) fn10_q rfl (num_pure _)) ?_
   refine TriL.c1 rfl (op_bin (ltb rfl) rfl rfl rfl) ?_
   refine TriL.c1 rfl (op_mv (ltb rfl) rfl) ?_
   iterate 2 (refine TriL.g1 rfl (ltb rfl) rfl (by rw [(h17 (by have := of_decide_eq_false hc2; simp only [List.length_map] at this; omega)).1]; rfl) (op_mv (ltb rfl) rfl) ?_)
   refine TriL.g1 rfl (ltb rfl) rfl (by rw [(h17 (by have := of_decide_eq_false hc2; simp only [List.length_map] at this; omega)).1]; rfl) (op_lens (ltb rfl) un9_q rfl) ?_
   refine TriL.g1 rfl (ltb rfl) rfl (by rw [(h17 (by have := of_decide_eq_false hc2; simp only [List.length_map] at this; omega)).1]; rfl) (op_bin (ltb rfl) rfl rfl rfl) ?_
   refine TriL.c1 rfl (op_pickt (ltb rfl) rfl (by rw [(h17 (by have := of_decide_eq_false hc2; simp only [List.length_map] at this; omega)).1]; rfl) rfl) ?_
   refine TriL.c1 rfl (op_mv (ltb rfl) rfl) ?_
   iterate 2 (refine TriL.g1 rfl (ltb rfl) rfl (by simp) (op_mv (ltb rfl) rfl) ?_)
   refine TriL.g1 rfl (ltb rfl) rfl (by simp) (op_call (ltb rfl) fn9_q rfl (same_self2 (h17 (by have := of_decide_eq_false hc2; simp only [List.length_map] at this; omega)).2 (by have := hl.n; omega) (fun x hx => by have := (hl.b x hx).2.2.2.1; omega) hm)) ?_
   refine TriL.c1 rfl (op_pickt (ltb rfl) rfl (by simp) rfl) ?_
   refine TriL.c1 rfl (op_mv (ltb rfl) rfl) ?_
   refine TriL.g1 rfl (ltb rfl) rfl rfl (op_call (ltb rfl) fn6_q rfl live_pure) ?_
   refine TriL.c1 rfl (op_pickt (ltb rfl) rfl rfl rfl) ?_
   refine TriL.c1 rfl (op_as (ltb rfl) rfl) ?_
   refine TriL.nil (Tri.ret ?_)
   exact ⟨.inr rfl, (ResOK.r1 rfl (.tmp rfl .nil)).cast rfl, rfl⟩
theorem back_law (l : List Stp) (hl : In l) : Pure Tryz.prog 4 [.sl (l.map Stp.av)] (.bool true) := by
 have hS := r_ssmall l hl.n fun x hx => ⟨(hl.b x hx).2.2.2.1, (hl.b x hx).2.2.2.2⟩
 cases eS : smallS l with
 | false => rw [eS] at hS; exact back_a l hS
 | true =>
  rw [eS] at hS
  have hb := hl.bigs eS
  have hA := r_alltext l hb
  by_cases h0 : 0 < l.length ∧ allT l = []
  ·rw [h0.2] at hA; exact back_b l h0.1 hS hA
  ·have hr := right_of (l := l) (by
    by_cases e : l = []
    ·exact .inl e
    ·refine .inr fun e2 => h0 ⟨?_, e2⟩
     cases l with
     | nil => exact absurd rfl e
     | cons => simp)
   have hR : ∀ x ∈ l, x.right = true := fun x hx => List.all_eq_true.1 hr x hx
   have hrs : ∀ x ∈ l, RS x := fun x hx => RS.of (hR x hx) (hl.b x hx).1
   have eA : allT l = render (allPcs l) := by unfold allT; rw [if_pos hr]
   have hP0 : (allT l).length ≤ 6000 → Pure Tryz.prog 7 [.str (allT l)] (.tup [.sl ((if 16 < l.length then [] else l).map Stp.av), .int .i64 ((allT l).length : Int), .int .i64 (if 16 < l.length then 4 else 0)]) := by
    intro h6
    have hp := parse_pure (allT l) (by omega)
    have := mparse_all (fun x hx => (hrs x hx).good) hR (eA ▸ h6)
    rw [← eA] at this
    unfold parseV at hp
    rw [this] at hp
    split at hp <;> rename_i hh
    ·rw [if_pos hh, if_pos hh]; exact hp
    ·rw [if_neg hh, if_neg hh]; exact hp
   have hm : ∀ x ∈ l, x.dv.m = [] := fun x hx => (hrs x hx).m0
   by_cases hz : l.length = 0
   ·exact back_c l hz _ _ _ hl hm hS hA hP0 (fun h => if_pos h) (fun h => ⟨if_neg h, if_neg h⟩)
   ·exact back_d l (by omega) _ (fun e => h0 ⟨by omega, e⟩) _ _ hl hm hS hA hP0 (fun h => if_pos h) (fun h => ⟨if_neg h, if_neg h⟩)
/- How much a value holds. No condition. -/
structure Tree.fit1 (t : Tree) : Prop where
 s : t.slots.length ≤ 140737488355328
 r : t.rest.length ≤ 140737488355328
 v : ∀ x ∈ t.slots, x.vals.length ≤ 140737488355328
 m : ∀ x ∈ t.slots, ∀ v ∈ x.vals, v.m.length ≤ 140737488355328
 vs : ∀ x ∈ t.slots, ∀ v ∈ x.vals, v.s.length ≤ 140737488355328
 vn : ∀ x ∈ t.slots, ∀ v ∈ x.vals, v.n < 18446744073709551616
 rs : ∀ r ∈ t.rest, r.s.length ≤ 140737488355328
 rn : ∀ r ∈ t.rest, r.n < 18446744073709551616
def Tree.fits (t : Tree) : Prop := t.Every Tree.fit1
theorem Tree.fits.big {t : Tree} (h : t.fits) : t.big := fun u hu => by
 have h1 := h u hu
 exact ⟨Nat.le_trans h1.s (by omega), Nat.le_trans h1.r (by omega), fun x hx => Nat.le_trans (h1.v x hx) (by omega), fun x hx v hv => Nat.le_trans (h1.m x hx v hv) (by omega), fun x hx v hv => Nat.le_trans (h1.vs x hx v hv) (by omega), h1.vn, fun r hr => Nat.le_trans (h1.rs r hr) (by omega), h1.rn⟩
/- Whatever comes in of a plain type is one: the pieces, and values. No condition. -/
section
variable {P : Program} {n : Nat} {t e : TypeId} {acs : List AV}
theorem ty_int {k : IntKind} (hu : P.underlying t = some (.int k)) (h : Ty P n t acs) : ∃ m, acs = [.int k m] ∧ (Lit.int k m).wf = true := by
 cases n with
 | zero => exact h.elim
 | succ n => unfold Ty at h; rw [hu] at h; exact h
theorem ty_str (hu : P.underlying t = some .string) (h : Ty P n t acs) : ∃ s : Str, acs = [.str s] ∧ s.length ≤ 140737488355328 := by
 cases n with
 | zero => exact h.elim
 | succ n => unfold Ty at h; rw [hu] at h; obtain ⟨s, h1, h2⟩ := h; exact ⟨s, h1, by unfold reachBytes at h2; omega⟩
theorem ty_slice (hu : P.underlying t = some (.slice e)) (hb : 1 ≤ P.bytesOf e) (h : Ty P n t acs) : ∃ (k : Nat) (css : List (List AV)), k < n ∧ acs = [.sl (css.map (pack P e))] ∧ css.length ≤ 140737488355328 ∧ ∀ c ∈ css, Ty P k e c := by
 cases n with
 | zero => exact h.elim
 | succ n =>
  unfold Ty at h; rw [hu] at h
  obtain ⟨css, h1, h2, h3⟩ := h
  refine ⟨n, css, by omega, h1, ?_, h3⟩
  have : css.length * 1 ≤ css.length * P.bytesOf e := Nat.mul_le_mul_left _ hb
  unfold reachBytes at h2
  omega
theorem ty_struct {fs : Array Field} (hu : P.underlying t = some (.struct fs)) (h : Ty P n t acs) : ∃ k, k < n ∧ TyF P (Ty P k) (fs.toList.map (·.type)) acs := by
 cases n with
 | zero => exact h.elim
 | succ n => unfold Ty at h; rw [hu] at h; exact ⟨n, by omega, h⟩
theorem tyf_cons {R : TypeId → List AV → Prop} {t : TypeId} {ts : List TypeId} (h : TyF P R (t :: ts) acs) : ∃ a b, acs = a ++ b ∧ R t a ∧ TyF P R ts b := by
 obtain ⟨a, b, h1, _, h3, h4⟩ := h; exact ⟨a, b, h1, h3, h4⟩
theorem tyf_nil {R : TypeId → List AV → Prop} (h : TyF P R [] acs) : acs = [] := h
theorem pack_struct {fs : Array Field} (hu : P.underlying t = some (.struct fs)) (cs : List AV) : pack P t cs = .agg cs := by unfold pack; rw [hu]
theorem list_of {α : Type} {f : α → List AV} {Q : α → Prop} : ∀ {css : List (List AV)}, (∀ c ∈ css, ∃ x : α, c = f x ∧ Q x) → ∃ xs : List α, css = xs.map f ∧ ∀ x ∈ xs, Q x
 | [], _ => ⟨[], rfl, by simp⟩
 | c :: css, h => by
  obtain ⟨x, h1, h2⟩ := h c (by simp)
  obtain ⟨xs, h3, h4⟩ := list_of (css := css) fun c hc => h c (by simp [hc])
  exact ⟨x :: xs, by simp [h1, h3], by intro y hy; rcases List.mem_cons.1 hy with rfl | hy; exact h2; exact h4 y hy⟩
end
theorem map_pack {α : Type} {P : Program} {t : TypeId} {f : α → List AV} {g : α → AV} (h : ∀ x, pack P t (f x) = g x) (xs : List α) : (xs.map f).map (pack P t) = xs.map g := by
 rw [List.map_map]; congr 1; funext x; exact h x
theorem wfU64 {m : Int} (h : (Lit.int .u64 m).wf = true) : ∃ k : Nat, m = (k : Int) ∧ k < 18446744073709551616 := by
 have : 0 ≤ m ∧ m ≤ 18446744073709551615 := by simpa [Lit.wf, IntKind.min, IntKind.max, IntKind.signed, IntKind.bits] using h
 exact ⟨m.toNat, by omega, by omega⟩
abbrev TY := Ty Tryz.prog
theorem ty_raw {n : Nat} {acs : List AV} (h : TY n 126 acs) : ∃ f : Rw, acs = f.cells ∧ f.s.length ≤ 140737488355328 ∧ f.n < 18446744073709551616 := by
 obtain ⟨k, _, h⟩ := ty_struct Tryz.underlying126 h
 obtain ⟨a1, b1, rfl, h1, wa1⟩ := tyf_cons h; obtain ⟨s1, rfl, _⟩ := ty_int Tryz.underlying3 h1
 obtain ⟨a2, b2, rfl, h1, wa2⟩ := tyf_cons wa1; obtain ⟨s2, rfl, _⟩ := ty_int Tryz.underlying3 h1
 obtain ⟨a3, b3, rfl, h1, wa3⟩ := tyf_cons wa2; obtain ⟨s3, rfl, w3⟩ := ty_int Tryz.underlying41 h1
 obtain ⟨a4, b4, rfl, h1, wa4⟩ := tyf_cons wa3; obtain ⟨s4, rfl, w4⟩ := ty_str Tryz.underlying9 h1
 obtain rfl := tyf_nil wa4
 obtain ⟨k3, rfl, hk⟩ := wfU64 w3
 exact ⟨⟨s1, s2, k3, s4⟩, rfl, w4, hk⟩
theorem pk_raw (f : Rw) : pack Tryz.prog 126 f.cells = f.av := pack_struct Tryz.underlying126 _
theorem pk_val (f : Val) : pack Tryz.prog 44 f.cells = f.av := by rw [pack_struct Tryz.underlying44, Val.av_eq]
theorem pk_slot (f : Slot) : pack Tryz.prog 55 f.cells = f.av := by rw [pack_struct Tryz.underlying55, Slot.av_eq]
theorem pk_tree (f : Tree) : pack Tryz.prog 59 f.cells = f.av := by rw [pack_struct Tryz.underlying59, Tree.av_eq]
def Val.fits (v : Val) : Prop := v.n < 18446744073709551616 ∧ v.s.length ≤ 140737488355328 ∧ v.m.length ≤ 140737488355328 ∧ ∀ u ∈ v.m, u.fits
def Slot.fits (x : Slot) : Prop := x.vals.length ≤ 140737488355328 ∧ ∀ v ∈ x.vals, v.fits
theorem ty_val {n : Nat} {acs : List AV} (ih : ∀ k < n, ∀ acs, TY k 59 acs → ∃ t : Tree, acs = t.cells ∧ t.fits) (h : TY n 44 acs) : ∃ v : Val, acs = v.cells ∧ v.fits := by
 obtain ⟨k, hk, h⟩ := ty_struct Tryz.underlying44 h
 obtain ⟨a1, b1, rfl, h1, wa1⟩ := tyf_cons h; obtain ⟨s1, rfl, w1⟩ := ty_int Tryz.underlying41 h1
 obtain ⟨a2, b2, rfl, h1, wa2⟩ := tyf_cons wa1; obtain ⟨s2, rfl, w2⟩ := ty_str Tryz.underlying9 h1
 obtain ⟨a3, b3, rfl, h1, wa3⟩ := tyf_cons wa2; obtain ⟨k3, l3, hk3, rfl, e3, h3⟩ := ty_slice Tryz.underlying42 (by decide +kernel) h1
 obtain rfl := tyf_nil wa3
 obtain ⟨k1, rfl, hk1⟩ := wfU64 w1
 obtain ⟨xs, rfl, hx⟩ := list_of (f := Tree.cells) (Q := Tree.fits) fun c hc => ih k3 (by omega) c (h3 c hc)
 rw [map_pack pk_tree]
 exact ⟨.mk k1 s2 xs, rfl, hk1, w2, by rw [List.length_map] at e3; exact e3, hx⟩
theorem ty_slot {n : Nat} {acs : List AV} (ih : ∀ k < n, ∀ acs, TY k 59 acs → ∃ t : Tree, acs = t.cells ∧ t.fits) (h : TY n 55 acs) : ∃ v : Slot, acs = v.cells ∧ v.fits := by
 obtain ⟨k, hk, h⟩ := ty_struct Tryz.underlying55 h
 obtain ⟨a1, b1, rfl, h1, wa1⟩ := tyf_cons h; obtain ⟨s1, rfl, w1⟩ := ty_int Tryz.underlying3 h1
 obtain ⟨a3, b3, rfl, h1, wa3⟩ := tyf_cons wa1; obtain ⟨k3, l3, hk3, rfl, e3, h3⟩ := ty_slice Tryz.underlying52 (by decide +kernel) h1
 obtain rfl := tyf_nil wa3
 obtain ⟨xs, rfl, hx⟩ := list_of (f := Val.cells) (Q := Val.fits) fun c hc => ty_val (n := k3) (fun j hj => ih j (by omega)) (h3 c hc)
 rw [map_pack pk_val]
 exact ⟨.mk s1 xs, rfl, by rw [List.length_map] at e3; exact e3, hx⟩
theorem ty_tree : ∀ (n : Nat) (acs : List AV), TY n 59 acs → ∃ t : Tree, acs = t.cells ∧ t.fits := by
 intro n
 induction n using Nat.strongRecOn with
 | _ n ih =>
  intro acs h
  obtain ⟨k, hk, h⟩ := ty_struct Tryz.underlying59 h
  obtain ⟨a1, b1, rfl, h1, wa1⟩ := tyf_cons h; obtain ⟨k1, l1, hk1, rfl, e1, h1⟩ := ty_slice Tryz.underlying56 (by decide +kernel) h1
  obtain ⟨a2, b2, rfl, h2, wa2⟩ := tyf_cons wa1; obtain ⟨k2, l2, hk2, rfl, e2, h2⟩ := ty_slice Tryz.underlying57 (by decide +kernel) h2
  obtain rfl := tyf_nil wa2
  obtain ⟨xs, rfl, hx⟩ := list_of (f := Slot.cells) (Q := Slot.fits) fun c hc => ty_slot (n := k1) (fun j hj => ih j (by omega)) (h1 c hc)
  obtain ⟨ys, rfl, hy⟩ := list_of (f := Rw.cells) (Q := fun r => r.s.length ≤ 140737488355328 ∧ r.n < 18446744073709551616) fun c hc => ty_raw (h2 c hc)
  rw [map_pack pk_slot, map_pack pk_raw]
  refine ⟨.mk xs ys, rfl, Tree.Every.mk ⟨by rw [List.length_map] at e1; exact e1, by rw [List.length_map] at e2; exact e2, fun x h => (hx x h).1, fun x h v hv => ((hx x h).2 v hv).2.2.1, fun x h v hv => ((hx x h).2 v hv).2.1, fun x h v hv => ((hx x h).2 v hv).1, fun r h => (hy r h).1, fun r h => (hy r h).2⟩ fun x h v hv => ((hx x h).2 v hv).2.2.2⟩
/- What a row that lists the library's tables, utf8's and the errors gives of the package variables (seats of X0M). No condition. -/
theorem fn2_q : isFn Tryz.prog 2 = true := by kernel_rfl
theorem laid_cons {P : Program} {W : World} {n : String} {d : DataW Unit} {r : List (String × DataW Unit)} {ps : List MemPlace} (h : DataW.LaidVars P W ((n, d) :: r) ps) :
  (∃ g t cs fuel p, P.globalNamed n = some g ∧ (P.globals[g]?).map (·.type) = some t ∧ W.var? P n = some cs ∧ DataW.trod (fun _ => ()) P W 0 (fun _ => true) false fuel t cs.toList = some (d, p)) ∧ ∃ q, DataW.LaidVars P W r q := by
 obtain ⟨g, t, cs, fuel, p, q, h1, h2, h3, h4, h5, _⟩ := h
 exact ⟨⟨g, t, cs, fuel, p, h1, h2, h3, h4⟩, q, h5⟩
/-- A row's wrap that keeps what is listed, the world's shape, and how much is reached. -/
theorem returns_sized {H : Type} {enc : TypeId × Value → H} {a : Assume} {C : Checked} {os : Os} {f : FuncId} {fn : Func} {s : ChangeSpec} {conds : List PathCond} {apart fresh handsOn again : Bool} {X : World → Array Value → Prop}
  (hX : ∀ (w w' : World) (args : Array Value), w.heap = w'.heap → X w args → X w' args) (own : ownKnob C.prog.godebug = none) (started : os.Started) (noInit : C.prog.inits.idxOf? f = none) (hfn : C.prog.funcs[f]? = some fn)
  (witness : ∃ (w : World) (tape : Tape) (i : Input), w.os = os ∧ (w.forCall tape i).Shaped C.prog ∧ i.vars = [] ∧ Input.okWide C.prog (w.forCall tape i) .any w.heap.size f i ∧
   ((s.pre enc C.prog fn conds apart (w.forCall tape i).memory i.args ∧ X (w.forCall tape i).memory i.args) ∧ sizedMet enc C.prog fn (OpenSpec.ofChange s) apart (w.forCall tape i).memory i.args) ∧ a.holds C.prog (lone (Frame.enter C.prog f i.args .normal) [] (w.forCall tape i)))
  (contract : ∀ (W : World) (base : Nat) (args : Array Value) (ds gs : List (DataW H)) (before : List MemPlace), (∀ (j : Nat) t v, fn.params[j]? = some t → args[j]? = some v → Value.okWide C.prog W .any base t v) →
   DataW.Whole enc C.prog fn.params.toList s.vars apart W args.toList ds gs before → (DataW.weightsEach C.prog (fn.params.toList ++ s.plain.varTypes C.prog) (ds ++ gs)).all (· ≤ reachBytes) = true → X W args → W.ShapedOpen C.prog →
   Calls C.prog f args W fun e W' => ∃ v, e = .returned v ∧ s.post enc C.prog fn apart fresh handsOn again W args v W') :
  ReturnsInHanded a C os f .any (fun w args => (s.pre enc C.prog fn conds apart w args ∧ X w args) ∧ sizedMet enc C.prog fn (OpenSpec.ofChange s) apart w args) (s.post enc C.prog fn apart fresh handsOn again) := by
 refine returnsInHanded_of_calls own started noInit witness fun w tape i _ hsh _ hok hpre _ => ?_
 obtain ⟨_, _, _, fn2_q, hfn2, _, _, _, _, hval⟩ := hok
 cases Option.some.inj (hfn2.symm.trans hfn)
 obtain ⟨⟨⟨ds, gs, before, hw, _⟩, hx⟩, hz⟩ := hpre
 refine (contract (w.forCall tape i) w.heap.size i.args ds gs before hval (DataW.Whole.of_heap (w' := w.forCall tape i) (by rfl) hw) (hz.weights hw) (hX _ _ _ (by rfl) hx) hsh).mono ?_
 rintro e W' ⟨v, rfl, hp⟩
 exact ChangeSpec.post_blind hp
theorem gErrS : Tryz.prog.globalNamed "strconv.ErrSyntax" = some 3 := by kernel_rfl
theorem gErrR : Tryz.prog.globalNamed "strconv.ErrRange" = some 4 := by kernel_rfl
theorem tErrS : (Tryz.prog.globals[3]?).map (·.type) = some 168 := by kernel_rfl
theorem tErrR : (Tryz.prog.globals[4]?).map (·.type) = some 168 := by kernel_rfl
theorem tPow : (Tryz.prog.globals[5]?).map (·.type) = some 242 := by kernel_rfl
theorem gDB : Tryz.prog.globalNamed "math/bits.deBruijn64tab" = some 7 := by kernel_rfl
/-- an error's variable -/
theorem err_cell {W : World} {n : String} {g : Nat} {name : String} {d : DataW Unit} {r : List (String × DataW Unit)} {ps : List MemPlace} (hg : Tryz.prog.globalNamed n = some g) (ht : (Tryz.prog.globals[g]?).map (·.type) = some 168)
  (h : DataW.LaidVars Tryz.prog W ((n, .iface name d) :: r) ps) : ∃ te pe, W.cell? ⟨g, 0, none⟩ = some (.iface te pe) := by
 obtain ⟨⟨g', t, cs, fuel, p, h1, h2, h3, h4⟩, _⟩ := laid_cons h
 obtain rfl := Option.some.inj (hg.symm.trans h1)
 obtain rfl := Option.some.inj (ht.symm.trans h2)
 obtain ⟨_, u, v, h5, _, _⟩ := iface_of_trod Tryz.underlying168 h4
 refine ⟨u, v, ?_⟩
 rw [World.var?_cell hg h3 0, ← Array.getElem?_toList, h5]; rfl
theorem var_lt {P : Program} {W : World} {n : String} {g : Nat} {cs : Array Value} (hg : P.globalNamed n = some g) (h : W.var? P n = some cs) : g < W.heap.size := by
 simp only [World.var?, hg, Option.bind_some] at h
 split at h
 ·rename_i e; exact (Array.getElem?_eq_some_iff.1 e).1
 ·cases h
theorem pow_tab {W : World} {r : List (String × DataW Unit)} {ps : List MemPlace} (h : DataW.LaidVars Tryz.prog W (("internal/strconv.uint64pow10", Rows.laid_internal_strconv_uint64pow10) :: r) ps) :
  Lib.TabIs Tryz.prog W "internal/strconv.uint64pow10" .u64 Lib.pow10Tab := by
 obtain ⟨⟨g', t, cs, fuel, p, h1, h2, h3, h4⟩, _⟩ := laid_cons h
 obtain rfl := Option.some.inj (gPow.symm.trans h1)
 obtain rfl := Option.some.inj (tPow.symm.trans h2)
 have e : (Rows.laid_internal_strconv_uint64pow10 : DataW Unit) = Lib.tabData .u64 Lib.pow10Tab := by rfl
 rw [e] at h4
 unfold Lib.TabIs
 rw [h3, ← Lib.cells_of_tab Tryz.underlying242 Tryz.underlying41 (by kernel_rfl) (by kernel_rfl) h4]
theorem maxLen_cell {W : World} (h : W.ShapedOpen Tryz.prog) : ∃ m, W.cell? ⟨2, 0, none⟩ = some (.int .i64 m) :=
 Go.Proofs.cell_of_shapedOpen_int (zero := #[.int .i64 0]) (t := 3) h (of_decide_eq_true (by kernel_rfl)) (by kernel_rfl) rfl (by kernel_rfl) (by kernel_rfl) Tryz.underlying3
abbrev laid7 : List (String × DataW Unit) := [("math/bits.deBruijn32tab", Rows.laid_math_bits_deBruijn32tab), ("math/bits.deBruijn64tab", Rows.laid_math_bits_deBruijn64tab), ("internal/strconv.uint64pow10", Rows.laid_internal_strconv_uint64pow10), ("unicode/utf8.acceptRanges", Rows.laid_unicode_utf8_acceptRanges), ("strconv.ErrRange", Rows.laid_strconv_ErrRange), ("strconv.ErrSyntax", Rows.laid_strconv_ErrSyntax), ("unicode/utf8.first", Rows.laid_unicode_utf8_first)]
theorem acceptD : (Rows.laid_unicode_utf8_acceptRanges : DataW Unit) = Lib.acceptData := by rfl
theorem firstD : (Rows.laid_unicode_utf8_first : DataW Unit) = Lib.firstData := by rfl
theorem known7 {W : World} (h : laidMetH Tryz.prog laid7 W) (hs : W.ShapedOpen Tryz.prog) : gok W ∧ gN ≤ W.heap.size := by
 rw [MakeChecks.laidMetH_plain _ _ _ (by kernel_rfl)] at h
 have h1 : Lib.VarReads Tryz.prog W "unicode/utf8.first" Lib.firstData := firstD ▸ Lib.laidMet.reads h (by simp [laid7])
 have h2 : Lib.VarReads Tryz.prog W "unicode/utf8.acceptRanges" Lib.acceptData := acceptD ▸ Lib.laidMet.reads h (by simp [laid7])
 have h3 := utf8Tabs_of_readsT (ρ := Tryz.laysVS_ren) (U8Types.of196 Tryz.laysVS) ⟨by kernel_rfl, by kernel_rfl, by kernel_rfl, by kernel_rfl, by kernel_rfl, by kernel_rfl, by kernel_rfl⟩ h1 h2
 obtain ⟨ps, h, _⟩ := h
 obtain ⟨_, q1, l1⟩ := laid_cons h
 obtain ⟨⟨g, t, cs, fuel, p, k1, _, k3, _⟩, q2, l2⟩ := laid_cons l1
 obtain ⟨_, q3, l3⟩ := laid_cons l2
 obtain ⟨_, q4, l4⟩ := laid_cons l3
 obtain ⟨_, q5, l5⟩ := laid_cons l4
 have := var_lt gDB k3
 exact ⟨⟨h3, err_cell gErrS tErrS l5, err_cell gErrR tErrR l4, pow_tab l2, maxLen_cell hs⟩, this⟩
/- Whatever comes in as steps is steps. No condition. -/
theorem pk_str (s : Str) : pack Tryz.prog 9 [.str s] = .str s := by unfold pack; rw [Tryz.underlying9]; rfl
theorem ty_stp {n : Nat} {acs : List AV} (h : TY n 46 acs) : ∃ x : Stp, acs = x.cells ∧ x.dv.fits ∧ x.names.length ≤ 140737488355328 := by
 obtain ⟨k, _, h⟩ := ty_struct Tryz.underlying46 h
 obtain ⟨a1, b1, rfl, h1, wa1⟩ := tyf_cons h; obtain ⟨s1, rfl, _⟩ := ty_int Tryz.underlying3 h1
 obtain ⟨a2, b2, rfl, h1, wa2⟩ := tyf_cons wa1; obtain ⟨s2, rfl, _⟩ := ty_str Tryz.underlying9 h1
 obtain ⟨a3, b3, rfl, h1, wa3⟩ := tyf_cons wa2; obtain ⟨s3, rfl, _⟩ := ty_str Tryz.underlying9 h1
 obtain ⟨a4, b4, rfl, h1, wa4⟩ := tyf_cons wa3; obtain ⟨s4, rfl, _⟩ := ty_str Tryz.underlying9 h1
 obtain ⟨a5, b5, rfl, h1, wa5⟩ := tyf_cons wa4; obtain ⟨s5, rfl, _⟩ := ty_str Tryz.underlying9 h1
 obtain ⟨a6, b6, rfl, h1, wa6⟩ := tyf_cons wa5; obtain ⟨s6, rfl, _⟩ := ty_int Tryz.underlying3 h1
 obtain ⟨a7, b7, rfl, h1, wa7⟩ := tyf_cons wa6; obtain ⟨s7, rfl, _⟩ := ty_int Tryz.underlying3 h1
 obtain ⟨a8, b8, rfl, h1, wa8⟩ := tyf_cons wa7; obtain ⟨s8, rfl, _⟩ := ty_int Tryz.underlying3 h1
 obtain ⟨a9, b9, rfl, h1, wa9⟩ := tyf_cons wa8; obtain ⟨k9, l9, _, rfl, e9, h9⟩ := ty_slice Tryz.underlying40 (by decide +kernel) h1
 obtain ⟨aA, bA, rfl, h1, waA⟩ := tyf_cons wa9; obtain ⟨v, rfl, hv⟩ := ty_val (fun j _ acs h => ty_tree j acs h) h1
 obtain rfl := tyf_nil waA
 obtain ⟨xs, rfl, _⟩ := list_of (f := fun s : Str => [AV.str s]) (Q := fun _ => True) fun c hc => (by obtain ⟨f, hf, _⟩ := ty_str Tryz.underlying9 (h9 c hc); exact ⟨f, hf, trivial⟩)
 rw [map_pack pk_str]
 exact ⟨⟨s1, s2, s3, s4, s5, s6, s7, s8, xs, v⟩, rfl, hv, by simpa using e9⟩
theorem pk_stp (x : Stp) : pack Tryz.prog 46 x.cells = x.av := pack_struct Tryz.underlying46 _
theorem fits_tree {x : Stp} (h : x.dv.fits) : x.tree.fits := by
 obtain ⟨h1, h2, h3, h4⟩ := h
 refine Tree.Every.mk ⟨?_, ?_, ?_, ?_, ?_, ?_, ?_, ?_⟩ ?_ <;> simp [Stp.tree, Tree.slots, Tree.rest, Slot.vals]
 ·exact h3
 ·exact h2
 ·exact h1
 ·exact h4
theorem ty_steps {n : Nat} {acs : List AV} (h : TY n 23 acs) : ∃ l : List Stp, acs = [.sl (l.map Stp.av)] ∧ In l := by
 obtain ⟨k, css, _, rfl, e, h3⟩ := ty_slice Tryz.underlying23 (by decide +kernel) h
 obtain ⟨xs, rfl, hx⟩ := list_of (f := Stp.cells) (Q := fun x => x.dv.fits ∧ x.names.length ≤ 140737488355328) fun c hc => ty_stp (h3 c hc)
 rw [map_pack pk_stp]
 refine ⟨xs, rfl, by simpa using e, fun x hm => ?_⟩
 obtain ⟨hf, hn⟩ := hx x hm
 obtain ⟨h1, h2, h3, h4⟩ := hf
 exact ⟨h1, ⟨Nat.le_trans h2 (by omega), fun t ht => (h4 t ht).big, Nat.le_trans hn (by omega)⟩, h2, hn, (fits_tree ⟨h1, h2, h3, h4⟩).big⟩
def plainP : List TypeId := [23, 46, 3, 9, 40, 41, 44, 42, 59, 56, 55, 52, 57, 126]
theorem plainP_ok : plainP.all (plainT Tryz.prog plainP) = true := by decide +kernel
section
variable {H : Type} {enc : TypeId × Value → H} {W : World}
theorem open_steps {r : Reach} {b0 : Nat} {v : Value} {d : DataW H} {ps : List MemPlace} (hval : Value.okWide Tryz.prog W r b0 23 v) (hd : DataW.Trod enc Tryz.prog W 0 (fun _ => true) true 23 v d ps) (hw : ∀ k ∈ d.weights Tryz.prog 23, k ≤ reachBytes) :
  ∃ l : List Stp, In l ∧ V (gh0 W) v (.sl (l.map Stp.av)) := by
 obtain ⟨acs, n, h1, h2⟩ := open_arg plainP plainP_ok (by decide) hval hd hw
 obtain ⟨l, rfl, hl⟩ := ty_steps h2
 refine ⟨l, hl, ?_⟩
 have e2 : ∀ x, pack Tryz.prog 23 [x] = x := fun x => by unfold pack; rw [Tryz.underlying23]; rfl
 rwa [e2] at h1
end
end Go.Proofs.YtabihkfhoohfnaaGreatDoor.X
