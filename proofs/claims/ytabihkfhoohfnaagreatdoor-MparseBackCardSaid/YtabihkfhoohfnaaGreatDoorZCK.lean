/- the statements of the migrations' texts: what they ask. -/
import Derived.Test.YtabihkfhoohfnaaGreatDoorZCJ
import Derived.Test.YtabihkfhoohfnaaGreatDoorZCE
import Derived.Test.YtabihkfhoohfnaaGreatDoorZCG
import Derived.Lib.Replace
import Derived.Lib.IndexBytes
import Derived.Lib.SplitLaws
set_option linter.unusedVariables false
set_option linter.unusedSimpArgs false
set_option linter.unusedSectionVars false
set_option maxRecDepth 100000
namespace Go.Proofs.YtabihkfhoohfnaaGreatDoor.X
open Go Go.RowKit Go.Proofs
theorem fn10_q : isFn Tryz.prog 10 = true := by kernel_rfl
theorem fn19_q : isFn Tryz.prog 19 = true := by kernel_rfl
theorem fn20_q : isFn Tryz.prog 20 = true := by kernel_rfl
theorem fn7_q : isFn Tryz.prog 7 = true := by kernel_rfl
theorem fn9_q : isFn Tryz.prog 9 = true := by kernel_rfl
theorem se52_q : se Tryz.prog 52 = some (44, 3, 48) := by kernel_rfl
theorem zAe52_q : zeroA Tryz.prog 44 = some [AV.int IntKind.u64 (0), AV.str [], AV.sl []] := by kernel_rfl
theorem names_self (a : List Str) (ha : a.length ≤ 9223372036854775807) : Pure Tryz.prog 19 [.sl (a.map .str), .sl (a.map .str)] (.bool true) := by
 refine Pure.of_tri Tryz.func19 rfl rfl (ltb rfl) fun H => ?_
 refine Tri.seq (Tri.region ?_)
 refine TriL.c1 rfl (op_as (ltb rfl) rfl) ?_
 refine TriL.nil (Tri.seq (Tri.seq (Tri.region ?_)))
 refine TriL.c1 rfl (op_mv (ltb rfl) rfl) ?_
 refine TriL.c1 rfl (op_lenl (ltb rfl) un40_q rfl) ?_
 refine TriL.c1 rfl (op_mv (ltb rfl) rfl) ?_
 refine TriL.c1 rfl (op_lenl (ltb rfl) un40_q rfl) ?_
 refine TriL.c1 rfl (op_bin (ltb rfl) rfl rfl rfl) ?_
 refine TriL.nil ?_
 refine Tri.condF rfl (by simp) ?_
 refine Tri.skip (Tri.seq (Tri.seq (Tri.region ?_)))
 refine TriL.c1 rfl (op_as (ltb rfl) rfl) ?_
 refine TriL.nil (Tri.blk ?_)
 refine Tri.ofKept (Kept.keep [.s 5, .h, .s 0, .s 1] rfl (by decide) (Kept.now ?_))
 -- LOOP 1
 refine Tri.loopk (fun (i : Nat) => [(.s 5, .sv (.v (.int .i64 (i : Int))))]) _ (fun (i : Nat) => True) (fun (i : Nat) => a.length - i) 0 rfl trivial ?_
 rintro i hI
 refine Tri.seq (Tri.seq (Tri.region ?_))
 iterate 2 (refine TriL.c1 rfl (op_mv (ltb rfl) rfl) ?_)
 refine TriL.c1 rfl (op_lenl (ltb rfl) un40_q rfl) ?_
 refine TriL.c1 rfl (op_bin (ltb rfl) rfl rfl rfl) ?_
 refine TriL.nil ?_
 refine Tri.cond rfl (fun hc1 => ?_) (fun hc1 => ?_)
 ·have hi := ltm hc1
  refine Tri.skip (Tri.seq (Tri.blk (Tri.seq ?_)))
  refine Tri.drawn mixed rfl ?_
  iterate 2 (refine TriD.c1 rfl (op_mv (ltb rfl) rfl) ?_)
  refine TriD.c1 rfl (op_iak (ltb rfl) ie40_q rfl rfl (Int.natCast_nonneg _) (ixm hi) rfl) ?_
  refine TriD.c1 rfl (op_ldk (ltb rfl) lk9_q rfl rfl) ?_
  iterate 2 (refine TriD.c1 rfl (op_mv (ltb rfl) rfl) ?_)
  refine TriD.c1 rfl (op_iak (ltb rfl) ie40_q rfl rfl (Int.natCast_nonneg _) (ixm hi) rfl) ?_
  refine TriD.c1 rfl (op_ldk (ltb rfl) lk9_q rfl rfl) ?_
  refine TriD.c1 rfl (op_bin (ltb rfl) rfl rfl rfl) ?_
  refine TriD.nil (by kernel_rfl) (Kept.now ?_)
  refine Tri.condF rfl (by simp) ?_
  refine Tri.skip (Tri.region ?_)
  refine TriL.c1 rfl (op_mv (ltb rfl) rfl) ?_
  refine TriL.c1 rfl (op_bin (ltb rfl) rfl rfl rfl) ?_
  refine TriL.c1 rfl (op_as (ltb rfl) rfl) ?_
  refine TriL.kept (Kept.seti 5 rfl (inc (by omega)) (Kept.keep [.s 5, .h, .s 0, .s 1] rfl (by decide) (Kept.now ?_)))
  exact ⟨i + 1, by omega, trivial, rfl⟩
 ·have hi := gem hc1
  refine Tri.exit (Tri.seq (Tri.region ?_))
  refine TriL.c1 rfl (op_as (ltb rfl) rfl) ?_
  refine TriL.nil (Tri.ret ?_)
  exact ⟨.inr rfl, (ResOK.r1 rfl (.tmp rfl .nil)).cast rfl, rfl⟩
theorem samevals_self (v : Val) (h : v.m = []) : Pure Tryz.prog 20 [.sl [.agg [.int .u64 (v.n : Int), .str v.s, .sl (v.m.map Tree.av)]], .sl [.agg [.int .u64 (v.n : Int), .str v.s, .sl (v.m.map Tree.av)]]] (.bool true) := by
 have := r_samevals1 [v] [v] (by simp) (fun u hu => by simp at hu; subst hu; rw [h]; simp) (fun u hu t ht => by simp at hu; subst hu; rw [h] at ht; cases ht)
 rw [show eqb [v] [v] = true from eqb_true.2 rfl] at this
 simp only [List.map_cons, List.map_nil, Val.av_eq] at this
 exact this
theorem same_self (a : List Stp) (ha : a.length ≤ 9223372036854775807) (hn : ∀ x ∈ a, x.names.length ≤ 9223372036854775807) (hm : ∀ x ∈ a, x.dv.m = []) : Pure Tryz.prog 9 [.sl (a.map Stp.av), .sl (a.map Stp.av)] (.bool true) := by
 refine Pure.of_tri Tryz.func9 rfl rfl (ltb rfl) fun H => ?_
 refine Tri.seq (Tri.region ?_)
 refine TriL.c1 rfl (op_as (ltb rfl) rfl) ?_
 refine TriL.nil (Tri.seq (Tri.seq (Tri.region ?_)))
 refine TriL.c1 rfl (op_mv (ltb rfl) rfl) ?_
 refine TriL.c1 rfl (op_lenl (ltb rfl) un23_q rfl) ?_
 refine TriL.c1 rfl (op_mv (ltb rfl) rfl) ?_
 refine TriL.c1 rfl (op_lenl (ltb rfl) un23_q rfl) ?_
 refine TriL.c1 rfl (op_bin (ltb rfl) rfl rfl rfl) ?_
 refine TriL.nil ?_
 refine Tri.condF rfl (by simp) ?_
 refine Tri.skip (Tri.seq (Tri.seq (Tri.region ?_)))
 refine TriL.c1 rfl (op_as (ltb rfl) rfl) ?_
 refine TriL.nil (Tri.blk ?_)
 refine Tri.ofKept (Kept.keep [.s 5, .h, .s 0, .s 1] rfl (by decide) (Kept.now ?_))
 -- LOOP 1
 refine Tri.loopk (fun (i : Nat) => [(.s 5, .sv (.v (.int .i64 (i : Int))))]) _ (fun (i : Nat) => True) (fun (i : Nat) => a.length - i) 0 rfl trivial ?_
 rintro i hI
 refine Tri.seq (Tri.seq (Tri.region ?_))
 iterate 2 (refine TriL.c1 rfl (op_mv (ltb rfl) rfl) ?_)
 refine TriL.c1 rfl (op_lenl (ltb rfl) un23_q rfl) ?_
 refine TriL.c1 rfl (op_bin (ltb rfl) rfl rfl rfl) ?_
 refine TriL.nil ?_
 refine Tri.cond rfl (fun hc1 => ?_) (fun hc1 => ?_)
 ·have hi := ltm hc1
  refine Tri.skip (Tri.seq (Tri.blk (Tri.seq ?_)))
  refine Tri.drawn mixed rfl ?_
  iterate 2 (refine TriD.c1 rfl (op_mv (ltb rfl) rfl) ?_)
  refine TriD.c1 rfl (op_iak (ltb rfl) ie23_q rfl rfl (Int.natCast_nonneg _) (ixmE (fun _ => rfl) hi) rfl) ?_
  refine TriD.c1 rfl (op_ldk (ltb rfl) lk46_q rfl rfl) ?_
  iterate 2 (refine TriD.c1 rfl (op_mv (ltb rfl) rfl) ?_)
  refine TriD.c1 rfl (op_iak (ltb rfl) ie23_q rfl rfl (Int.natCast_nonneg _) (ixmE (fun _ => rfl) hi) rfl) ?_
  refine TriD.c1 rfl (op_ldk (ltb rfl) lk46_q rfl rfl) ?_
  iterate 2 (refine TriD.c2 rfl (op_all (ltb rfl) zA46_q rfl) ?_)
  iterate 2 (refine TriD.c1 rfl (op_stl lk46_q rfl rfl rfl rfl rfl (leb rfl)) ?_)
  refine TriD.nil (by kernel_rfl) (Kept.now ?_)
  refine Tri.seq (Tri.seq (Tri.region ?_))
  refine TriL.c1 rfl (op_fal (ltb rfl) fo46_0_q rfl) ?_
  refine TriL.c1 rfl (op_ldl (ltb rfl) lk3_q rfl rfl rfl) ?_
  refine TriL.c1 rfl (op_fal (ltb rfl) fo46_0_q rfl) ?_
  refine TriL.c1 rfl (op_ldl (ltb rfl) lk3_q rfl rfl rfl) ?_
  refine TriL.c1 rfl (op_bin (ltb rfl) rfl rfl rfl) ?_
  refine TriL.c1 rfl (op_mv (ltb rfl) rfl) ?_
  refine TriL.g1 rfl (ltb rfl) rfl (by simp) (op_fal (ltb rfl) fo46_1_q rfl) ?_
  refine TriL.g1 rfl (ltb rfl) rfl (by simp) (op_ldl (ltb rfl) lk9_q rfl rfl rfl) ?_
  refine TriL.g1 rfl (ltb rfl) rfl (by simp) (op_fal (ltb rfl) fo46_1_q rfl) ?_
  refine TriL.g1 rfl (ltb rfl) rfl (by simp) (op_ldl (ltb rfl) lk9_q rfl rfl rfl) ?_
  refine TriL.g1 rfl (ltb rfl) rfl (by simp) (op_bin (ltb rfl) rfl rfl rfl) ?_
  refine TriL.c1 rfl (op_pickf (ltb rfl) rfl (by simp) rfl) ?_
  refine TriL.c1 rfl (op_mv (ltb rfl) rfl) ?_
  refine TriL.g1 rfl (ltb rfl) rfl (by simp) (op_fal (ltb rfl) fo46_2_q rfl) ?_
  refine TriL.g1 rfl (ltb rfl) rfl (by simp) (op_ldl (ltb rfl) lk9_q rfl rfl rfl) ?_
  refine TriL.g1 rfl (ltb rfl) rfl (by simp) (op_fal (ltb rfl) fo46_2_q rfl) ?_
  refine TriL.g1 rfl (ltb rfl) rfl (by simp) (op_ldl (ltb rfl) lk9_q rfl rfl rfl) ?_
  refine TriL.g1 rfl (ltb rfl) rfl (by simp) (op_bin (ltb rfl) rfl rfl rfl) ?_
  refine TriL.c1 rfl (op_pickf (ltb rfl) rfl (by simp) rfl) ?_
  refine TriL.c1 rfl (op_mv (ltb rfl) rfl) ?_
  refine TriL.g1 rfl (ltb rfl) rfl (by simp) (op_fal (ltb rfl) fo46_3_q rfl) ?_
  refine TriL.g1 rfl (ltb rfl) rfl (by simp) (op_ldl (ltb rfl) lk9_q rfl rfl rfl) ?_
  refine TriL.g1 rfl (ltb rfl) rfl (by simp) (op_fal (ltb rfl) fo46_3_q rfl) ?_
  refine TriL.g1 rfl (ltb rfl) rfl (by simp) (op_ldl (ltb rfl) lk9_q rfl rfl rfl) ?_
  refine TriL.g1 rfl (ltb rfl) rfl (by simp) (op_bin (ltb rfl) rfl rfl rfl) ?_
  refine TriL.c1 rfl (op_pickf (ltb rfl) rfl (by simp) rfl) ?_
  refine TriL.c1 rfl (op_mv (ltb rfl) rfl) ?_
  refine TriL.g1 rfl (ltb rfl) rfl (by simp) (op_fal (ltb rfl) fo46_4_q rfl) ?_
  refine TriL.g1 rfl (ltb rfl) rfl (by simp) (op_ldl (ltb rfl) lk9_q rfl rfl rfl) ?_
  refine TriL.g1 rfl (ltb rfl) rfl (by simp) (op_fal (ltb rfl) fo46_4_q rfl) ?_
  refine TriL.g1 rfl (ltb rfl) rfl (by simp) (op_ldl (ltb rfl) lk9_q rfl rfl rfl) ?_
  refine TriL.g1 rfl (ltb rfl) rfl (by simp) (op_bin (ltb rfl) rfl rfl rfl) ?_
  refine TriL.c1 rfl (op_pickf (ltb rfl) rfl (by simp) rfl) ?_
  refine TriL.c1 rfl (op_mv (ltb rfl) rfl) ?_
  refine TriL.g1 rfl (ltb rfl) rfl (by simp) (op_fal (ltb rfl) fo46_5_q rfl) ?_
  refine TriL.g1 rfl (ltb rfl) rfl (by simp) (op_ldl (ltb rfl) lk3_q rfl rfl rfl) ?_
  refine TriL.g1 rfl (ltb rfl) rfl (by simp) (op_fal (ltb rfl) fo46_5_q rfl) ?_
  refine TriL.g1 rfl (ltb rfl) rfl (by simp) (op_ldl (ltb rfl) lk3_q rfl rfl rfl) ?_
  refine TriL.g1 rfl (ltb rfl) rfl (by simp) (op_bin (ltb rfl) rfl rfl rfl) ?_
  refine TriL.c1 rfl (op_pickf (ltb rfl) rfl (by simp) rfl) ?_
  refine TriL.c1 rfl (op_mv (ltb rfl) rfl) ?_
  refine TriL.g1 rfl (ltb rfl) rfl (by simp) (op_fal (ltb rfl) fo46_6_q rfl) ?_
  refine TriL.g1 rfl (ltb rfl) rfl (by simp) (op_ldl (ltb rfl) lk3_q rfl rfl rfl) ?_
  refine TriL.g1 rfl (ltb rfl) rfl (by simp) (op_fal (ltb rfl) fo46_6_q rfl) ?_
  refine TriL.g1 rfl (ltb rfl) rfl (by simp) (op_ldl (ltb rfl) lk3_q rfl rfl rfl) ?_
  refine TriL.g1 rfl (ltb rfl) rfl (by simp) (op_bin (ltb rfl) rfl rfl rfl) ?_
  refine TriL.c1 rfl (op_pickf (ltb rfl) rfl (by simp) rfl) ?_
  refine TriL.c1 rfl (op_mv (ltb rfl) rfl) ?_
  refine TriL.g1 rfl (ltb rfl) rfl (by simp) (op_fal (ltb rfl) fo46_7_q rfl) ?_
  refine TriL.g1 rfl (ltb rfl) rfl (by simp) (op_ldl (ltb rfl) lk3_q rfl rfl rfl) ?_
  refine TriL.g1 rfl (ltb rfl) rfl (by simp) (op_fal (ltb rfl) fo46_7_q rfl) ?_
  refine TriL.g1 rfl (ltb rfl) rfl (by simp) (op_ldl (ltb rfl) lk3_q rfl rfl rfl) ?_
  refine TriL.g1 rfl (ltb rfl) rfl (by simp) (op_bin (ltb rfl) rfl rfl rfl) ?_
  refine TriL.c1 rfl (op_pickf (ltb rfl) rfl (by simp) rfl) ?_
  refine TriL.nil ?_
  refine Tri.condF rfl (by simp) ?_
  refine Tri.skip (Tri.seq (Tri.region ?_))
  refine TriL.c1 rfl (op_fal (ltb rfl) fo46_8_q rfl) ?_
  refine TriL.c1 rfl (op_ldl (ltb rfl) lk40_q rfl rfl rfl) ?_
  refine TriL.c1 rfl (op_fal (ltb rfl) fo46_8_q rfl) ?_
  refine TriL.c1 rfl (op_ldl (ltb rfl) lk40_q rfl rfl rfl) ?_
  refine TriL.c1 rfl (op_call (ltb rfl) fn19_q rfl (names_self _ (hn _ (List.getElem_mem hi)))) ?_
  refine TriL.c1 rfl (op_un (ltb rfl) rfl rfl) ?_
  refine TriL.c1 rfl (op_mv (ltb rfl) rfl) ?_
  refine TriL.g1 rfl (ltb rfl) rfl (congrArg not rfl) (op_fal (ltb rfl) fo46_9_q rfl) ?_
  refine TriL.g1 rfl (ltb rfl) rfl (congrArg not rfl) (op_ldl (ltb rfl) lk44_q rfl rfl rfl) ?_
  refine TriL.g1 rfl (ltb rfl) rfl (congrArg not rfl) (op_lit («as» := [_]) (ltb rfl) se52_q zAe52_q rfl rfl rfl (leb rfl)) ?_
  refine TriL.g1 rfl (ltb rfl) rfl (congrArg not rfl) (op_fal (ltb rfl) fo46_9_q rfl) ?_
  refine TriL.g1 rfl (ltb rfl) rfl (congrArg not rfl) (op_ldl (ltb rfl) lk44_q rfl rfl rfl) ?_
  refine TriL.g1 rfl (ltb rfl) rfl (congrArg not rfl) (op_lit («as» := [_]) (ltb rfl) se52_q zAe52_q rfl rfl rfl (leb rfl)) ?_
  refine TriL.g1 rfl (ltb rfl) rfl (congrArg not rfl) (op_call (ltb rfl) fn20_q rfl (samevals_self _ (hm _ (List.getElem_mem hi)))) ?_
  refine TriL.g1 rfl (ltb rfl) rfl (congrArg not rfl) (op_un (ltb rfl) rfl rfl) ?_
  refine TriL.c1 rfl (op_pickf (ltb rfl) rfl (congrArg not rfl) rfl) ?_
  refine TriL.nil ?_
  refine Tri.condF rfl (congrArg not rfl) ?_
  refine Tri.skip (Tri.region ?_)
  refine TriL.c1 rfl (op_mv (ltb rfl) rfl) ?_
  refine TriL.c1 rfl (op_bin (ltb rfl) rfl rfl rfl) ?_
  refine TriL.c1 rfl (op_as (ltb rfl) rfl) ?_
  refine TriL.kept (Kept.seti 5 rfl (inc (by omega)) (Kept.keep [.s 5, .h, .s 0, .s 1] rfl (by decide) (Kept.now ?_)))
  exact ⟨i + 1, by omega, trivial, rfl⟩
 ·have hi := gem hc1
  refine Tri.exit (Tri.seq (Tri.region ?_))
  refine TriL.c1 rfl (op_as (ltb rfl) rfl) ?_
  refine TriL.nil (Tri.ret ?_)
  exact ⟨.inr rfl, (ResOK.r1 rfl (.tmp rfl .nil)).cast rfl, rfl⟩
theorem num_pure (n : Int) : Pure Tryz.prog 10 [.int .i64 n] (.int .i64 n) := by
 refine Pure.of_tri Tryz.func10 rfl rfl (ltb rfl) fun H => ?_
 refine Tri.seq (Tri.region ?_)
 refine TriL.c1 rfl (op_as (ltb rfl) rfl) ?_
 refine TriL.nil (Tri.seq (Tri.region ?_))
 refine TriL.c1 rfl (op_mv (ltb rfl) rfl) ?_
 refine TriL.c1 rfl (op_as (ltb rfl) rfl) ?_
 refine TriL.nil (Tri.ret ?_)
 exact ⟨.inr rfl, (ResOK.r1 rfl (.tmp rfl .nil)).cast rfl, rfl⟩
/-- the tokens, with as many steps as needed -/
def lexF : Nat → List UInt8 → Nat → List Tk × Option Nat
 | 0, _, _ => ([], none)
 | n + 1, r, p => match r with
  | [] => ([], none)
  | c :: r' =>
   if isBl c then lexF n r' (p + 1)
   else if isRem (c :: r') then lexF n ((c :: r').drop (spn noNl (c :: r') - 1 + 1)) (p + spn noNl (c :: r'))
   else
    if (nxtT (c :: r')).2 = 0 then ([], some p)
    else (⟨(nxtT (c :: r')).1.k, (nxtT (c :: r')).1.s, (nxtT (c :: r')).1.n, (nxtT (c :: r')).1.neg, p⟩ :: (lexF n ((c :: r').drop ((nxtT (c :: r')).2 - 1 + 1)) (p + (nxtT (c :: r')).2)).1, (lexF n ((c :: r').drop ((nxtT (c :: r')).2 - 1 + 1)) (p + (nxtT (c :: r')).2)).2)
theorem lexF_eq : ∀ (n : Nat) (r : List UInt8) (p : Nat), r.length < n → lexGo r p = lexF n r p
 | 0, r, p, h => by omega
 | n + 1, [], p, h => by rw [lexGo_nil]; rfl
 | n + 1, c :: r, p, h => by
  rw [lexGo, lexF]
  have e1 := lexF_eq n r (p + 1) (by simp at h; omega)
  have e2 := lexF_eq n ((c :: r).drop (spn noNl (c :: r) - 1 + 1)) (p + spn noNl (c :: r)) (by rw [List.length_drop]; simp at h ⊢; omega)
  have e3 := lexF_eq n ((c :: r).drop ((nxtT (c :: r)).2 - 1 + 1)) (p + (nxtT (c :: r)).2) (by rw [List.length_drop]; simp at h ⊢; omega)
  rw [e1, e2, e3]
def stpL : Stp := ⟨10, [77], [97], [], [], 0, 0, 0, [], .mk 0 [] []⟩
theorem live_lex1 : lexGo [100, 114, 111, 112, 32, 77, 46, 97, 59] 0 = lexF 10 [100, 114, 111, 112, 32, 77, 46, 97, 59] 0 := lexF_eq _ _ _ (by decide)
theorem live_lex2 : lexGo [100, 114, 111, 112, 32, 77, 32, 97, 59] 0 = lexF 10 [100, 114, 111, 112, 32, 77, 32, 97, 59] 0 := lexF_eq _ _ _ (by decide)
theorem live_m1 : mSteps [100, 114, 111, 112, 32, 77, 46, 97, 59] = ⟨[(stpL, 0)], 9, 0⟩ := by
 rw [mSteps_eq (by decide) (by rw [live_lex1]; rfl)]
 unfold lexT mOf
 rw [live_lex1]
 rfl
theorem live_m2 : mSteps [100, 114, 111, 112, 32, 77, 32, 97, 59] = ⟨[], 7, 2⟩ := by
 rw [mSteps_eq (by decide) (by rw [live_lex2]; rfl)]
 unfold mOf lexT
 rw [live_lex2]
 rfl
theorem live1 : Pure Tryz.prog 7 [.str [100, 114, 111, 112, 32, 77, 46, 97, 59]] (.tup [.sl [stpL.av], .int .i64 9, .int .i64 0]) := by
 have := parse_pure [100, 114, 111, 112, 32, 77, 46, 97, 59] (by decide)
 unfold parseV mParse at this
 rw [live_m1] at this
 exact this
theorem live2 : Pure Tryz.prog 7 [.str [100, 114, 111, 112, 32, 77, 32, 97, 59]] (.tup [.sl [], .int .i64 7, .int .i64 2]) := by
 have := parse_pure [100, 114, 111, 112, 32, 77, 32, 97, 59] (by decide)
 unfold parseV mParse at this
 rw [live_m2] at this
 exact this
theorem live_pure : Pure Tryz.prog 6 [] (.bool true) := by
 refine Pure.of_tri Tryz.func6 rfl rfl (Nat.zero_le _) fun H => ?_
 refine Tri.seq (Tri.region ?_)
 refine TriL.c1 rfl (op_as (ltb rfl) rfl) ?_
 refine TriL.nil (Tri.seq (Tri.region ?_))
 refine TriL.c1 rfl (op_call (ltb rfl) fn7_q rfl live1) ?_
 refine TriL.c1 rfl (op_mv (ltb rfl) rfl) ?_
 iterate 3 (refine TriL.c1 rfl (op_ext (ltb rfl) rfl rfl) ?_)
 iterate 3 (refine TriL.c1 rfl (op_as (ltb rfl) rfl) ?_)
 refine TriL.nil (Tri.seq (Tri.region ?_))
 refine TriL.c1 rfl (op_call (ltb rfl) fn7_q rfl live2) ?_
 refine TriL.c1 rfl (op_mv (ltb rfl) rfl) ?_
 iterate 3 (refine TriL.c1 rfl (op_ext (ltb rfl) rfl rfl) ?_)
 iterate 3 (refine TriL.c1 rfl (op_as (ltb rfl) rfl) ?_)
 refine TriL.nil (Tri.seq (Tri.region ?_))
 refine TriL.c1 rfl (op_mv (ltb rfl) rfl) ?_
 refine TriL.c1 rfl (op_call (ltb rfl) fn10_q rfl (num_pure _)) ?_
 refine TriL.c1 rfl (op_bin (ltb rfl) rfl rfl rfl) ?_
 refine TriL.c1 rfl (op_mv (ltb rfl) rfl) ?_
 refine TriL.g1 rfl (ltb rfl) rfl rfl (op_mv (ltb rfl) rfl) ?_
 refine TriL.g1 rfl (ltb rfl) rfl rfl (op_bld (ltb rfl) spl46_q zA46_q rfl rfl) ?_
 refine TriL.g1 rfl (ltb rfl) rfl rfl (op_lit («as» := [_]) (ltb rfl) se23_q zAe23_q rfl rfl rfl (leb rfl)) ?_
 refine TriL.g1 rfl (ltb rfl) rfl rfl (op_call (ltb rfl) fn9_q rfl (same_self [stpL] (by decide) (by decide) (by simp [stpL, Val.m]))) ?_
 refine TriL.c1 rfl (op_pickt (ltb rfl) rfl rfl rfl) ?_
 refine TriL.c1 rfl (op_mv (ltb rfl) rfl) ?_
 refine TriL.g1 rfl (ltb rfl) rfl rfl (op_mv (ltb rfl) rfl) ?_
 refine TriL.g1 rfl (ltb rfl) rfl rfl (op_call (ltb rfl) fn10_q rfl (num_pure _)) ?_
 refine TriL.g1 rfl (ltb rfl) rfl rfl (op_bin (ltb rfl) rfl rfl rfl) ?_
 refine TriL.c1 rfl (op_pickt (ltb rfl) rfl rfl rfl) ?_
 refine TriL.c1 rfl (op_mv (ltb rfl) rfl) ?_
 refine TriL.g1 rfl (ltb rfl) rfl rfl (op_mv (ltb rfl) rfl) ?_
 refine TriL.g1 rfl (ltb rfl) rfl rfl (op_bin (ltb rfl) rfl rfl rfl) ?_
 refine TriL.c1 rfl (op_pickt (ltb rfl) rfl rfl rfl) ?_
 refine TriL.c1 rfl (op_as (ltb rfl) rfl) ?_
 refine TriL.nil (Tri.ret ?_)
 exact ⟨.inr rfl, (ResOK.r1 rfl (.tmp rfl .nil)).cast rfl, rfl⟩
open Go
/- A quoted text, and a number's digits, are read as them: plain Lean. No condition. -/
/-- each quote doubled -/
def dbl : List UInt8 → List UInt8
 | [] => []
 | c :: r => if c = 39 then 39 :: 39 :: dbl r else c :: dbl r
theorem dbl_len : ∀ s, (dbl s).length ≤ 2 * s.length
 | [] => by simp [dbl]
 | c :: r => by
  have := dbl_len r
  unfold dbl; split <;> simp <;> omega
def qot (s : List UInt8) : List UInt8 := (39 :: dbl s) ++ [39]
/-! ### a number's digits -/
theorem parseM_app (M : Nat) : ∀ (l m : List UInt8) (a : Nat), Lib.parseUintM M a (l ++ m) = match Lib.parseUintM M a l with | .ok v => Lib.parseUintM M v m | e => e
 | [], m, a => rfl
 | c :: r, m, a => by
  simp only [List.cons_append, Lib.parseUintM]
  split
  ·split
   ·rfl
   ·split
    ·rfl
    ·exact parseM_app M r m _
  ·rfl
theorem dig_nat {d : Nat} (h : d < 10) : (UInt8.ofNat (48 + d)).toNat = 48 + d := by rw [UInt8.toNat_ofNat_of_lt' (by simp [UInt8.size]; omega)]
theorem parse_dec : ∀ (n u : Nat), u ≤ n → u < 18446744073709551616 → Lib.parseUintM Mx 0 (Lib.decDigits u) = .ok u := by
 intro n
 induction n with
 | zero =>
  intro u h _
  obtain rfl : u = 0 := by omega
  rw [decDigits_small (by decide)]; rfl
 | succ n ih =>
  intro u h hu
  by_cases h10 : u < 10
  ·rw [decDigits_small h10]
   have := dig_nat h10
   simp only [Lib.parseUintM, this]
   rw [if_pos (by omega), if_neg (by omega), if_neg (by unfold Mx; omega)]
   congr 1; omega
  ·rw [decDigits_step h10, parseM_app, ih (u / 10) (by omega) (by omega)]
   have := dig_nat (d := u % 10) (by omega)
   simp only [Lib.parseUintM, this]
   rw [if_pos (by omega), if_neg (by omega), if_neg (by unfold Mx; omega)]
   congr 1; omega
theorem dec_ne (u : Nat) : Lib.decDigits u ≠ [] := by
 by_cases h : u < 10
 ·rw [decDigits_small h]; simp
 ·rw [decDigits_step h]; simp
theorem parseB_dec {u : Nat} (hu : u < 18446744073709551616) : Lib.parseUintB 64 (Lib.decDigits u) = .ok u := by
 unfold Lib.parseUintB
 rw [if_neg (dec_ne u)]
 exact parse_dec u u (Nat.le_refl _) hu
theorem dec_dig : ∀ (n u : Nat), u ≤ n → ∀ c ∈ Lib.decDigits u, isDig c = true := by
 intro n
 induction n with
 | zero =>
  intro u h c hc
  obtain rfl : u = 0 := by omega
  rw [decDigits_small (by decide)] at hc
  simp at hc; subst hc; decide
 | succ n ih =>
  intro u h c hc
  by_cases h10 : u < 10
  ·rw [decDigits_small h10] at hc
   rw [List.mem_singleton] at hc; subst hc
   have := dig_nat h10
   exact decide_eq_true (by omega)
  ·rw [decDigits_step h10] at hc
   rcases List.mem_append.1 hc with h2 | h2
   ·exact ih (u / 10) (by omega) c h2
   ·rw [List.mem_singleton] at h2; subst h2
    have := dig_nat (d := u % 10) (by omega)
    exact decide_eq_true (by omega)
theorem dec_cons (u : Nat) : ∃ c r, Lib.decDigits u = c :: r ∧ isDig c = true := by
 cases h : Lib.decDigits u with
 | nil => exact absurd h (dec_ne u)
 | cons c r => exact ⟨c, r, rfl, dec_dig u u (Nat.le_refl _) c (by rw [h]; exact List.mem_cons_self ..)⟩
/-- what it is made of -/
theorem digs_parts (u : Nat) (neg : Bool) : isNeg (digs u neg) = (neg && decide (u ≠ 0)) ∧ unsg (digs u neg) = Lib.decDigits u := by
 obtain ⟨c, r, e, hd⟩ := dec_cons u
 have hc : c ≠ 45 := fun h => by subst h; revert hd; decide
 unfold digs
 by_cases h : (neg && decide (u ≠ 0)) = true
 ·rw [if_pos h, h]
  refine ⟨by simp [isNeg, Lib.hasPrefix, List.isPrefixOf], ?_⟩
  unfold unsg Lib.trimPrefix
  rw [if_pos (by simp [Lib.hasPrefix, List.isPrefixOf])]; rfl
 ·have h' : (neg && decide (u ≠ 0)) = false := by simpa using h
  have hp : Lib.hasPrefix (Lib.decDigits u) [45] = false := by
   rw [e]; simp [Lib.hasPrefix, List.isPrefixOf]; exact fun e2 => hc e2.symm
  rw [if_neg h, h']
  exact ⟨hp, by unfold unsg Lib.trimPrefix; rw [if_neg (by simp [hp])]⟩
theorem digs_head (u : Nat) (neg : Bool) : ∃ c r, digs u neg = c :: r ∧ isBl c = false ∧ isLet c = false ∧ c.toNat ≠ 47 ∧ c ≠ 39 ∧ isMark c = false := by
 obtain ⟨c, r, e, hd⟩ := dec_cons u
 unfold digs
 split
 ·exact ⟨45, _, rfl, by decide, by decide, by decide, by decide, by decide⟩
 ·have h := of_decide_eq_true hd
  refine ⟨c, r, e, decide_eq_false (by omega), decide_eq_false (by omega), by omega, fun h2 => by subst h2; revert hd; decide, decide_eq_false (by omega)⟩
/- Quote, in the program and in the document; the law LexQuotes's walk. -/
theorem dbl_take {s : List UInt8} {i : Nat} {c : UInt8} (h : s[i]? = some c) : dbl (s.take (i + 1)) = dbl (s.take i) ++ (if c = 39 then [39, 39] else [c]) := by
 have app : ∀ a b : List UInt8, dbl (a ++ b) = dbl a ++ dbl b := by
  intro a b
  induction a with
  | nil => rfl
  | cons x a ih => simp only [List.cons_append, dbl]; split <;> simp [ih]
 rw [List.take_add_one, h, app]
 simp only [Option.toList_some, dbl]
def StQ (H : Hp) (s o : List UInt8) (j : Int) : St := [(.h, .hp H), (.s 0, .sv (.v (.str s))), (.s 3, .sv (.v (.str o))), (.s 4, .sv (.v (.int .i64 j)))]
theorem rquote_pure (s : List UInt8) (hs : s.length ≤ 1073741824) : Pure Tryz.prog 80 [.str s] (.str (qot s)) := by
 refine Pure.of_tri Tryz.func80 rfl rfl (ltb rfl) fun H => ?_
 refine Tri.seq (Tri.region ?_)
 refine TriL.c1 rfl (op_as (ltb rfl) rfl) ?_
 refine TriL.nil (Tri.seq (Tri.region ?_))
 refine TriL.c1 rfl (op_as (ltb rfl) rfl) ?_
 refine TriL.nil (Tri.seq (Tri.seq (Tri.region ?_)))
 refine TriL.c1 rfl (op_as (ltb rfl) rfl) ?_
 refine TriL.kept (Kept.keep [.h, .s 0, .s 3, .s 4] rfl (by decide) (Kept.now ?_))
 refine Tri.blk ?_
 -- LOOP 1: KEEP
 refine Tri.loop (fun q w => ∃ (a : Nat) (j : Int), w = StQ H s (39 :: dbl (s.take a)) j ∧ j = a ∧ a ≤ s.length ∧ q = s.length - a) ?_ (n := s.length) ⟨0, 0, rfl, rfl, Nat.zero_le _, rfl⟩
 rintro q w ⟨a, j, rfl, hj, ha, rfl⟩
 have hdl := dbl_len (s.take a)
 rw [List.length_take] at hdl
 refine Tri.seq (Tri.seq (Tri.region ?_))
 iterate 2 (refine TriL.c1 rfl (op_mv (ltb rfl) rfl) ?_)
 refine TriL.c1 rfl (op_lens (ltb rfl) un9_q rfl) ?_
 refine TriL.c1 rfl (op_bin (ltb rfl) rfl rfl rfl) ?_
 refine TriL.nil ?_
 refine Tri.cond rfl (fun hc1 => ?_) (fun hc1 => ?_)
 ·have hlt : a < s.length := by have := of_decide_eq_true hc1; omega
  obtain ⟨c, hc⟩ : ∃ c, s[a]? = some c := ⟨s[a], List.getElem?_eq_getElem hlt⟩
  have hdt := dbl_take hc
  refine Tri.skip (Tri.seq (Tri.blk ?_))
  refine Tri.join (fun w => ∃ o, w = StQ H s o j ∧ o ++ [c] = 39 :: dbl (s.take (a + 1)) ∧ o.length ≤ 2 * s.length + 2) ?_ ?_
  ·refine Tri.seq (Tri.region ?_)
   iterate 2 (refine TriL.c1 rfl (op_mv (ltb rfl) rfl) ?_)
   refine TriL.c1 rfl (op_ixs (ltb rfl) un9_q rfl rfl (by omega) (ixc hj hc)) ?_
   refine TriL.c1 rfl (op_bin (ltb rfl) rfl rfl rfl) ?_
   refine TriL.nil ?_
   refine Tri.cond rfl (fun hc2 => ?_) (fun hc2 => ?_)
   ·-- region 6 ref.go:50
    refine Tri.region ?_
    refine TriL.c1 rfl (op_mv (ltb rfl) rfl) ?_
    refine TriL.c1 rfl (op_cat (ltb rfl) rfl rfl (by simp; omega)) ?_
    refine TriL.c1 rfl (op_as (ltb rfl) rfl) ?_
    refine TriL.kept (Kept.keep [.h, .s 0, .s 3, .s 4] rfl (by decide) (Kept.now ?_))
    have h39 : c = 39 := UInt8.toNat_inj.1 (by have := eq_of_beq hc2; have e : (39 : UInt8).toNat = 39 := rfl; omega)
    exact ⟨_, rfl, by rw [hdt, if_pos h39, h39]; simp, by simp; omega⟩
   ·refine Tri.ofKept (Kept.keep [.h, .s 0, .s 3, .s 4] rfl (by decide) (Kept.now ?_))
    refine Tri.skip ?_
    have h39 : c ≠ 39 := fun e => by subst e; revert hc2; decide
    exact ⟨_, rfl, by rw [hdt, if_neg h39]; simp, by simp; omega⟩
  ·rintro w ⟨o, rfl, ho, hol⟩
   have hw1 : IntKind.i64.wrap (j + 1) = ((a + 1 : Nat) : Int) := by rw [hj, wr64] <;> omega
   have hcut : (s.drop j.toNat).take ((IntKind.i64.wrap (j + 1)).toNat - j.toNat) = [c] := by
    rw [hw1, hj]
    have e := drop_at hc
    rw [show ((a : Int)).toNat = a by omega, e, show ((a + 1 : Nat) : Int).toNat - a = 1 by omega]; rfl
   refine Tri.region ?_
   iterate 4 (refine TriL.c1 rfl (op_mv (ltb rfl) rfl) ?_)
   refine TriL.c1 rfl (op_bin (ltb rfl) rfl rfl rfl) ?_
   refine TriL.c1 rfl (op_cuts (ltb rfl) un9_q rfl rfl rfl (by omega) (by rw [hw1]; omega) (by rw [hw1]; omega)) ?_
   refine TriL.c1 rfl (op_cat (ltb rfl) rfl rfl (by rw [hcut]; simp; omega)) ?_
   refine TriL.c1 rfl (op_as (ltb rfl) rfl) ?_
   refine TriL.nil (Tri.region ?_)
   refine TriL.c1 rfl (op_mv (ltb rfl) rfl) ?_
   refine TriL.c1 rfl (op_bin (ltb rfl) rfl rfl rfl) ?_
   refine TriL.c1 rfl (op_as (ltb rfl) rfl) ?_
   refine TriL.kept (Kept.keep [.h, .s 0, .s 3, .s 4] rfl (by decide) (Kept.now ?_))
   exact ⟨s.length - (a + 1), by omega, a + 1, IntKind.i64.wrap (j + 1), by rw [hcut, ho]; rfl, hw1, by omega, rfl⟩
 ·refine Tri.exit (Tri.seq (Tri.region ?_))
  refine TriL.c1 rfl (op_mv (ltb rfl) rfl) ?_
  refine TriL.c1 rfl (op_cat (ltb rfl) rfl rfl (by simp; omega)) ?_
  refine TriL.c1 rfl (op_as (ltb rfl) rfl) ?_
  refine TriL.nil (Tri.ret ?_)
  exact ⟨.inr rfl, (ResOK.r1 rfl (.tmp rfl .nil)).cast (by have e : s.take a = s := List.take_of_length_le (by have := of_decide_eq_false hc1; omega); rw [e]; rfl), rfl⟩
open Go Go.RowKit
/- Plain laws: a text made of words, numbers, marks, quoted texts and blanks is read as them. No condition. -/
/-- a piece of a text -/
inductive Pc where
 | bl (c : UInt8)
 | mk (c : UInt8)
 | wd (s : Str)
 | nu (u : Nat) (neg : Bool)
 | tx (s : Str)
/-- what a token is, its place aside -/
structure Ky where
 k : Nat
 s : Str
 n : Nat
 neg : Bool
def Tk.ky (t : Tk) : Ky := ⟨t.k, t.s, t.n, t.neg⟩
def Ky.at (x : Ky) (p : Nat) : Tk := ⟨x.k, x.s, x.n, x.neg, p⟩
def Pc.txt : Pc → Str
 | .bl c => [c]
 | .mk c => [c]
 | .wd s => s
 | .nu u neg => digs u neg
 | .tx s => qot s
def Pc.ky : Pc → List Ky
 | .bl _ => []
 | .mk c => [⟨4, [c], 0, false⟩]
 | .wd s => [⟨1, s, 0, false⟩]
 | .nu u neg => [⟨2, [], u, neg && decide (u ≠ 0)⟩]
 | .tx s => [⟨3, s, 0, false⟩]
def render : List Pc → Str
 | [] => []
 | x :: l => x.txt ++ render l
def ptoks : List Pc → Nat → List Tk
 | [], _ => []
 | x :: l, p => x.ky.map (fun k => k.at p) ++ ptoks l (p + x.txt.length)
def pkeys : List Pc → List Ky
 | [] => []
 | x :: l => x.ky ++ pkeys l
/-- what ends a word -/
def Pc.ends : Pc → Bool
 | .bl c => isBl c
 | .mk c => isMark c
 | _ => false
def Pc.own : Pc → Prop
 | .bl c => isBl c = true
 | .mk c => isMark c = true
 | .wd s => isLet (s.headD 0) = true ∧ s.all isWd = true
 | .nu u neg => u < 18446744073709551616 ∧ ¬ (neg = true ∧ 9223372036854775808 < u)
 | .tx _ => True
/-- each stands for itself, and what is not a blank or a mark ends with one -/
def Fine : List Pc → Prop
 | [] => True
 | [x] => x.own ∧ x.ends = true
 | x :: y :: l => x.own ∧ (x.ends = true ∨ y.ends = true) ∧ Fine (y :: l)
theorem ptoks_ky : ∀ (l : List Pc) (p : Nat), (ptoks l p).map Tk.ky = pkeys l
 | [], _ => rfl
 | x :: l, p => by
  rw [ptoks, pkeys, List.map_append, ptoks_ky l]
  congr 1
  cases x <;> rfl
theorem render_app : ∀ (l m : List Pc), render (l ++ m) = render l ++ render m
 | [], m => rfl
 | x :: l, m => by simp [render, render_app l m]
theorem pkeys_app : ∀ (l m : List Pc), pkeys (l ++ m) = pkeys l ++ pkeys m
 | [], m => rfl
 | x :: l, m => by simp [pkeys, pkeys_app l m]
theorem end_props {c : UInt8} (h : isBl c = true ∨ isMark c = true) : isWd c = false ∧ isDig c = false ∧ c ≠ 39 ∧ isLet c = false := by
 have h3 : c ≠ 39 := fun e => by subst e; revert h; decide
 simp only [isBl, isMark, decide_eq_true_eq] at h
 refine ⟨?_, ?_, h3, ?_⟩
 ·simp only [isWd, isLet, isDig, Bool.or_eq_false_iff, decide_eq_false_iff_not]; omega
 ·simp only [isDig, decide_eq_false_iff_not]; omega
 ·simp only [isLet, decide_eq_false_iff_not]; omega
theorem spn_stop (p : UInt8 → Bool) {c : UInt8} (hc : p c = false) (r : Str) : ∀ l : Str, (∀ x ∈ l, p x = true) → spn p (l ++ c :: r) = l.length
 | [], _ => by simp [spn, hc]
 | x :: l, h => by
  simp only [List.cons_append, spn]
  rw [if_pos (h x (List.mem_cons_self ..)), spn_stop p hc r l fun y hy => h y (List.mem_cons_of_mem _ hy)]; rfl
theorem nxt_word {s : Str} {c : UInt8} {r : Str} (h1 : isLet (s.headD 0) = true) (h2 : s.all isWd = true) (hc : isWd c = false) : nxtT (s ++ c :: r) = (⟨1, s, 0, false, 0⟩, s.length) := by
 cases s with
 | nil => exact absurd h1 (by decide)
 | cons d t =>
  have e : wordT (d :: t ++ c :: r) = (⟨1, d :: t, 0, false, 0⟩, (d :: t).length) := by
   have hs := spn_stop isWd hc r (d :: t) (by simpa using h2)
   have h1' : isLet d = true := h1
   unfold wordT
   simp only [List.cons_append] at hs ⊢
   rw [if_pos h1', hs]
   simp
  unfold nxtT
  rw [e, if_pos (by simp)]
theorem word_zero {c : UInt8} {r : Str} (h : isLet c = false) : wordT (c :: r) = zeroT := by simp [wordT, h, zeroT]
theorem nxt_num {u : Nat} {neg : Bool} {c : UInt8} {r : Str} (hu : u < 18446744073709551616) (h : ¬ (neg = true ∧ 9223372036854775808 < u)) (hc : isDig c = false) : nxtT (digs u neg ++ c :: r) = (⟨2, [], u, neg && decide (u ≠ 0), 0⟩, (digs u neg).length) := by
 obtain ⟨d, t, e, h1, h2, h3, h4, h5⟩ := digs_head u neg
 obtain ⟨p1, p2⟩ := digs_parts u neg
 have hlen : 0 < (digs u neg).length := by rw [e]; simp
 have q1 : isNeg (digs u neg ++ c :: r) = isNeg (digs u neg) := by
  rw [e]; unfold isNeg Lib.hasPrefix; simp [List.isPrefixOf]
 have q2 : unsg (digs u neg ++ c :: r) = Lib.decDigits u ++ c :: r := by
  rw [← p2]
  have q3 : Lib.hasPrefix (digs u neg ++ c :: r) [45] = Lib.hasPrefix (digs u neg) [45] := q1
  unfold unsg Lib.trimPrefix
  rw [q3]
  split
  ·rw [e]; simp
  ·rfl
 have hs : spn isDig (Lib.decDigits u ++ c :: r) = (Lib.decDigits u).length := spn_stop _ hc r _ (dec_dig u u (Nat.le_refl _))
 have q4 : numS (digs u neg ++ c :: r) = Lib.decDigits u := by
  unfold numS; rw [q2, hs]; simp
 have hl := unsg_le (digs u neg)
 rw [p2] at hl
 have q5 : numB (digs u neg ++ c :: r) = (digs u neg).length := by
  unfold numB; rw [q2, hs]; simp; omega
 have hz : numTk (digs u neg ++ c :: r) = (⟨2, [], u, isNeg (digs u neg ++ c :: r), 0⟩, numB (digs u neg ++ c :: r)) := numTk_ok (u := u) (by rw [q4]; exact parseB_dec hu) (by
   rintro ⟨a, b⟩
   rw [q1, p1] at a
   exact h ⟨by cases neg; simp at a; rfl, b⟩) (by
   rw [q5, q1, p1]
   simp only [List.take_left']
   unfold digs
   cases neg <;> simp)
 rw [q1, p1, q5] at hz
 have hw : wordT (digs u neg ++ c :: r) = zeroT := by rw [e]; exact word_zero h2
 unfold nxtT
 rw [hw, if_neg (by decide), hz, if_pos hlen]
theorem txtGo_dbl2 {c : UInt8} {r : Str} (hc : c ≠ 39) : ∀ (s out : List UInt8) (p : Nat), txtGo (dbl s ++ 39 :: c :: r) out p = some (out ++ s, p + (dbl s).length + 1)
 | [], out, p => by
  show txtGo (39 :: c :: r) out p = _
  rw [txt_end (fun r e => by cases e; exact hc rfl)]; simp [dbl]
 | d :: t, out, p => by
  by_cases hd : d = 39
  ·subst hd
   have e : dbl (39 :: t) = 39 :: 39 :: dbl t := by simp [dbl]
   rw [e]
   show txtGo (39 :: 39 :: (dbl t ++ 39 :: c :: r)) out p = _
   rw [txt_two, txtGo_dbl2 hc t]
   simp only [List.append_assoc, List.cons_append, List.nil_append, List.length_cons]
   congr 2; omega
  ·have e : dbl (d :: t) = d :: dbl t := by simp [dbl, hd]
   rw [e]
   show txtGo (d :: (dbl t ++ 39 :: c :: r)) out p = _
   rw [txtGo_ne hd, txtGo_dbl2 hc t]
   simp only [List.append_assoc, List.cons_append, List.nil_append, List.length_cons]
   congr 2; omega
theorem num_zero {c : UInt8} {r : Str} (h : isDig c = false) (h2 : c ≠ 45) : numTk (c :: r) = zeroT := numTk_bad fun u e => by
 have hu : unsg (c :: r) = c :: r := by
  unfold unsg Lib.trimPrefix
  rw [if_neg]
  have h3 : ¬ (45 : UInt8) = c := fun e => h2 e.symm
  simp [Lib.hasPrefix, List.isPrefixOf, h3]
 have h0 : numS (c :: r) = [] := by
  unfold numS; rw [hu]; simp [spn, h]
 rw [h0] at e; cases e
theorem nxt_txt {s : Str} {c : UInt8} {r : Str} (hc : c ≠ 39) : nxtT (qot s ++ c :: r) = (⟨3, s, 0, false, 0⟩, (qot s).length) := by
 have e : qot s ++ c :: r = 39 :: (dbl s ++ 39 :: c :: r) := by simp [qot]
 have ht : txtT (qot s ++ c :: r) = some (s, (qot s).length) := by
  rw [e, txtT, if_pos rfl, txtGo_dbl2 hc]
  simp [qot]; omega
 unfold nxtT
 rw [txtTk_some ht, e, word_zero (by decide), num_zero (by decide) (by decide), if_neg (by decide), if_neg (by decide), if_pos (by simp [qot])]
theorem nxt_mark {c : UInt8} {r : Str} (h : isMark c = true) : nxtT (c :: r) = (⟨4, [c], 0, false, 0⟩, 1) := by
 obtain ⟨_, h2, h3, h4⟩ := end_props (.inr h)
 have h5 : c ≠ 45 := fun e => by subst e; revert h; decide
 unfold nxtT
 rw [word_zero h4, num_zero h2 h5, txtTk_none (txtT_not h3), if_neg (by decide), if_neg (by decide), if_neg (by decide)]
 simp [markT, h]
/-- a token, then the rest -/
theorem lex_cons {t r : Str} {c : UInt8} {u : Str} (e : t = c :: u) (hb : isBl c = false) (h47 : c.toNat ≠ 47) {k : Ky} (hn : nxtT (t ++ r) = (k.at 0, t.length)) (p : Nat) : lexGo (t ++ r) p = (k.at p :: (lexGo r (p + t.length)).1, (lexGo r (p + t.length)).2) := by
 subst e
 have h3 : (nxtT (c :: (u ++ r))).2 ≠ 0 := by
  have := congrArg Prod.snd hn
  simp only [List.cons_append] at this
  rw [this]; simp
 rw [List.cons_append, lexGo_tok hb (isRem_ne h47) h3]
 have hn' : nxtT (c :: (u ++ r)) = (k.at 0, (c :: u).length) := hn
 rw [hn']
 have hd : (c :: (u ++ r)).drop (c :: u).length = r := by rw [← List.cons_append]; exact List.drop_left
 simp only [hd]
 rfl
theorem ends_head {y : Pc} (h : y.ends = true) (l : List Pc) : ∃ c r, render (y :: l) = c :: r ∧ (isBl c = true ∨ isMark c = true) := by
 cases y with
 | bl c => exact ⟨c, render l, rfl, .inl h⟩
 | mk c => exact ⟨c, render l, rfl, .inr h⟩
 | wd s => cases h
 | nu u n => cases h
 | tx s => cases h
theorem lex_piece {x : Pc} {r : Str} (hx : x.own) (h : x.ends = true ∨ ∃ c t, r = c :: t ∧ (isBl c = true ∨ isMark c = true)) (p : Nat) : lexGo (x.txt ++ r) p = (x.ky.map (fun k => k.at p) ++ (lexGo r (p + x.txt.length)).1, (lexGo r (p + x.txt.length)).2) := by
 cases x with
 | bl c =>
  show lexGo (c :: r) p = _
  rw [lexGo_bl hx]; rfl
 | mk c =>
  have hm : isMark c = true := hx
  have hb : isBl c = false := by
   simp only [isMark, decide_eq_true_eq] at hm
   simp only [isBl, decide_eq_false_iff_not]; omega
  have h47 : c.toNat ≠ 47 := by simp only [isMark, decide_eq_true_eq] at hm; omega
  exact lex_cons (t := [c]) rfl hb h47 (k := ⟨4, [c], 0, false⟩) (nxt_mark hm) p
 | wd s =>
  obtain ⟨h1, h2⟩ := hx
  obtain ⟨c, t, rfl, hc⟩ := h.resolve_left (fun h => nomatch h)
  cases s with
  | nil => exact absurd h1 (by decide)
  | cons d u =>
   have hd : isLet d = true := h1
   have hb : isBl d = false := by
    simp only [isLet, decide_eq_true_eq] at hd
    simp only [isBl, decide_eq_false_iff_not]; omega
   have h47 : d.toNat ≠ 47 := by simp only [isLet, decide_eq_true_eq] at hd; omega
   exact lex_cons (t := d :: u) rfl hb h47 (k := ⟨1, d :: u, 0, false⟩) (nxt_word h1 h2 (end_props hc).1) p
 | nu v neg =>
  obtain ⟨h1, h2⟩ := hx
  obtain ⟨c, t, rfl, hc⟩ := h.resolve_left (fun h => nomatch h)
  obtain ⟨d, u, e, g1, g2, g3, g4, g5⟩ := digs_head v neg
  exact lex_cons (t := digs v neg) e g1 g3 (k := ⟨2, [], v, neg && decide (v ≠ 0)⟩) (nxt_num h1 h2 (end_props hc).2.1) p
 | tx s =>
  obtain ⟨c, t, rfl, hc⟩ := h.resolve_left (fun h => nomatch h)
  exact lex_cons (t := qot s) (c := 39) (u := dbl s ++ [39]) rfl (by decide) (by decide) (k := ⟨3, s, 0, false⟩) (nxt_txt (end_props hc).2.2.1) p
theorem lex_render : ∀ (l : List Pc) (p : Nat), Fine l → lexGo (render l) p = (ptoks l p, none)
 | [], p, _ => lexGo_nil p
 | [x], p, h => by
  show lexGo (x.txt ++ render []) p = _
  rw [lex_piece h.1 (.inl h.2)]
  show (_ ++ (lexGo [] _).1, (lexGo [] _).2) = _
  rw [lexGo_nil]; rfl
 | x :: y :: l, p, h => by
  show lexGo (x.txt ++ render (y :: l)) p = _
  rw [lex_piece h.1 (h.2.1.imp id fun hy => ends_head hy l), lex_render (y :: l) _ h.2.2]
  rfl
theorem Fine.app : ∀ {l m : List Pc}, Fine l → Fine m → Fine (l ++ m)
 | [], m, _, h => h
 | [x], [], h, _ => h
 | [x], y :: m, h, hm => ⟨h.1, .inl h.2, hm⟩
 | x :: y :: l, m, h, hm => ⟨h.1, h.2.1, Fine.app h.2.2 hm⟩
/- Plain laws: the text of right steps, and what the grammar makes of it. No condition. -/
/-! ### tokens that stand somewhere -/
def Stand (L : List Tk) : Nat → List Ky → Prop
 | _, [] => True
 | i, k :: ks => i < L.length ∧ (tkAt L i).ky = k ∧ Stand L (i + 1) ks
section
variable {L : List Tk}
theorem Stand.app : ∀ {a b : List Ky} {i : Nat}, Stand L i (a ++ b) → Stand L i a ∧ Stand L (i + a.length) b
 | [], b, i, h => ⟨trivial, h⟩
 | k :: a, b, i, h => by
  have := Stand.app h.2.2
  refine ⟨⟨h.1, h.2.1, this.1⟩, ?_⟩
  have e : i + (k :: a).length = i + 1 + a.length := by simp; omega
  rw [e]; exact this.2
theorem Stand.tl {k : Ky} {ks : List Ky} {i : Nat} (h : Stand L i (k :: ks)) : Stand L (i + 1) ks := h.2.2
theorem Stand.len : ∀ {ks : List Ky} {i : Nat}, Stand L i ks → ks ≠ [] → i + ks.length ≤ L.length
 | [], _, _, h => absurd rfl h
 | [k], i, h, _ => by have := h.1; simp; omega
 | k :: l :: ks, i, h, _ => by have := Stand.len h.2.2 (by simp); simp at this ⊢; omega
theorem Stand.of : ∀ {ts post : List Tk} {pre : List Tk}, L = pre ++ ts ++ post → Stand L pre.length (ts.map Tk.ky)
 | [], _, _, _ => trivial
 | t :: ts, post, pre, h => by
  have hi : pre.length < L.length := by rw [h]; simp
  refine ⟨hi, ?_, ?_⟩
  ·rw [tkAt_eq hi]
   simp [h]
  ·have := Stand.of (ts := ts) (post := post) (pre := pre ++ [t]) (by rw [h]; simp)
   simpa using this
theorem st_take {k : Nat} {w : Str} {n : Nat} {b : Bool} {ks : List Ky} {i : Nat} (h : Stand L i (⟨k, w, n, b⟩ :: ks)) (hk : k = 1 ∨ k = 4) : gTake L w i = true := by
 have e := h.2.1
 have e1 : (tkAt L i).k = k := congrArg Ky.k e
 have e2 : (tkAt L i).s = w := congrArg Ky.s e
 unfold gTake
 rw [e1, e2]
 rcases hk with rfl | rfl <;> simp
theorem st_miss {k : Nat} {s w : Str} {n : Nat} {b : Bool} {ks : List Ky} {i : Nat} (h : Stand L i (⟨k, s, n, b⟩ :: ks)) (hk : s ≠ w) : gTake L w i = false := by
 have e2 : (tkAt L i).s = s := congrArg Ky.s h.2.1
 unfold gTake
 rw [e2, beq_false_of_ne hk]; rfl
theorem st_need {k : Nat} {w : Str} {n : Nat} {b : Bool} {ks : List Ky} {i : Nat} (h : Stand L i (⟨k, w, n, b⟩ :: ks)) (hk : k = 1 ∨ k = 4) : gNeeds L [w] i = .ok () (i + 1) := by
 simp [gNeeds, gNeed, st_take h hk]
theorem st_of {k : Nat} {s : Str} {n : Nat} {b : Bool} {ks : List Ky} {i : Nat} {p : Tk → Bool} (h : Stand L i (⟨k, s, n, b⟩ :: ks)) (hp : p (tkAt L i) = true) : gOf L k p i = .ok (tkAt L i) (i + 1) := by
 have e1 : (tkAt L i).k = k := congrArg Ky.k h.2.1
 unfold gOf
 rw [if_pos ⟨e1, hp⟩]
theorem st_name {s : Str} {n : Nat} {b : Bool} {ks : List Ky} {i : Nat} (h : Stand L i (⟨1, s, n, b⟩ :: ks)) : gName L i = .ok s (i + 1) := by
 have e2 : (tkAt L i).s = s := congrArg Ky.s h.2.1
 unfold gName
 rw [st_of h rfl, PR.bind_ok, e2]
theorem st_num {s : Str} {u : Nat} {ks : List Ky} {i : Nat} (h : Stand L i (⟨2, s, u, false⟩ :: ks)) (hu : u ≤ 1073741824) : gNum L i = .ok (u : Int) (i + 1) := by
 have e2 : (tkAt L i).n = u := congrArg Ky.n h.2.1
 have e3 : (tkAt L i).neg = false := congrArg Ky.neg h.2.1
 unfold gNum
 rw [st_of h (by unfold numP; rw [e2, e3]; simpa using hu), PR.bind_ok, e2]
theorem st_given {b : Bool} {s : Str} {n u : Nat} {ks : List Ky} {i : Nat} (h : Stand L i (⟨4, [61], n, b⟩ :: ⟨2, s, u, false⟩ :: ks)) (hu : u ≤ 1073741824) : gGiven L i = .ok (u : Int) (i + 1 + 1) := by
 unfold gGiven
 rw [st_need h (.inr rfl), PR.bind_ok, st_num h.tl hu]
theorem ofT_word {t : Int} (h : wordOf t ≠ []) : ofT (wordOf t) = t ∧ t ≠ 0 := by
 have : t = 1 ∨ t = 2 ∨ t = 3 ∨ t = 4 ∨ t = 5 ∨ t = 6 ∨ t = 7 ∨ t = 8 ∨ t = 9 ∨ t = 10 ∨ t = 11 ∨ t = 12 ∨ t = 13 := by
  apply Classical.byContradiction
  intro hn
  exact h (wordOf_out (by omega))
 rcases this with rfl | rfl | rfl | rfl | rfl | rfl | rfl | rfl | rfl | rfl | rfl | rfl | rfl <;> decide
theorem st_ty {t : Int} {n : Nat} {b : Bool} {ks : List Ky} {i : Nat} {such : Int → Bool} (h : Stand L i (⟨1, wordOf t, n, b⟩ :: ks)) (ht : wordOf t ≠ []) (hs : such t = true) : gTy L such i = .ok t (i + 1) := by
 have e2 : (tkAt L i).s = wordOf t := congrArg Ky.s h.2.1
 have h0 := ofT_word ht
 unfold gTy
 rw [st_of h (by unfold tyP; rw [e2, h0.1, hs]; simpa using h0.2), PR.bind_ok, e2, h0.1]
theorem rdT_split {t : Int} {n : Nat} (hw : wholeT t = true) (hm : mayT t n = true) (hn : n < 18446744073709551616) :
  rdT t (splitT t n).far ((splitT t n).neg && decide ((splitT t n).far ≠ 0)) = some n ∧ (splitT t n).far < 18446744073709551616 ∧ ¬ ((splitT t n).neg = true ∧ 9223372036854775808 < (splitT t n).far) := by
 unfold splitT
 by_cases h : signT t = true ∧ 9223372036854775808 ≤ n
 ·rw [if_pos h]
  have h0 : 18446744073709551616 - n ≠ 0 := by omega
  refine ⟨?_, by dsimp only; omega, fun ⟨_, hb⟩ => by dsimp only at hb; omega⟩
  have e : ((true && decide (18446744073709551616 - n ≠ 0)) : Bool) = true := by simp; omega
  unfold rdT
  dsimp only
  rw [e, if_neg (by simp [hw]), if_pos ⟨rfl, by omega⟩, if_neg (by rw [h.1]; exact fun h1 => h1.elim (fun h2 => nomatch h2) (fun h2 => by omega)), show 18446744073709551616 - (18446744073709551616 - n) = n by omega, if_pos hm]
 ·rw [if_neg h]
  refine ⟨?_, hn, fun ⟨ha, _⟩ => by cases ha⟩
  unfold rdT
  dsimp only
  rw [if_neg (by simp [hw]), Bool.false_and, if_neg (by simp), if_neg h, if_pos hm]
/-! ### the pieces of a step's text -/
def natOf (n : Int) : Pc := .nu n.toNat false
def sp : Pc := .bl 32
def wTo : Pc := .wd [116, 111]
def wInto : Pc := .wd [105, 110, 116, 111]
def morePcs : List Str → List Pc
 | [] => []
 | s :: l => .mk 44 :: sp :: .wd s :: morePcs l
def namesPcs : List Str → List Pc
 | [] => []
 | s :: l => .wd s :: morePcs l
def valPcs (t : Int) (v : Val) : List Pc :=
 if t = 7 then (if v.n = 1 then [.wd [116, 114, 117, 101]] else [.wd [102, 97, 108, 115, 101]])
 else if t = 12 ∨ t = 13 then [.tx v.s]
 else [.nu (splitT t v.n).far (splitT t v.n).neg]
/-- behind the field -/
def bodyPcs (x : Stp) : List Pc :=
 if x.kind = 1 then [sp, wTo, sp, .wd x.dest]
 else if x.kind = 2 then [sp, wTo, sp, natOf x.num]
 else if x.kind = 3 then [sp, wTo, sp, .wd (wordOf x.ty)]
 else if x.kind = 4 then [sp, wInto, sp, .wd x.dest, sp, .mk 61, sp, natOf x.num, .mk 44, sp, .wd x.also, sp, .mk 61, sp, natOf x.other]
 else if x.kind = 5 then [.mk 44, sp, .wd x.also, sp, wInto, sp, .wd x.dest, sp, .mk 61, sp, natOf x.num]
 else if x.kind = 6 then [sp, wInto, sp, .wd x.dest, sp, .wd [97, 115], sp, .wd x.also, sp, .mk 61, sp, natOf x.num]
 else if x.kind = 8 then sp :: .wd [111, 102] :: sp :: namesPcs x.names
 else if x.kind = 9 then sp :: .mk 61 :: sp :: natOf x.num :: sp :: .wd (wordOf x.ty) :: sp :: .wd [100, 101, 102, 97, 117, 108, 116] :: sp :: valPcs x.ty x.dv
 else []
def kindWord (k : Int) : Str := stepWords.getD (k.toNat - 1) []
def headPcs (x : Stp) : List Pc := [.wd (kindWord x.kind), sp, .wd x.msg, .mk 46, .wd x.field]
def stepPcs (x : Stp) : List Pc := headPcs x ++ (bodyPcs x ++ [.mk 59])
def linePcs (x : Stp) : List Pc := stepPcs x ++ [.bl 10]
def allPcs : List Stp → List Pc
 | [] => []
 | x :: l => linePcs x ++ allPcs l
/-! ### they are pieces -/
theorem name_own {s : Str} (h : nameOK s = true) : (Pc.wd s).own := by
 simp only [nameOK, Bool.and_eq_true] at h
 obtain ⟨⟨⟨_, h1⟩, h2⟩, _⟩ := h
 refine ⟨?_, ?_⟩
 ·unfold letter at h1
  unfold isLet
  simpa using h1
 ·rw [List.all_eq_true] at h2 ⊢
  intro c hc
  have := h2 c hc
  simp only [idc, letter, isWd, isLet, isDig, Bool.or_eq_true, Bool.and_eq_true, decide_eq_true_eq] at this ⊢
  omega
theorem fnum_own {n : Int} (h : fnum n = true) : (natOf n).own ∧ n.toNat ≤ 1073741824 ∧ (n.toNat : Int) = n := by
 simp only [fnum, Bool.and_eq_true, decide_eq_true_eq] at h
 refine ⟨⟨by omega, fun e => by cases e.1⟩, by omega, by omega⟩
theorem more_fine : ∀ {l : List Str} {m : List Pc}, (∀ s ∈ l, nameOK s = true) → (∀ c r, m = c :: r → c.ends = true) → m ≠ [] → Fine m → ∀ {s : Str}, nameOK s = true → Fine (.wd s :: (morePcs l ++ m))
 | [], [], _, _, h, _, _, _ => absurd rfl h
 | [], c :: r, _, hm, _, hf, s, hs => ⟨name_own hs, .inr (hm c r rfl), hf⟩
 | a :: l, m, hl, hm, hn, hf, s, hs => ⟨name_own hs, .inr rfl, rfl, .inl rfl, rfl, .inl rfl, more_fine (fun x hx => hl x (List.mem_cons_of_mem _ hx)) hm hn hf (hl a (List.mem_cons_self ..))⟩
theorem word_own {t : Int} (h : wordOf t ≠ []) : (Pc.wd (wordOf t)).own := by
 have : t = 1 ∨ t = 2 ∨ t = 3 ∨ t = 4 ∨ t = 5 ∨ t = 6 ∨ t = 7 ∨ t = 8 ∨ t = 9 ∨ t = 10 ∨ t = 11 ∨ t = 12 ∨ t = 13 := by
  apply Classical.byContradiction
  intro hn
  exact h (wordOf_out (by omega))
 rcases this with rfl | rfl | rfl | rfl | rfl | rfl | rfl | rfl | rfl | rfl | rfl | rfl | rfl <;> exact ⟨by decide, by decide⟩
/-- what a right step has -/
structure RS (x : Stp) : Prop where
 k : 1 ≤ x.kind ∧ x.kind ≤ 10
 m : nameOK x.msg = true
 f : nameOK x.field = true
 d : nmT (shapeT x.kind).dst x.dest = true
 a : nmT (shapeT x.kind).als x.also = true
 n : nuT (shapeT x.kind).num x.num = true
 o : nuT (shapeT x.kind).oth x.other = true
 t : x.typed = true
 l : lsT (shapeT x.kind).nms x.names = true
 v : vlT (shapeT x.kind).dv x.ty x.dv = true
 u : x.dv.n < 18446744073709551616
theorem RS.of {x : Stp} (h : x.right = true) (hu : x.dv.n < 18446744073709551616) : RS x := by
 simp only [Stp.right, Bool.and_eq_true, decide_eq_true_eq] at h
 obtain ⟨⟨⟨⟨⟨⟨⟨⟨⟨⟨h1, h2⟩, h3⟩, h4⟩, h5⟩, h6⟩, h7⟩, h8⟩, h9⟩, h10⟩, h11⟩ := h
 exact ⟨⟨h1, h2⟩, h3, h4, h5, h6, h7, h8, h9, h10, h11, hu⟩
end
/- Plain laws: the text of right steps is read as them. No condition. -/
section
variable {L : List Tk}
theorem kind_ten {k : Int} (h : 1 ≤ k ∧ k ≤ 10) : stepKind (kindWord k) = k ∧ (Pc.wd (kindWord k)).own := by
 have : k = 1 ∨ k = 2 ∨ k = 3 ∨ k = 4 ∨ k = 5 ∨ k = 6 ∨ k = 7 ∨ k = 8 ∨ k = 9 ∨ k = 10 := by omega
 rcases this with rfl | rfl | rfl | rfl | rfl | rfl | rfl | rfl | rfl | rfl <;> exact ⟨by decide, by decide, by decide⟩
theorem st_head {k : Int} {m f : Str} {ks : List Ky} {i : Nat} (hk : 1 ≤ k ∧ k ≤ 10) (h : Stand L i (⟨1, kindWord k, 0, false⟩ :: ⟨1, m, 0, false⟩ :: ⟨4, [46], 0, false⟩ :: ⟨1, f, 0, false⟩ :: ks)) :
  gStep L i = gRest L { stp0 with kind := k, msg := m, field := f } (i + 1 + 1 + 1 + 1) ∧ Stand L (i + 1 + 1 + 1 + 1) ks := by
 have e2 : (tkAt L i).s = kindWord k := congrArg Ky.s h.2.1
 have hK : gKind L i = .ok k (i + 1) := by
  unfold gKind
  rw [st_of h (by unfold kindP; rw [e2, (kind_ten hk).1]; simp; omega), PR.bind_ok, e2, (kind_ten hk).1]
 refine ⟨?_, h.tl.tl.tl.tl⟩
 unfold gStep
 rw [hK, PR.bind_ok, st_name h.tl, PR.bind_ok, st_need h.tl.tl (.inr rfl), PR.bind_ok, st_name h.tl.tl.tl, PR.bind_ok]
theorem st_more : ∀ (l : List Str) (n : Nat) (acc : List Str) (i : Nat) (ks : List Ky), Stand L i (pkeys (morePcs l) ++ ⟨4, [59], 0, false⟩ :: ks) → l.length ≤ n → gMore L n acc i = .ok (acc ++ l) (i + (pkeys (morePcs l)).length)
 | [], 0, acc, i, ks, h, _ => by simp [gMore, morePcs, pkeys]
 | [], n + 1, acc, i, ks, h, _ => by
  unfold gMore
  rw [if_neg (by rw [st_miss (w := [44]) h (by decide)]; decide)]
  simp [morePcs, pkeys]
 | s :: l, 0, acc, i, ks, _, hn => by simp at hn
 | s :: l, n + 1, acc, i, ks, h, hn => by
  have h' : Stand L i (⟨4, [44], 0, false⟩ :: ⟨1, s, 0, false⟩ :: (pkeys (morePcs l) ++ ⟨4, [59], 0, false⟩ :: ks)) := h
  unfold gMore
  rw [if_pos (st_take h' (.inr rfl)), st_name h'.tl, PR.bind_ok, st_more l n (acc ++ [s]) (i + 1 + 1) ks h'.tl.tl (by simpa using hn)]
  have e : (pkeys (morePcs (s :: l))).length = (pkeys (morePcs l)).length + 1 + 1 := rfl
  rw [e]
  simp only [List.append_assoc, List.cons_append, List.nil_append]
  congr 1; omega
theorem more_len (l : List Str) : (pkeys (morePcs l)).length = 2 * l.length := by
 induction l with
 | nil => rfl
 | cons s l ih =>
  have e : (pkeys (morePcs (s :: l))).length = (pkeys (morePcs l)).length + 1 + 1 := rfl
  rw [e, ih]; simp; omega
theorem st_names {s : Str} {l : List Str} {i : Nat} {ks : List Ky} (h : Stand L i (⟨1, s, 0, false⟩ :: (pkeys (morePcs l) ++ ⟨4, [59], 0, false⟩ :: ks))) : gNames L i = .ok (s :: l) (i + 1 + (pkeys (morePcs l)).length) := by
 unfold gNames
 have hl : l.length ≤ L.length - (i + 1) := by
  have := Stand.len h.tl (by simp)
  rw [List.length_append, more_len] at this
  simp at this; omega
 rw [st_name h, PR.bind_ok, st_more l _ [s] (i + 1) ks h.tl hl]
 rfl
end
theorem val_zero {t : Int} {v : Val} (h : vlT false t v = true) : v = .mk 0 [] [] := by
 cases v with
 | mk n s m =>
  simp [vlT, Val.n, Val.s, Val.m] at h
  obtain ⟨⟨h1, rfl⟩, rfl⟩ := h
  obtain rfl : n = 0 := of_decide_eq_true h1
  rfl
theorem nm_no {s : Str} (h : nmT false s = true) : s = [] := by simpa [nmT] using h
theorem nm_yes {s : Str} (h : nmT true s = true) : nameOK s = true := by simpa [nmT] using h
theorem nu_no {n : Int} (h : nuT false n = true) : n = 0 := by simpa [nuT] using h
theorem nu_yes {n : Int} (h : nuT true n = true) : fnum n = true := by simpa [nuT] using h
theorem ls_no {l : List Str} (h : lsT false l = true) : l = [] := by simpa [lsT] using h
theorem st_val {t : Int} {v : Val} (hv : v.ok sch0 (fldT t) = true) (hu : v.n < 18446744073709551616) (hw : wordOf t ≠ []) :
  ∃ (p : Pc) (k : Ky), valPcs t v = [p] ∧ p.own ∧ p.ky = [k] ∧ ∀ (L : List Tk) (i : Nat) (ks : List Ky), Stand L i (k :: ks) → gVal L t i = .ok v (i + 1) := by
 have ht : 1 ≤ t ∧ t ≤ 13 := by
  apply Classical.byContradiction
  intro hn
  exact hw (wordOf_out (by omega))
 cases v with
 | mk n s m =>
  rw [Val.ok_eq] at hv
  simp only [Val.n, Val.s, Val.m, fldT] at hv hu
  unfold valPcs
  simp only [Val.n, Val.s]
  by_cases h7 : t = 7
  ·subst h7
   simp [show numT 7 = true from by decide] at hv
   obtain ⟨⟨h1, rfl⟩, rfl⟩ := hv
   have h2 : n < 2 := by simpa [mayT, wideT, signT] using h1
   rw [if_pos rfl]
   by_cases hn : n = 1
   ·subst hn
    refine ⟨_, ⟨1, [116, 114, 117, 101], 0, false⟩, if_pos rfl, ⟨by decide, by decide⟩, rfl, fun L i ks h => ?_⟩
    unfold gVal
    rw [if_pos rfl, if_pos (st_take h (.inl rfl))]
   ·obtain rfl : n = 0 := by omega
    refine ⟨_, ⟨1, [102, 97, 108, 115, 101], 0, false⟩, if_neg (by decide), ⟨by decide, by decide⟩, rfl, fun L i ks h => ?_⟩
    unfold gVal
    rw [if_pos rfl, if_neg (by rw [st_miss h (by decide)]; decide), st_need h (.inl rfl), PR.bind_ok]
  ·rw [if_neg h7]
   by_cases hs : t = 12 ∨ t = 13
   ·have hm : n = 0 ∧ m = [] := by
     rcases hs with rfl | rfl
     ·simp [show numT 12 = false from by decide] at hv
      exact ⟨of_decide_eq_true hv.1.1, hv.1.2⟩
     ·simp [show numT 13 = false from by decide] at hv
      exact ⟨of_decide_eq_true hv.1, hv.2⟩
    obtain ⟨rfl, rfl⟩ := hm
    refine ⟨_, ⟨3, s, 0, false⟩, if_pos hs, trivial, rfl, fun L i ks h => ?_⟩
    have e2 : (tkAt L i).s = s := congrArg Ky.s h.2.1
    unfold gVal
    rw [if_neg h7, if_pos (by rcases hs with rfl | rfl <;> decide), st_of h rfl, PR.bind_ok, e2]
   ·have hwh : wholeT t = true := by
     simp only [wholeT, Bool.or_eq_true, Bool.and_eq_true, decide_eq_true_eq]; omega
    simp [show numT t = true from by simp [numT, hwh]] at hv
    obtain ⟨⟨h1, rfl⟩, rfl⟩ := hv
    obtain ⟨r1, r2, r3⟩ := rdT_split hwh h1 hu
    refine ⟨_, ⟨2, [], (splitT t n).far, (splitT t n).neg && decide ((splitT t n).far ≠ 0)⟩, if_neg hs, ⟨r2, r3⟩, rfl, fun L i ks h => ?_⟩
    have e2 : (tkAt L i).n = (splitT t n).far := congrArg Ky.n h.2.1
    have e3 : (tkAt L i).neg = ((splitT t n).neg && decide ((splitT t n).far ≠ 0)) := congrArg Ky.neg h.2.1
    unfold gVal
    rw [if_neg h7, if_neg (by rw [hwh]; decide), st_of h (by unfold valP; rw [e2, e3, r1]; rfl), PR.bind_ok, e2, e3, r1]
    rfl
/-- a step's line stands for it -/
def Good (x : Stp) : Prop := Fine (linePcs x) ∧ ∀ (L : List Tk) (i : Nat), Stand L i (pkeys (linePcs x)) → gStep L i = .ok x (i + (pkeys (linePcs x)).length)
theorem RS.good {x : Stp} (h : RS x) : Good x := by
 obtain ⟨hk, hm, hf, hd, ha, hn, ho, ht, hl, hv, hu⟩ := h
 have hK := kind_ten hk
 cases x with
 | mk kind msg field dst also num other ty names dv =>
 simp only at hk hm hf hd ha hn ho ht hl hv hu hK
 have hmo := name_own hm
 have hfo := name_own hf
 have : kind = 1 ∨ kind = 2 ∨ kind = 3 ∨ kind = 4 ∨ kind = 5 ∨ kind = 6 ∨ kind = 7 ∨ kind = 8 ∨ kind = 9 ∨ kind = 10 := by omega
 rcases this with rfl | rfl | rfl | rfl | rfl | rfl | rfl | rfl | rfl | rfl
 ·obtain rfl := nm_no ha
  obtain rfl := nu_no hn
  obtain rfl := nu_no ho
  obtain rfl : ty = 0 := by simpa [Stp.typed] using ht
  obtain rfl := ls_no hl
  obtain rfl := val_zero hv
  have hd := nm_yes hd
  refine ⟨⟨hK.2, .inr rfl, rfl, .inl rfl, hmo, .inr rfl, rfl, .inl rfl, hfo, .inr rfl, rfl, .inl rfl, ⟨by decide, by decide⟩, .inr rfl, rfl, .inl rfl, name_own hd, .inr rfl, rfl, .inl rfl, rfl, rfl⟩, fun L i h => ?_⟩
  obtain ⟨e, h⟩ := st_head hk h
  rw [e]
  unfold gRest gRest0
  rw [if_pos rfl, st_need h (.inl rfl), PR.bind_ok, st_name h.tl, PR.bind_ok, PR.bind_ok, st_need h.tl.tl (.inr rfl), PR.bind_ok]
  rfl
 ·obtain rfl := nm_no hd
  obtain rfl := nm_no ha
  obtain rfl := nu_no ho
  obtain rfl : ty = 0 := by simpa [Stp.typed] using ht
  obtain rfl := ls_no hl
  obtain rfl := val_zero hv
  obtain ⟨n1, n2, n3⟩ := fnum_own (nu_yes hn)
  refine ⟨⟨hK.2, .inr rfl, rfl, .inl rfl, hmo, .inr rfl, rfl, .inl rfl, hfo, .inr rfl, rfl, .inl rfl, ⟨by decide, by decide⟩, .inr rfl, rfl, .inl rfl, n1, .inr rfl, rfl, .inl rfl, rfl, rfl⟩, fun L i h => ?_⟩
  obtain ⟨e, h⟩ := st_head hk h
  rw [e]
  unfold gRest gRest0
  rw [if_neg (by simp), if_pos rfl, st_need h (.inl rfl), PR.bind_ok, st_num h.tl n2, PR.bind_ok, PR.bind_ok, st_need h.tl.tl (.inr rfl), PR.bind_ok, n3]
  rfl
 ·obtain rfl := nm_no hd
  obtain rfl := nm_no ha
  obtain rfl := nu_no hn
  obtain rfl := nu_no ho
  have hw : wholeT ty = true := by simpa [Stp.typed] using ht
  have hwd : wordOf ty ≠ [] := by
   have h13 : 1 ≤ ty ∧ ty ≤ 13 := by simp only [wholeT, Bool.or_eq_true, Bool.and_eq_true, decide_eq_true_eq] at hw; omega
   intro e
   have := @word_ne ty
   rw [e] at this
   simp at this; omega
  obtain rfl := ls_no hl
  obtain rfl := val_zero hv
  refine ⟨⟨hK.2, .inr rfl, rfl, .inl rfl, hmo, .inr rfl, rfl, .inl rfl, hfo, .inr rfl, rfl, .inl rfl, ⟨by decide, by decide⟩, .inr rfl, rfl, .inl rfl, word_own hwd, .inr rfl, rfl, .inl rfl, rfl, rfl⟩, fun L i h => ?_⟩
  obtain ⟨e, h⟩ := st_head hk h
  rw [e]
  unfold gRest gRest0
  rw [if_neg (by simp), if_neg (by simp), if_pos rfl, st_need h (.inl rfl), PR.bind_ok, st_ty h.tl hwd hw, PR.bind_ok, PR.bind_ok, st_need h.tl.tl (.inr rfl), PR.bind_ok]
  rfl
 ·obtain rfl : ty = 0 := by simpa [Stp.typed] using ht
  obtain rfl := ls_no hl
  obtain rfl := val_zero hv
  have hd := nm_yes hd
  have ha := nm_yes ha
  obtain ⟨n1, n2, n3⟩ := fnum_own (nu_yes hn)
  obtain ⟨o1, o2, o3⟩ := fnum_own (nu_yes ho)
  refine ⟨⟨hK.2, .inr rfl, rfl, .inl rfl, hmo, .inr rfl, rfl, .inl rfl, hfo, .inr rfl, rfl, .inl rfl, ⟨by decide, by decide⟩, .inr rfl, rfl, .inl rfl, name_own hd, .inr rfl, rfl, .inl rfl, rfl, .inl rfl, rfl, .inl rfl, n1, .inr rfl, rfl, .inl rfl, rfl, .inl rfl, name_own ha, .inr rfl, rfl, .inl rfl, rfl, .inl rfl, rfl, .inl rfl, o1, .inr rfl, rfl, .inl rfl, rfl, rfl⟩, fun L i h => ?_⟩
  obtain ⟨e, h⟩ := st_head hk h
  rw [e]
  unfold gRest gRest0 gFields
  rw [if_neg (by simp), if_neg (by simp), if_neg (by simp), if_pos (.inl rfl), if_neg (by simp), PR.bind_ok, st_need h (.inl rfl), PR.bind_ok, st_name h.tl, PR.bind_ok, if_neg (by simp), PR.bind_ok, st_given h.tl.tl n2, PR.bind_ok, if_pos rfl, st_need h.tl.tl.tl.tl (.inr rfl), PR.bind_ok, st_name h.tl.tl.tl.tl.tl, PR.bind_ok, st_given h.tl.tl.tl.tl.tl.tl o2, PR.bind_ok, PR.bind_ok, st_need h.tl.tl.tl.tl.tl.tl.tl.tl (.inr rfl), PR.bind_ok, n3, o3]
  rfl
 ·obtain rfl := nu_no ho
  obtain rfl : ty = 0 := by simpa [Stp.typed] using ht
  obtain rfl := ls_no hl
  obtain rfl := val_zero hv
  have hd := nm_yes hd
  have ha := nm_yes ha
  obtain ⟨n1, n2, n3⟩ := fnum_own (nu_yes hn)
  refine ⟨⟨hK.2, .inr rfl, rfl, .inl rfl, hmo, .inr rfl, rfl, .inl rfl, hfo, .inr rfl, rfl, .inl rfl, rfl, .inl rfl, name_own ha, .inr rfl, rfl, .inl rfl, ⟨by decide, by decide⟩, .inr rfl, rfl, .inl rfl, name_own hd, .inr rfl, rfl, .inl rfl, rfl, .inl rfl, rfl, .inl rfl, n1, .inr rfl, rfl, .inl rfl, rfl, rfl⟩, fun L i h => ?_⟩
  obtain ⟨e, h⟩ := st_head hk h
  rw [e]
  unfold gRest gRest0 gFields
  rw [if_neg (by simp), if_neg (by simp), if_neg (by simp), if_pos (.inr (.inl rfl)), if_pos rfl, st_need h (.inr rfl), PR.bind_ok, st_name h.tl, PR.bind_ok, PR.bind_ok, st_need h.tl.tl (.inl rfl), PR.bind_ok, st_name h.tl.tl.tl, PR.bind_ok, if_neg (by simp), PR.bind_ok, st_given h.tl.tl.tl.tl n2, PR.bind_ok, if_neg (by simp), PR.bind_ok, st_need h.tl.tl.tl.tl.tl.tl (.inr rfl), PR.bind_ok, n3]
  rfl
 ·obtain rfl := nu_no ho
  obtain rfl : ty = 0 := by simpa [Stp.typed] using ht
  obtain rfl := ls_no hl
  obtain rfl := val_zero hv
  have hd := nm_yes hd
  have ha := nm_yes ha
  obtain ⟨n1, n2, n3⟩ := fnum_own (nu_yes hn)
  refine ⟨⟨hK.2, .inr rfl, rfl, .inl rfl, hmo, .inr rfl, rfl, .inl rfl, hfo, .inr rfl, rfl, .inl rfl, ⟨by decide, by decide⟩, .inr rfl, rfl, .inl rfl, name_own hd, .inr rfl, rfl, .inl rfl, ⟨by decide, by decide⟩, .inr rfl, rfl, .inl rfl, name_own ha, .inr rfl, rfl, .inl rfl, rfl, .inl rfl, rfl, .inl rfl, n1, .inr rfl, rfl, .inl rfl, rfl, rfl⟩, fun L i h => ?_⟩
  obtain ⟨e, h⟩ := st_head hk h
  rw [e]
  unfold gRest gRest0 gFields
  rw [if_neg (by simp), if_neg (by simp), if_neg (by simp), if_pos (.inr (.inr rfl)), if_neg (by simp), PR.bind_ok, st_need h (.inl rfl), PR.bind_ok, st_name h.tl, PR.bind_ok, if_pos rfl, st_need h.tl.tl (.inl rfl), PR.bind_ok, st_name h.tl.tl.tl, PR.bind_ok, PR.bind_ok, st_given h.tl.tl.tl.tl n2, PR.bind_ok, if_neg (by simp), PR.bind_ok, st_need h.tl.tl.tl.tl.tl.tl (.inr rfl), PR.bind_ok, n3]
  rfl
 ·obtain rfl := nm_no hd
  obtain rfl := nm_no ha
  obtain rfl := nu_no hn
  obtain rfl := nu_no ho
  obtain rfl : ty = 0 := by simpa [Stp.typed] using ht
  obtain rfl := ls_no hl
  obtain rfl := val_zero hv
  refine ⟨⟨hK.2, .inr rfl, rfl, .inl rfl, hmo, .inr rfl, rfl, .inl rfl, hfo, .inr rfl, rfl, .inl rfl, rfl, rfl⟩, fun L i h => ?_⟩
  obtain ⟨e, h⟩ := st_head hk h
  rw [e]
  unfold gRest gRest0
  rw [if_neg (by simp), if_neg (by simp), if_neg (by simp), if_neg (by simp), if_neg (by simp), if_neg (by simp), PR.bind_ok, st_need h (.inr rfl), PR.bind_ok]
  rfl
 ·obtain rfl := nm_no hd
  obtain rfl := nm_no ha
  obtain rfl := nu_no hn
  obtain rfl := nu_no ho
  obtain rfl : ty = 0 := by simpa [Stp.typed] using ht
  obtain rfl := val_zero hv
  have hl2 : 1 ≤ names.length ∧ ∀ s ∈ names, nameOK s = true := by
   have : lsT true names = true := hl
   simp only [lsT, if_pos, Bool.and_eq_true, decide_eq_true_eq, List.all_eq_true] at this
   exact ⟨this.1.1.1, this.1.2⟩
  cases names with
  | nil => simp at hl2
  | cons s l =>
   have hs := hl2.2 s (List.mem_cons_self ..)
   have hl3 : ∀ x ∈ l, nameOK x = true := fun x hx => hl2.2 x (List.mem_cons_of_mem _ hx)
   have hF : Fine (.wd s :: (morePcs l ++ [.mk 59, .bl 10])) := more_fine (m := [.mk 59, .bl 10]) hl3 (fun c r e => by cases e; rfl) (by simp) ⟨rfl, .inl rfl, rfl, rfl⟩ hs
   have eL : linePcs ⟨8, msg, field, [], [], 0, 0, 0, s :: l, .mk 0 [] []⟩ = [.wd (kindWord 8), sp, .wd msg, .mk 46, .wd field, sp, .wd [111, 102], sp] ++ (.wd s :: (morePcs l ++ [.mk 59, .bl 10])) := by
    simp [linePcs, stepPcs, headPcs, bodyPcs, namesPcs]
   have eK : pkeys (linePcs ⟨8, msg, field, [], [], 0, 0, 0, s :: l, .mk 0 [] []⟩) = ⟨1, kindWord 8, 0, false⟩ :: ⟨1, msg, 0, false⟩ :: ⟨4, [46], 0, false⟩ :: ⟨1, field, 0, false⟩ :: ⟨1, [111, 102], 0, false⟩ :: ⟨1, s, 0, false⟩ :: (pkeys (morePcs l) ++ [⟨4, [59], 0, false⟩]) := by
    rw [eL]
    simp [pkeys_app, pkeys, Pc.ky, sp]
   refine ⟨?_, fun L i h => ?_⟩
   ·rw [eL]
    exact Fine.app (l := [.wd (kindWord 8), sp, .wd msg, .mk 46, .wd field, sp, .wd [111, 102], sp]) ⟨hK.2, .inr rfl, rfl, .inl rfl, hmo, .inr rfl, rfl, .inl rfl, hfo, .inr rfl, rfl, .inl rfl, ⟨by decide, by decide⟩, .inr rfl, rfl, rfl⟩ hF
   ·rw [eK] at h ⊢
    obtain ⟨e, h⟩ := st_head hk h
    rw [e]
    unfold gRest gRest0
    have h59 := (Stand.app (a := pkeys (morePcs l)) h.tl.tl).2
    rw [if_neg (by simp), if_neg (by simp), if_neg (by simp), if_neg (by simp), if_pos rfl, st_need h (.inl rfl), PR.bind_ok, st_names (ks := []) h.tl, PR.bind_ok, PR.bind_ok, st_need h59 (.inr rfl), PR.bind_ok]
    simp only [List.length_cons, List.length_append, List.length_nil]
    congr 1; omega
 ·obtain rfl := nm_no hd
  obtain rfl := nm_no ha
  obtain rfl := nu_no ho
  obtain rfl := ls_no hl
  obtain ⟨n1, n2, n3⟩ := fnum_own (nu_yes hn)
  have hwd : wordOf ty ≠ [] := by simpa [Stp.typed] using ht
  have hv2 : dv.ok sch0 (fldT ty) = true := hv
  obtain ⟨p, k, v1, v2, v3, v4⟩ := st_val hv2 hu hwd
  have eL : linePcs ⟨9, msg, field, [], [], num, 0, ty, [], dv⟩ = [.wd (kindWord 9), sp, .wd msg, .mk 46, .wd field, sp, .mk 61, sp, natOf num, sp, .wd (wordOf ty), sp, .wd [100, 101, 102, 97, 117, 108, 116], sp, p, .mk 59, .bl 10] := by
   simp [linePcs, stepPcs, headPcs, bodyPcs, v1]
  have eK : pkeys (linePcs ⟨9, msg, field, [], [], num, 0, ty, [], dv⟩) = [⟨1, kindWord 9, 0, false⟩, ⟨1, msg, 0, false⟩, ⟨4, [46], 0, false⟩, ⟨1, field, 0, false⟩, ⟨4, [61], 0, false⟩, ⟨2, [], num.toNat, false⟩, ⟨1, wordOf ty, 0, false⟩, ⟨1, [100, 101, 102, 97, 117, 108, 116], 0, false⟩, k, ⟨4, [59], 0, false⟩] := by
   rw [eL]
   show [⟨1, kindWord 9, 0, false⟩, ⟨1, msg, 0, false⟩, ⟨4, [46], 0, false⟩, ⟨1, field, 0, false⟩, ⟨4, [61], 0, false⟩, ⟨2, [], num.toNat, false⟩, ⟨1, wordOf ty, 0, false⟩, ⟨1, [100, 101, 102, 97, 117, 108, 116], 0, false⟩] ++ (p.ky ++ [⟨4, [59], 0, false⟩]) = _
   rw [v3]
   rfl
  refine ⟨?_, fun L i h => ?_⟩
  ·rw [eL]
   exact ⟨hK.2, .inr rfl, rfl, .inl rfl, hmo, .inr rfl, rfl, .inl rfl, hfo, .inr rfl, rfl, .inl rfl, rfl, .inl rfl, rfl, .inl rfl, n1, .inr rfl, rfl, .inl rfl, word_own hwd, .inr rfl, rfl, .inl rfl, ⟨by decide, by decide⟩, .inr rfl, rfl, .inl rfl, v2, .inr rfl, rfl, .inl rfl, rfl, rfl⟩
  ·rw [eK] at h ⊢
   obtain ⟨e, h⟩ := st_head hk h
   rw [e]
   unfold gRest gRest0
   rw [if_neg (by simp), if_neg (by simp), if_neg (by simp), if_neg (by simp), if_neg (by simp), if_pos rfl, st_given h n2, PR.bind_ok, st_ty h.tl.tl hwd rfl, PR.bind_ok, st_need h.tl.tl.tl (.inl rfl), PR.bind_ok, v4 L _ _ h.tl.tl.tl.tl, PR.bind_ok, PR.bind_ok, st_need h.tl.tl.tl.tl.tl (.inr rfl), PR.bind_ok, n3]
   rfl
 ·obtain rfl := nm_no hd
  obtain rfl := nm_no ha
  obtain rfl := nu_no hn
  obtain rfl := nu_no ho
  obtain rfl : ty = 0 := by simpa [Stp.typed] using ht
  obtain rfl := ls_no hl
  obtain rfl := val_zero hv
  refine ⟨⟨hK.2, .inr rfl, rfl, .inl rfl, hmo, .inr rfl, rfl, .inl rfl, hfo, .inr rfl, rfl, .inl rfl, rfl, rfl⟩, fun L i h => ?_⟩
  obtain ⟨e, h⟩ := st_head hk h
  rw [e]
  unfold gRest gRest0
  rw [if_neg (by simp), if_neg (by simp), if_neg (by simp), if_neg (by simp), if_neg (by simp), if_neg (by simp), PR.bind_ok, st_need h (.inr rfl), PR.bind_ok]
  rfl
/- Plain laws: what the program reads of the text of right steps. No condition. -/
theorem all_fine : ∀ {l : List Stp}, (∀ x ∈ l, Good x) → Fine (allPcs l)
 | [], _ => trivial
 | x :: l, h => Fine.app (h x (List.mem_cons_self ..)).1 (all_fine fun y hy => h y (List.mem_cons_of_mem _ hy))
theorem line_first (x : Stp) : ∃ ks, pkeys (linePcs x) = ⟨1, kindWord x.kind, 0, false⟩ :: ks := ⟨_, rfl⟩
theorem steps_at {L : List Tk} : ∀ (l : List Stp) (n : Nat) (acc : List (Stp × Nat)) (i : Nat), (∀ x ∈ l, Good x) → Stand L i (pkeys (allPcs l)) → (tkAt L (i + (pkeys (allPcs l)).length)).k = 0 → l.length ≤ n →
  ∃ r j, gSteps L n acc i = .ok r j ∧ r.map (·.1) = acc.map (·.1) ++ l
 | [], n, acc, i, _, _, h0, _ => ⟨acc, i, gSteps_end h0, by simp⟩
 | x :: l, 0, acc, i, _, _, _, hn => by simp at hn
 | x :: l, n + 1, acc, i, hg, hs, h0, hn => by
  have e : pkeys (allPcs (x :: l)) = pkeys (linePcs x) ++ pkeys (allPcs l) := by rw [allPcs, pkeys_app]
  rw [e] at hs h0
  obtain ⟨h1, h2⟩ := hs.app
  have hk : (tkAt L i).k ≠ 0 := by
   obtain ⟨ks, ek⟩ := line_first x
   rw [ek] at h1
   have : (tkAt L i).k = 1 := congrArg Ky.k h1.2.1
   rw [this]; decide
  rw [gSteps_step (by omega) hk, (hg x (List.mem_cons_self ..)).2 L i h1, PR.bind_ok]
  obtain ⟨r, j, e1, e2⟩ := steps_at l n (acc ++ [(x, (tkAt L i).pos)]) _ (fun y hy => hg y (List.mem_cons_of_mem _ hy)) h2 (by rw [List.length_append, ← Nat.add_assoc] at h0; exact h0) (by simpa using hn)
  exact ⟨r, j, e1, by rw [e2]; simp⟩
theorem keys_long : ∀ (l : List Stp), l.length ≤ (pkeys (allPcs l)).length
 | [] => Nat.le_refl _
 | x :: l => by
  have := keys_long l
  obtain ⟨ks, ek⟩ := line_first x
  rw [allPcs, pkeys_app, ek]
  simp; omega
theorem msteps_all {l : List Stp} (hg : ∀ x ∈ l, Good x) (hs : (render (allPcs l)).length ≤ 6000) : ∃ r, mSteps (render (allPcs l)) = ⟨r, (render (allPcs l)).length, 0⟩ ∧ r.map (·.1) = l := by
 have hl := lex_render (allPcs l) 0 (all_fine hg)
 have hT : lexT (render (allPcs l)) = ptoks (allPcs l) 0 ++ [endAt (render (allPcs l)).length] := by unfold lexT; rw [hl]
 have hst : Stand (lexT (render (allPcs l))) 0 (pkeys (allPcs l)) := by
  rw [← ptoks_ky (allPcs l) 0]
  exact Stand.of (pre := []) (post := [endAt (render (allPcs l)).length]) (by rw [hT]; simp)
 have hlen : (ptoks (allPcs l) 0).length = (pkeys (allPcs l)).length := by rw [← ptoks_ky (allPcs l) 0, List.length_map]
 have hend : (tkAt (lexT (render (allPcs l))) (0 + (pkeys (allPcs l)).length)).k = 0 := by
  rw [Nat.zero_add, ← hlen, tkAt_eq (by rw [hT]; simp)]
  simp [hT, endAt]
 obtain ⟨r, j, e1, e2⟩ := steps_at l (lexT (render (allPcs l))).length [] 0 hg hst hend (by
  have := keys_long l
  rw [hT, List.length_append, hlen]; omega)
 refine ⟨r, ?_, by simpa using e2⟩
 rw [mSteps_eq hs (by rw [hl]), e1]
 rfl
theorem mparse_all {l : List Stp} (hg : ∀ x ∈ l, Good x) (hr : ∀ x ∈ l, x.right = true) (hs : (render (allPcs l)).length ≤ 6000) :
  mParse (render (allPcs l)) = if 16 < l.length then ([], (render (allPcs l)).length, 4) else (l, (render (allPcs l)).length, 0) := by
 obtain ⟨r, e, hm⟩ := msteps_all hg hs
 have hlen : r.length = l.length := by rw [← hm, List.length_map]
 unfold mParse
 rw [e]
 simp only
 rw [if_neg (by simp), hlen]
 split
 ·rfl
 ·have : r.find? (fun p => !p.1.right) = none := by
   rw [List.find?_eq_none]
   intro p hp
   have : p.1 ∈ l := by rw [← hm]; exact List.mem_map_of_mem hp
   simp [hr _ this]
  rw [this, hm]
/-- the text of a step, and of steps -/
def textT (x : Stp) : Str := if x.right then render (stepPcs x) else []
def allT (l : List Stp) : Str := if l.all Stp.right then render (allPcs l) else []
theorem name_len {s : Str} (h : nameOK s = true) : s.length ≤ 12 := by
 simp only [nameOK, Bool.and_eq_true, decide_eq_true_eq] at h; omega
theorem nm_len {b : Bool} {s : Str} (h : nmT b s = true) : s.length ≤ 12 := by
 cases b with
 | true => exact name_len (nm_yes h)
 | false => rw [nm_no h]; simp
theorem nu_len {b : Bool} {n : Int} (h : nuT b n = true) : (digs n.toNat false).length ≤ 20 ∧ 0 ≤ n ∧ n < 18446744073709551616 := by
 have hn : 0 ≤ n ∧ n ≤ 536870911 := by
  cases b with
  | true =>
   have := nu_yes h
   simp only [fnum, Bool.and_eq_true, decide_eq_true_eq] at this; omega
  | false => rw [nu_no h]; decide
 refine ⟨?_, hn.1, by omega⟩
 show (Lib.decDigits n.toNat).length ≤ 20
 exact digs_len (by omega)
theorem word_len (t : Int) : (wordOf t).length ≤ 8 := by
 by_cases h : t < 1 ∨ 13 < t
 ·rw [wordOf_out h]; simp
 ·have : t = 1 ∨ t = 2 ∨ t = 3 ∨ t = 4 ∨ t = 5 ∨ t = 6 ∨ t = 7 ∨ t = 8 ∨ t = 9 ∨ t = 10 ∨ t = 11 ∨ t = 12 ∨ t = 13 := by omega
  rcases this with rfl | rfl | rfl | rfl | rfl | rfl | rfl | rfl | rfl | rfl | rfl | rfl | rfl <;> decide
theorem more_short : ∀ {l : List Str}, (∀ s ∈ l, s.length ≤ 12) → (render (morePcs l)).length ≤ 14 * l.length
 | [], _ => by simp [morePcs, render]
 | s :: l, h => by
  have := more_short fun x hx => h x (List.mem_cons_of_mem _ hx)
  have h2 := h s (List.mem_cons_self ..)
  simp [morePcs, render, Pc.txt, sp]; omega
theorem names_short {l : List Str} (h : ∀ s ∈ l, s.length ≤ 12) : (render (namesPcs l)).length ≤ 14 * l.length + 12 := by
 cases l with
 | nil => simp [namesPcs, render]
 | cons s l =>
  have := more_short fun x hx => h x (List.mem_cons_of_mem _ hx)
  have h2 := h s (List.mem_cons_self ..)
  simp [namesPcs, render, Pc.txt]; omega
theorem ls_len {b : Bool} {l : List Str} (h : lsT b l = true) : l.length ≤ 10 ∧ ∀ s ∈ l, s.length ≤ 12 := by
 cases b with
 | true =>
  simp only [lsT, if_pos, Bool.and_eq_true, decide_eq_true_eq, List.all_eq_true] at h
  exact ⟨h.1.1.2, fun s hs => name_len (h.1.2 s hs)⟩
 | false => rw [ls_no h]; simp
theorem digs_len1 {u : Nat} {neg : Bool} (h : u < 18446744073709551616) : (digs u neg).length ≤ 21 := by
 have := digs_len h
 unfold digs
 split
 ·simp; omega
 ·omega
theorem split_far {t : Int} {n : Nat} (h : n < 18446744073709551616) : (splitT t n).far < 18446744073709551616 := by
 unfold splitT
 split
 ·dsimp only; omega
 ·exact h
theorem val_short {t : Int} {v : Val} (hn : v.n < 18446744073709551616) (hs : v.s.length ≤ 8000) : (render (valPcs t v)).length ≤ 16002 := by
 unfold valPcs
 split
 ·split <;> simp [render, Pc.txt]
 ·split
  ·have := dbl_len v.s
   simp [render, Pc.txt, qot]; omega
  ·have := digs_len1 (neg := (splitT t v.n).neg) (split_far (t := t) hn)
   simp [render, Pc.txt]; omega
/-- how long what stands in a right step is -/
structure Lens (x : Stp) : Prop where
 m : x.msg.length ≤ 12
 f : x.field.length ≤ 12
 d : x.dest.length ≤ 12
 a : x.also.length ≤ 12
 n : (digs x.num.toNat false).length ≤ 20 ∧ 0 ≤ x.num ∧ x.num < 18446744073709551616
 o : (digs x.other.toNat false).length ≤ 20 ∧ 0 ≤ x.other ∧ x.other < 18446744073709551616
 l : x.names.length ≤ 10 ∧ (render (namesPcs x.names)).length ≤ 152
 w : (wordOf x.ty).length ≤ 8
theorem RS.lens {x : Stp} (h : RS x) : Lens x := by
 have hl := ls_len h.l
 refine ⟨name_len h.m, name_len h.f, nm_len h.d, nm_len h.a, nu_len h.n, nu_len h.o, ⟨hl.1, ?_⟩, word_len _⟩
 have := names_short hl.2
 omega
theorem body_short {x : Stp} (h : RS x) (hs : x.dv.s.length ≤ 8000) : (render (bodyPcs x)).length ≤ 17000 := by
 have hl := h.lens
 have h1 := hl.d
 have h2 := hl.a
 have h3 := hl.n.1
 have h4 := hl.o.1
 have h5 := hl.l.2
 have h6 := hl.w
 have h7 := val_short (t := x.ty) h.u hs
 unfold bodyPcs
 repeat' split
 all_goals simp [render, Pc.txt, sp, wTo, wInto, natOf] <;> omega
theorem line_short {x : Stp} (h : RS x) (hs : x.dv.s.length ≤ 8000) : (render (linePcs x)).length ≤ 18000 := by
 have h1 := body_short h hs
 have h2 := h.lens.m
 have h3 := h.lens.f
 have hk : (kindWord x.kind).length ≤ 12 := by
  have := h.k
  have : x.kind = 1 ∨ x.kind = 2 ∨ x.kind = 3 ∨ x.kind = 4 ∨ x.kind = 5 ∨ x.kind = 6 ∨ x.kind = 7 ∨ x.kind = 8 ∨ x.kind = 9 ∨ x.kind = 10 := by omega
  rcases this with e | e | e | e | e | e | e | e | e | e <;> rw [e] <;> decide
 unfold linePcs stepPcs headPcs
 simp [render_app, render, Pc.txt, sp] at h1 ⊢
 omega
theorem line_text {x : Stp} (h : x.right = true) : render (linePcs x) = textT x ++ [10] := by
 unfold linePcs textT
 rw [if_pos h, render_app]
 rfl
theorem all_short : ∀ {l : List Stp}, (∀ x ∈ l, RS x ∧ x.dv.s.length ≤ 8000) → (render (allPcs l)).length ≤ 18000 * l.length
 | [], _ => by simp [allPcs, render]
 | x :: l, h => by
  have h1 := all_short fun y hy => h y (List.mem_cons_of_mem _ hy)
  have h2 := h x (List.mem_cons_self ..)
  have h3 := line_short h2.1 h2.2
  rw [allPcs, render_app]
  simp; omega
theorem allPcs_app : ∀ (l m : List Stp), allPcs (l ++ m) = allPcs l ++ allPcs m
 | [], m => rfl
 | x :: l, m => by simp [allPcs, allPcs_app l m]
theorem all_nil {l : List Stp} (h : l.all Stp.right = false) : allT l = [] := by unfold allT; rw [h]; rfl
/- the document: the text of steps. -/
theorem fn118_q : isFn Tryz.prog 118 = true := by kernel_rfl
theorem fn78_q : isFn Tryz.prog 78 = true := by kernel_rfl
theorem fn80_q : isFn Tryz.prog 80 = true := by kernel_rfl
theorem fn81_q : isFn Tryz.prog 81 = true := by kernel_rfl
theorem rdigits' {k : Int} {m : Nat} {neg : Bool} (e : k = (m : Int)) (h : m < 18446744073709551616) : Pure Tryz.prog 78 [.int .u64 k, .bool neg] (.str (digs m neg)) := by subst e; exact rdigits_pure m neg h
theorem r_num24 (n : Int) (h : 0 ≤ n ∧ n < 18446744073709551616) : Pure Tryz.prog 43 [.int .i64 n] (.str (digs n.toNat false)) := by
 refine Pure.of_tri Tryz.func43 rfl rfl (ltb rfl) fun H => ?_
 refine Tri.seq (Tri.region ?_)
 refine TriL.c1 rfl (op_as (ltb rfl) rfl) ?_
 refine TriL.nil (Tri.seq (Tri.region ?_))
 refine TriL.c1 rfl (op_mv (ltb rfl) rfl) ?_
 refine TriL.c1 rfl (op_cvi (ltb rfl) un3_q un41_q rfl) ?_
 refine TriL.c1 rfl (op_call (ltb rfl) fn78_q rfl (rdigits' (m := n.toNat) (by rw [wru64 h.1 h.2]; omega) (by omega))) ?_
 refine TriL.c1 rfl (op_as (ltb rfl) rfl) ?_
 refine TriL.nil (Tri.ret ?_)
 exact ⟨.inr rfl, (ResOK.r1 rfl (.tmp rfl .nil)).cast rfl, rfl⟩
theorem r_digits (t : Int) (n : Nat) (hn : n < 18446744073709551616) : Pure Tryz.prog 81 [.int .i64 t, .int .u64 (n : Int)] (.str (if wholeT t = true ∧ mayT t n = true then digs (splitT t n).far (splitT t n).neg else [])) := by
 refine Pure.of_tri Tryz.func81 rfl rfl (ltb rfl) fun H => ?_
 refine Tri.seq (Tri.region ?_)
 refine TriL.c1 rfl (op_as (ltb rfl) rfl) ?_
 refine TriL.nil (Tri.seq (Tri.seq (Tri.region ?_)))
 refine TriL.c1 rfl (op_mv (ltb rfl) rfl) ?_
 refine TriL.c1 rfl (op_call (ltb rfl) fn37_q rfl (r_wholeT _)) ?_
 refine TriL.c1 rfl (op_un (ltb rfl) rfl rfl) ?_
 refine TriL.c1 rfl (op_mv (ltb rfl) rfl) ?_
 refine TriL.split (d := 10) rfl (fun hg1 => ?_) (fun hg1 => ?_)
 ·iterate 4 (refine TriL.skipu rfl rfl (ltb rfl) (ltb rfl) rfl hg1 ?_)
  refine TriL.c1 rfl (op_pickt (ltb rfl) rfl hg1 rfl) ?_
  refine TriL.nil ?_
  refine Tri.condT rfl rfl ?_
  refine Tri.seq (Tri.region ?_)
  refine TriL.c1 rfl (op_as (ltb rfl) rfl) ?_
  refine TriL.nil (Tri.ret ?_)
  exact ⟨.inr rfl, (ResOK.r1 rfl (.tmp rfl .nil)).cast (congrArg AV.str (by grind)), rfl⟩
 ·iterate 2 (refine TriL.g1 rfl (ltb rfl) rfl hg1 (op_mv (ltb rfl) rfl) ?_)
  refine TriL.g1 rfl (ltb rfl) rfl hg1 (op_call (ltb rfl) fn74_q rfl (r_may _ _)) ?_
  refine TriL.g1 rfl (ltb rfl) rfl hg1 (op_un (ltb rfl) rfl rfl) ?_
  refine TriL.c1 rfl (op_pickf (ltb rfl) rfl hg1 rfl) ?_
  refine TriL.nil ?_
  refine Tri.cond rfl (fun hc2 => ?_) (fun hc2 => ?_)
  ·refine Tri.seq (Tri.region ?_)
   refine TriL.c1 rfl (op_as (ltb rfl) rfl) ?_
   refine TriL.nil (Tri.ret ?_)
   exact ⟨.inr rfl, (ResOK.r1 rfl (.tmp rfl .nil)).cast (congrArg AV.str (by grind)), rfl⟩
  ·refine Tri.skip (Tri.seq (Tri.region ?_))
   iterate 2 (refine TriL.c1 rfl (op_mv (ltb rfl) rfl) ?_)
   refine TriL.c1 rfl (op_call (ltb rfl) fn118_q rfl (r_split t n hn)) ?_
   refine TriL.c1 rfl (op_mv (ltb rfl) rfl) ?_
   iterate 2 (refine TriL.c1 rfl (op_ext (ltb rfl) rfl rfl) ?_)
   iterate 2 (refine TriL.c1 rfl (op_as (ltb rfl) rfl) ?_)
   refine TriL.nil (Tri.seq (Tri.region ?_))
   iterate 2 (refine TriL.c1 rfl (op_mv (ltb rfl) rfl) ?_)
   refine TriL.c1 rfl (op_call (ltb rfl) fn78_q rfl (rdigits' (m := (splitT t n).far) rfl (split_far hn))) ?_
   refine TriL.c1 rfl (op_as (ltb rfl) rfl) ?_
   refine TriL.nil (Tri.ret ?_)
   exact ⟨.inr rfl, (ResOK.r1 rfl (.tmp rfl .nil)).cast (congrArg AV.str (by grind)), rfl⟩
theorem val_a {t : Int} {v : Val} (h : t = 7) (h2 : v.n = 1) : render (valPcs t v) = [116, 114, 117, 101] := by unfold valPcs; rw [if_pos h, if_pos h2]; rfl
theorem val_b {t : Int} {v : Val} (h : t = 7) (h2 : v.n ≠ 1) : render (valPcs t v) = [102, 97, 108, 115, 101] := by unfold valPcs; rw [if_pos h, if_neg h2]; rfl
theorem val_c {t : Int} {v : Val} (h : t ≠ 7) (h2 : t = 12 ∨ t = 13) : render (valPcs t v) = qot v.s := by unfold valPcs; rw [if_neg h, if_pos h2]; simp [render, Pc.txt]
theorem val_d {t : Int} {v : Val} (h : t ≠ 7) (h2 : ¬ (t = 12 ∨ t = 13)) (hw : wordOf t ≠ []) (hv : v.ok sch0 (fldT t) = true) : render (valPcs t v) = if wholeT t = true ∧ mayT t v.n = true then digs (splitT t v.n).far (splitT t v.n).neg else [] := by
 have ht : 1 ≤ t ∧ t ≤ 13 := by
  apply Classical.byContradiction
  intro hn
  exact hw (wordOf_out (by omega))
 have hwh : wholeT t = true := by
  simp only [wholeT, Bool.or_eq_true, Bool.and_eq_true, decide_eq_true_eq]; omega
 have hm : mayT t v.n = true := by
  rw [Val.ok_eq] at hv
  simp [show numT t = true from by simp [numT, hwh], fldT] at hv
  exact hv.1.1
 unfold valPcs
 rw [if_neg h, if_neg h2, if_pos ⟨hwh, hm⟩]
 simp [render, Pc.txt]
theorem r_value (t : Int) (v : Val) (hw : wordOf t ≠ []) (hv : v.ok sch0 (fldT t) = true) (hn : v.n < 18446744073709551616) (hs : v.s.length ≤ 8000) : Pure Tryz.prog 46 [.int .i64 t, .agg v.cells] (.str (render (valPcs t v))) := by
 refine Pure.of_tri Tryz.func46 rfl rfl (ltb rfl) fun H => ?_
 refine Tri.seq (Tri.region ?_)
 refine TriL.c2 rfl (op_box (ltb rfl) rfl rfl rfl) ?_
 refine TriL.c1 rfl (op_as (ltb rfl) rfl) ?_
 refine TriL.nil (Tri.seq (Tri.seq (Tri.region ?_)))
 refine TriL.c1 rfl (op_mv (ltb rfl) rfl) ?_
 refine TriL.c1 rfl (op_bin (ltb rfl) rfl rfl rfl) ?_
 refine TriL.nil ?_
 refine Tri.cond rfl (fun hc1 => ?_) (fun hc1 => ?_)
 ·refine Tri.seq (Tri.seq (Tri.region ?_))
  refine TriL.c1 rfl (op_fal (ltb rfl) fo44_0_q rfl) ?_
  refine TriL.c1 rfl (op_ldl (ltb rfl) lk41_q rfl rfl rfl) ?_
  refine TriL.c1 rfl (op_bin (ltb rfl) rfl rfl rfl) ?_
  refine TriL.nil ?_
  refine Tri.cond rfl (fun hc2 => ?_) (fun hc2 => ?_)
  ·refine Tri.seq (Tri.region ?_)
   refine TriL.c1 rfl (op_as (ltb rfl) rfl) ?_
   refine TriL.nil (Tri.ret ?_)
   exact ⟨.inr rfl, (ResOK.r1 rfl (.tmp rfl .nil)).cast (congrArg AV.str (by first | (rw [val_a (by simp_all) (by simp_all; omega)]; done) | (rw [val_b (by simp_all) (by simp_all; omega)]; done) | (rw [val_c (by simp_all) (by simp_all)]; done) | (rw [val_c (by simp_all; omega) (by simp_all)]; done) | (rw [val_d (by simp_all) (by simp_all) hw hv]; done))), rfl⟩
  ·refine Tri.skip (Tri.seq (Tri.region ?_))
   refine TriL.c1 rfl (op_as (ltb rfl) rfl) ?_
   refine TriL.nil (Tri.ret ?_)
   exact ⟨.inr rfl, (ResOK.r1 rfl (.tmp rfl .nil)).cast (congrArg AV.str (by first | (rw [val_a (by simp_all) (by simp_all; omega)]; done) | (rw [val_b (by simp_all) (by simp_all; omega)]; done) | (rw [val_c (by simp_all) (by simp_all)]; done) | (rw [val_c (by simp_all; omega) (by simp_all)]; done) | (rw [val_d (by simp_all) (by simp_all) hw hv]; done))), rfl⟩
 ·refine Tri.skip (Tri.seq (Tri.seq (Tri.region ?_)))
  refine TriL.c1 rfl (op_mv (ltb rfl) rfl) ?_
  refine TriL.c1 rfl (op_bin (ltb rfl) rfl rfl rfl) ?_
  refine TriL.c1 rfl (op_mv (ltb rfl) rfl) ?_
  refine TriL.split (d := 12) rfl (fun hg3 => ?_) (fun hg3 => ?_)
  ·iterate 2 (refine TriL.skipu rfl rfl (ltb rfl) (ltb rfl) rfl hg3 ?_)
   refine TriL.c1 rfl (op_pickt (ltb rfl) rfl hg3 rfl) ?_
   refine TriL.nil ?_
   refine Tri.condT rfl rfl ?_
   refine Tri.seq (Tri.region ?_)
   refine TriL.c1 rfl (op_fal (ltb rfl) fo44_1_q rfl) ?_
   refine TriL.c1 rfl (op_ldl (ltb rfl) lk9_q rfl rfl rfl) ?_
   refine TriL.c1 rfl (op_call (ltb rfl) fn80_q rfl (rquote_pure v.s (by omega))) ?_
   refine TriL.c1 rfl (op_as (ltb rfl) rfl) ?_
   refine TriL.nil (Tri.ret ?_)
   exact ⟨.inr rfl, (ResOK.r1 rfl (.tmp rfl .nil)).cast (congrArg AV.str (by first | (rw [val_a (by simp_all) (by simp_all; omega)]; done) | (rw [val_b (by simp_all) (by simp_all; omega)]; done) | (rw [val_c (by simp_all) (by simp_all)]; done) | (rw [val_c (by simp_all; omega) (by simp_all)]; done) | (rw [val_d (by simp_all) (by simp_all) hw hv]; done))), rfl⟩
  ·refine TriL.g1 rfl (ltb rfl) rfl hg3 (op_mv (ltb rfl) rfl) ?_
   refine TriL.g1 rfl (ltb rfl) rfl hg3 (op_bin (ltb rfl) rfl rfl rfl) ?_
   refine TriL.c1 rfl (op_pickf (ltb rfl) rfl hg3 rfl) ?_
   refine TriL.nil ?_
   refine Tri.cond rfl (fun hc4 => ?_) (fun hc4 => ?_)
   ·refine Tri.seq (Tri.region ?_)
    refine TriL.c1 rfl (op_fal (ltb rfl) fo44_1_q rfl) ?_
    refine TriL.c1 rfl (op_ldl (ltb rfl) lk9_q rfl rfl rfl) ?_
    refine TriL.c1 rfl (op_call (ltb rfl) fn80_q rfl (rquote_pure v.s (by omega))) ?_
    refine TriL.c1 rfl (op_as (ltb rfl) rfl) ?_
    refine TriL.nil (Tri.ret ?_)
    exact ⟨.inr rfl, (ResOK.r1 rfl (.tmp rfl .nil)).cast (congrArg AV.str (by first | (rw [val_a (by simp_all) (by simp_all; omega)]; done) | (rw [val_b (by simp_all) (by simp_all; omega)]; done) | (rw [val_c (by simp_all) (by simp_all)]; done) | (rw [val_c (by simp_all; omega) (by simp_all)]; done) | (rw [val_d (by simp_all) (by simp_all) hw hv]; done))), rfl⟩
   ·refine Tri.skip (Tri.seq (Tri.region ?_))
    refine TriL.c1 rfl (op_mv (ltb rfl) rfl) ?_
    refine TriL.c1 rfl (op_fal (ltb rfl) fo44_0_q rfl) ?_
    refine TriL.c1 rfl (op_ldl (ltb rfl) lk41_q rfl rfl rfl) ?_
    refine TriL.c1 rfl (op_call (ltb rfl) fn81_q rfl (r_digits t v.n hn)) ?_
    refine TriL.c1 rfl (op_as (ltb rfl) rfl) ?_
    refine TriL.nil (Tri.ret ?_)
    exact ⟨.inr rfl, (ResOK.r1 rfl (.tmp rfl .nil)).cast (congrArg AV.str (by first | (rw [val_a (by simp_all) (by simp_all; omega)]; done) | (rw [val_b (by simp_all) (by simp_all; omega)]; done) | (rw [val_c (by simp_all) (by simp_all)]; done) | (rw [val_c (by simp_all; omega) (by simp_all)]; done) | (rw [val_d (by simp_all) (by simp_all) hw hv]; done))), rfl⟩
theorem more_app : ∀ (l m : List Str), morePcs (l ++ m) = morePcs l ++ morePcs m
 | [], m => rfl
 | s :: l, m => by simp [morePcs, more_app l m]
theorem names_pos {l : List Str} {i : Nat} (hi : i < l.length) (h : 0 < i) : render (namesPcs (l.take i)) ++ [44, 32] ++ l[i] = render (namesPcs (l.take (i + 1))) := by
 cases l with
 | nil => simp at hi
 | cons s l =>
  cases i with
  | zero => omega
  | succ i =>
   have hi' : i < l.length := by simpa using hi
   have e : l.take (i + 1) = l.take i ++ [l[i]] := by rw [List.take_add_one, List.getElem?_eq_getElem hi']; rfl
   rw [List.take_succ_cons, List.take_succ_cons, e]
   simp only [namesPcs, more_app, render, render_app, morePcs, Pc.txt, sp]
   simp
theorem names_zero {l : List Str} {i : Nat} (hi : i < l.length) (h : ¬ 0 < i) : render (namesPcs (l.take i)) ++ l[i] = render (namesPcs (l.take (i + 1))) := by
 obtain rfl : i = 0 := by omega
 cases l with
 | nil => simp at hi
 | cons s l => simp [namesPcs, morePcs, render, Pc.txt]
theorem names_take {l : List Str} (h : ∀ s ∈ l, s.length ≤ 12) (h2 : l.length ≤ 10) (i : Nat) : (render (namesPcs (l.take i))).length ≤ 152 := by
 have := names_short (l := l.take i) fun s hs => h s (List.mem_of_mem_take hs)
 have h3 : (l.take i).length ≤ l.length := by rw [List.length_take]; omega
 omega
theorem r_join (l : List Str) (h : ∀ s ∈ l, s.length ≤ 12) (h2 : l.length ≤ 10) : Pure Tryz.prog 45 [.sl (l.map .str)] (.str (render (namesPcs l))) := by
 refine Pure.of_tri Tryz.func45 rfl rfl (ltb rfl) fun H => ?_
 refine Tri.seq (Tri.region ?_)
 refine TriL.c1 rfl (op_as (ltb rfl) rfl) ?_
 refine TriL.nil (Tri.seq (Tri.region ?_))
 refine TriL.c1 rfl (op_as (ltb rfl) rfl) ?_
 refine TriL.nil (Tri.seq (Tri.seq (Tri.region ?_)))
 refine TriL.c1 rfl (op_as (ltb rfl) rfl) ?_
 refine TriL.nil (Tri.blk ?_)
 refine Tri.ofKept (Kept.keep [.s 4, .s 3, .h, .s 0] rfl (by decide) (Kept.now ?_))
 -- LOOP 1
 refine Tri.loopk (fun ((i, s) : Nat × Str) => [(.s 4, .sv (.v (.int .i64 (i : Int)))), (.s 3, .sv (.v (.str s)))]) _ (fun ((i, s) : Nat × Str) => s = render (namesPcs (l.take i))) (fun ((i, s) : Nat × Str) => l.length - i) (0, _) rfl (by simp [namesPcs, render]) ?_
 rintro ⟨i, s⟩ hI
 subst hI
 refine Tri.seq (Tri.seq (Tri.region ?_))
 iterate 2 (refine TriL.c1 rfl (op_mv (ltb rfl) rfl) ?_)
 refine TriL.c1 rfl (op_lenl (ltb rfl) un40_q rfl) ?_
 refine TriL.c1 rfl (op_bin (ltb rfl) rfl rfl rfl) ?_
 refine TriL.nil ?_
 refine Tri.cond rfl (fun hc1 => ?_) (fun hc1 => ?_)
 ·have hi := ltm hc1
  refine Tri.skip (Tri.seq (Tri.blk (Tri.seq (Tri.seq (Tri.region ?_)))))
  refine TriL.c1 rfl (op_mv (ltb rfl) rfl) ?_
  refine TriL.c1 rfl (op_bin (ltb rfl) rfl rfl rfl) ?_
  refine TriL.nil ?_
  refine Tri.cond rfl (fun hc2 => ?_) (fun hc2 => ?_)
  ·-- region 6 ref.go:88
   refine Tri.region ?_
   refine TriL.c1 rfl (op_mv (ltb rfl) rfl) ?_
   refine TriL.c1 rfl (op_cat (ltb rfl) rfl rfl (by have h1 := names_take h h2 i; have h3 := h _ (List.getElem_mem hi); first | omega | (simp only [List.length_append, List.length_cons, List.length_nil]; omega))) ?_
   refine TriL.c1 rfl (op_as (ltb rfl) rfl) ?_
   refine TriL.nil (Tri.region ?_)
   iterate 3 (refine TriL.c1 rfl (op_mv (ltb rfl) rfl) ?_)
   refine TriL.c1 rfl (op_iak (ltb rfl) ie40_q rfl rfl (Int.natCast_nonneg _) (ixm hi) rfl) ?_
   refine TriL.c1 rfl (op_ldk (ltb rfl) lk9_q rfl rfl) ?_
   refine TriL.c1 rfl (op_cat (ltb rfl) rfl rfl (by have h1 := names_take h h2 i; have h3 := h _ (List.getElem_mem hi); first | omega | (simp only [List.length_append, List.length_cons, List.length_nil]; omega))) ?_
   refine TriL.c1 rfl (op_as (ltb rfl) rfl) ?_
   refine TriL.nil (Tri.region ?_)
   refine TriL.c1 rfl (op_mv (ltb rfl) rfl) ?_
   refine TriL.c1 rfl (op_bin (ltb rfl) rfl rfl rfl) ?_
   refine TriL.c1 rfl (op_as (ltb rfl) rfl) ?_
   refine TriL.kept (Kept.seti 4 rfl (inc (by omega)) (Kept.keep [.s 4, .s 3, .h, .s 0] rfl (by decide) (Kept.now ?_)))
   exact ⟨(i + 1, _), by dsimp only; omega, names_pos hi (by have := of_decide_eq_true hc2; omega), rfl⟩
  ·refine Tri.skip (Tri.region ?_)
   iterate 3 (refine TriL.c1 rfl (op_mv (ltb rfl) rfl) ?_)
   refine TriL.c1 rfl (op_iak (ltb rfl) ie40_q rfl rfl (Int.natCast_nonneg _) (ixm hi) rfl) ?_
   refine TriL.c1 rfl (op_ldk (ltb rfl) lk9_q rfl rfl) ?_
   refine TriL.c1 rfl (op_cat (ltb rfl) rfl rfl (by have h1 := names_take h h2 i; have h3 := h _ (List.getElem_mem hi); first | omega | (simp only [List.length_append, List.length_cons, List.length_nil]; omega))) ?_
   refine TriL.c1 rfl (op_as (ltb rfl) rfl) ?_
   refine TriL.nil (Tri.region ?_)
   refine TriL.c1 rfl (op_mv (ltb rfl) rfl) ?_
   refine TriL.c1 rfl (op_bin (ltb rfl) rfl rfl rfl) ?_
   refine TriL.c1 rfl (op_as (ltb rfl) rfl) ?_
   refine TriL.kept (Kept.seti 4 rfl (inc (by omega)) (Kept.keep [.s 4, .s 3, .h, .s 0] rfl (by decide) (Kept.now ?_)))
   exact ⟨(i + 1, _), by dsimp only; omega, names_zero hi (by have := of_decide_eq_false hc2; omega), rfl⟩
 ·have hi := gem hc1
  refine Tri.exit (Tri.seq (Tri.region ?_))
  refine TriL.c1 rfl (op_mv (ltb rfl) rfl) ?_
  refine TriL.c1 rfl (op_as (ltb rfl) rfl) ?_
  refine TriL.nil (Tri.ret ?_)
  exact ⟨.inr rfl, (ResOK.r1 rfl (.tmp rfl .nil)).cast (congrArg AV.str (by rw [List.take_of_length_le (by omega)])), rfl⟩
/- the document: the text of steps; MparseBack. -/
theorem fn18_q : isFn Tryz.prog 18 = true := by kernel_rfl
theorem fn43_q : isFn Tryz.prog 43 = true := by kernel_rfl
theorem fn44_q : isFn Tryz.prog 44 = true := by kernel_rfl
theorem fn45_q : isFn Tryz.prog 45 = true := by kernel_rfl
theorem fn46_q : isFn Tryz.prog 46 = true := by kernel_rfl
theorem text_1 {x : Stp} (hr : x.right = true) (hk : x.kind = 1) : [114, 101, 110, 97, 109, 101] ++ ([32] ++ x.msg ++ [46] ++ x.field) ++ [32, 116, 111, 32] ++ x.dest ++ [59] = textT x := by
 unfold textT stepPcs headPcs bodyPcs
 rw [if_pos hr]
 simp [hk, render_app, render, Pc.txt, sp, wTo, wInto, natOf, kindWord, stepWords]
theorem text_2 {x : Stp} (hr : x.right = true) (hk : x.kind = 2) : [114, 101, 110, 117, 109, 98, 101, 114] ++ ([32] ++ x.msg ++ [46] ++ x.field) ++ [32, 116, 111, 32] ++ (digs x.num.toNat false) ++ [59] = textT x := by
 unfold textT stepPcs headPcs bodyPcs
 rw [if_pos hr]
 simp [hk, render_app, render, Pc.txt, sp, wTo, wInto, natOf, kindWord, stepWords]
theorem text_3 {x : Stp} (hr : x.right = true) (hk : x.kind = 3) : [114, 101, 116, 121, 112, 101] ++ ([32] ++ x.msg ++ [46] ++ x.field) ++ [32, 116, 111, 32] ++ wordOf x.ty ++ [59] = textT x := by
 unfold textT stepPcs headPcs bodyPcs
 rw [if_pos hr]
 simp [hk, render_app, render, Pc.txt, sp, wTo, wInto, natOf, kindWord, stepWords]
theorem text_4 {x : Stp} (hr : x.right = true) (hk : x.kind = 4) : [115, 112, 108, 105, 116] ++ ([32] ++ x.msg ++ [46] ++ x.field) ++ [32, 105, 110, 116, 111, 32] ++ x.dest ++ [32, 61, 32] ++ (digs x.num.toNat false) ++ [44, 32] ++ x.also ++ [32, 61, 32] ++ (digs x.other.toNat false) ++ [59] = textT x := by
 unfold textT stepPcs headPcs bodyPcs
 rw [if_pos hr]
 simp [hk, render_app, render, Pc.txt, sp, wTo, wInto, natOf, kindWord, stepWords]
theorem text_5 {x : Stp} (hr : x.right = true) (hk : x.kind = 5) : [106, 111, 105, 110] ++ ([32] ++ x.msg ++ [46] ++ x.field) ++ [44, 32] ++ x.also ++ [32, 105, 110, 116, 111, 32] ++ x.dest ++ [32, 61, 32] ++ (digs x.num.toNat false) ++ [59] = textT x := by
 unfold textT stepPcs headPcs bodyPcs
 rw [if_pos hr]
 simp [hk, render_app, render, Pc.txt, sp, wTo, wInto, natOf, kindWord, stepWords]
theorem text_6 {x : Stp} (hr : x.right = true) (hk : x.kind = 6) : [119, 114, 97, 112] ++ ([32] ++ x.msg ++ [46] ++ x.field) ++ [32, 105, 110, 116, 111, 32] ++ x.dest ++ [32, 97, 115, 32] ++ x.also ++ [32, 61, 32] ++ (digs x.num.toNat false) ++ [59] = textT x := by
 unfold textT stepPcs headPcs bodyPcs
 rw [if_pos hr]
 simp [hk, render_app, render, Pc.txt, sp, wTo, wInto, natOf, kindWord, stepWords]
theorem text_7 {x : Stp} (hr : x.right = true) (hk : x.kind = 7) : [117, 110, 119, 114, 97, 112] ++ ([32] ++ x.msg ++ [46] ++ x.field) ++ [59] = textT x := by
 unfold textT stepPcs headPcs bodyPcs
 rw [if_pos hr]
 simp [hk, render_app, render, Pc.txt, sp, wTo, wInto, natOf, kindWord, stepWords]
theorem text_8 {x : Stp} (hr : x.right = true) (hk : x.kind = 8) : [111, 110, 101, 111, 102] ++ ([32] ++ x.msg ++ [46] ++ x.field) ++ [32, 111, 102, 32] ++ render (namesPcs x.names) ++ [59] = textT x := by
 unfold textT stepPcs headPcs bodyPcs
 rw [if_pos hr]
 simp [hk, render_app, render, Pc.txt, sp, wTo, wInto, natOf, kindWord, stepWords]
theorem text_9 {x : Stp} (hr : x.right = true) (hk : x.kind = 9) : [97, 100, 100] ++ ([32] ++ x.msg ++ [46] ++ x.field) ++ [32, 61, 32] ++ (digs x.num.toNat false) ++ [32] ++ wordOf x.ty ++ [32, 100, 101, 102, 97, 117, 108, 116, 32] ++ render (valPcs x.ty x.dv) ++ [59] = textT x := by
 unfold textT stepPcs headPcs bodyPcs
 rw [if_pos hr]
 simp [hk, render_app, render, Pc.txt, sp, wTo, wInto, natOf, kindWord, stepWords]
theorem text_10 {x : Stp} (hr : x.right = true) (hk : x.kind = 10) : [100, 114, 111, 112] ++ ([32] ++ x.msg ++ [46] ++ x.field) ++ [59] = textT x := by
 unfold textT stepPcs headPcs bodyPcs
 rw [if_pos hr]
 simp [hk, render_app, render, Pc.txt, sp, wTo, wInto, natOf, kindWord, stepWords]
theorem wd9 {x : Stp} (h : RS x) (hk : x.kind = 9) : wordOf x.ty ≠ [] := by
 have := h.t
 simpa [Stp.typed, hk] using this
theorem ok9 {x : Stp} (h : RS x) (hk : x.kind = 9) : x.dv.ok sch0 (fldT x.ty) = true := by
 have := h.v
 rw [hk] at this
 exact this
theorem r_stptext (x : Stp) (h : RS x) (hr : x.right = true) (hb : x.big) (hs : x.dv.s.length ≤ 8000) : Pure Tryz.prog 22 [x.av] (.str (textT x)) := by
 have hL := h.lens
 have hl := ls_len h.l
 have q1 := hL.m
 have q2 := hL.f
 have q3 := hL.d
 have q4 := hL.a
 have q5 := hL.n.1
 have q6 := hL.o.1
 have q7 := hL.l.2
 have q8 := hL.w
 have q9 := val_short (t := x.ty) h.u hs
 refine Pure.of_tri Tryz.func22 rfl rfl (ltb rfl) fun H => ?_
 refine Tri.seq (Tri.region ?_)
 refine TriL.c2 rfl (op_box (ltb rfl) rfl rfl rfl) ?_
 refine TriL.c1 rfl (op_as (ltb rfl) rfl) ?_
 refine TriL.nil (Tri.seq (Tri.seq (Tri.region ?_)))
 refine TriL.c1 rfl (op_ldl (ltb rfl) lk46_q rfl rfl rfl) ?_
 refine TriL.c1 rfl (op_call (ltb rfl) fn18_q rfl (r_right x hb)) ?_
 refine TriL.c1 rfl (op_un (ltb rfl) rfl rfl) ?_
 refine TriL.nil ?_
 refine Tri.condF rfl (by simp [hr]) ?_
 refine Tri.skip (Tri.seq (Tri.region ?_))
 refine TriL.c1 rfl (op_fal (ltb rfl) fo46_1_q rfl) ?_
 refine TriL.c1 rfl (op_ldl (ltb rfl) lk9_q rfl rfl rfl) ?_
 iterate 2 (refine TriL.c1 rfl (op_cat (ltb rfl) rfl rfl (by simp only [List.length_append, List.length_cons, List.length_nil] at *; omega)) ?_)
 refine TriL.c1 rfl (op_fal (ltb rfl) fo46_2_q rfl) ?_
 refine TriL.c1 rfl (op_ldl (ltb rfl) lk9_q rfl rfl rfl) ?_
 refine TriL.c1 rfl (op_cat (ltb rfl) rfl rfl (by simp only [List.length_append, List.length_cons, List.length_nil] at *; omega)) ?_
 refine TriL.c1 rfl (op_as (ltb rfl) rfl) ?_
 refine TriL.nil (Tri.seq (Tri.seq (Tri.region ?_)))
 refine TriL.c1 rfl (op_fal (ltb rfl) fo46_0_q rfl) ?_
 refine TriL.c1 rfl (op_ldl (ltb rfl) lk3_q rfl rfl rfl) ?_
 refine TriL.nil (Tri.blk (Tri.seq (Tri.region ?_)))
 refine TriL.c1 rfl (op_bin (ltb rfl) rfl rfl rfl) ?_
 refine TriL.c1 rfl (op_as (ltb rfl) rfl) ?_
 refine TriL.nil ?_
 refine Tri.cond rfl (fun hc1 => ?_) (fun hc1 => ?_)
 ·refine Tri.seq (Tri.region ?_)
  refine TriL.c1 rfl (op_mv (ltb rfl) rfl) ?_
  iterate 2 (refine TriL.c1 rfl (op_cat (ltb rfl) rfl rfl (by simp only [List.length_append, List.length_cons, List.length_nil] at *; omega)) ?_)
  refine TriL.c1 rfl (op_fal (ltb rfl) fo46_3_q rfl) ?_
  refine TriL.c1 rfl (op_ldl (ltb rfl) lk9_q rfl rfl rfl) ?_
  iterate 2 (refine TriL.c1 rfl (op_cat (ltb rfl) rfl rfl (by simp only [List.length_append, List.length_cons, List.length_nil] at *; omega)) ?_)
  refine TriL.c1 rfl (op_as (ltb rfl) rfl) ?_
  refine TriL.nil (Tri.ret ?_)
  exact ⟨.inr rfl, (ResOK.r1 rfl (.tmp rfl .nil)).cast (congrArg AV.str (text_1 hr (by simpa using hc1))), rfl⟩
 ·refine Tri.seq (Tri.region ?_)
  refine TriL.c1 rfl (op_bin (ltb rfl) rfl rfl rfl) ?_
  refine TriL.c1 rfl (op_as (ltb rfl) rfl) ?_
  refine TriL.nil ?_
  refine Tri.cond rfl (fun hc2 => ?_) (fun hc2 => ?_)
  ·refine Tri.seq (Tri.region ?_)
   refine TriL.c1 rfl (op_mv (ltb rfl) rfl) ?_
   iterate 2 (refine TriL.c1 rfl (op_cat (ltb rfl) rfl rfl (by simp only [List.length_append, List.length_cons, List.length_nil] at *; omega)) ?_)
   refine TriL.c1 rfl (op_fal (ltb rfl) fo46_5_q rfl) ?_
   refine TriL.c1 rfl (op_ldl (ltb rfl) lk3_q rfl rfl rfl) ?_
   refine TriL.c1 rfl (op_call (ltb rfl) fn43_q rfl (r_num24 _ (by first | exact hL.n.2 | exact hL.o.2))) ?_
   iterate 2 (refine TriL.c1 rfl (op_cat (ltb rfl) rfl rfl (by simp only [List.length_append, List.length_cons, List.length_nil] at *; omega)) ?_)
   refine TriL.c1 rfl (op_as (ltb rfl) rfl) ?_
   refine TriL.nil (Tri.ret ?_)
   exact ⟨.inr rfl, (ResOK.r1 rfl (.tmp rfl .nil)).cast (congrArg AV.str (text_2 hr (by simpa using hc2))), rfl⟩
  ·refine Tri.seq (Tri.region ?_)
   refine TriL.c1 rfl (op_bin (ltb rfl) rfl rfl rfl) ?_
   refine TriL.c1 rfl (op_as (ltb rfl) rfl) ?_
   refine TriL.nil ?_
   refine Tri.cond rfl (fun hc3 => ?_) (fun hc3 => ?_)
   ·refine Tri.seq (Tri.region ?_)
    refine TriL.c1 rfl (op_mv (ltb rfl) rfl) ?_
    iterate 2 (refine TriL.c1 rfl (op_cat (ltb rfl) rfl rfl (by simp only [List.length_append, List.length_cons, List.length_nil] at *; omega)) ?_)
    refine TriL.c1 rfl (op_fal (ltb rfl) fo46_7_q rfl) ?_
    refine TriL.c1 rfl (op_ldl (ltb rfl) lk3_q rfl rfl rfl) ?_
    refine TriL.c1 rfl (op_call (ltb rfl) fn44_q rfl (r_word _)) ?_
    iterate 2 (refine TriL.c1 rfl (op_cat (ltb rfl) rfl rfl (by simp only [List.length_append, List.length_cons, List.length_nil] at *; omega)) ?_)
    refine TriL.c1 rfl (op_as (ltb rfl) rfl) ?_
    refine TriL.nil (Tri.ret ?_)
    exact ⟨.inr rfl, (ResOK.r1 rfl (.tmp rfl .nil)).cast (congrArg AV.str (text_3 hr (by simpa using hc3))), rfl⟩
   ·refine Tri.seq (Tri.region ?_)
    refine TriL.c1 rfl (op_bin (ltb rfl) rfl rfl rfl) ?_
    refine TriL.c1 rfl (op_as (ltb rfl) rfl) ?_
    refine TriL.nil ?_
    refine Tri.cond rfl (fun hc4 => ?_) (fun hc4 => ?_)
    ·refine Tri.seq ?_
     refine Tri.drawn mixed rfl ?_
     refine TriD.c1 rfl (op_mv (ltb rfl) rfl) ?_
     iterate 2 (refine TriD.c1 rfl (op_cat (ltb rfl) rfl rfl (by simp only [List.length_append, List.length_cons, List.length_nil] at *; omega)) ?_)
     refine TriD.c1 rfl (op_fal (ltb rfl) fo46_3_q rfl) ?_
     refine TriD.c1 rfl (op_ldl (ltb rfl) lk9_q rfl rfl rfl) ?_
     iterate 2 (refine TriD.c1 rfl (op_cat (ltb rfl) rfl rfl (by simp only [List.length_append, List.length_cons, List.length_nil] at *; omega)) ?_)
     refine TriD.c1 rfl (op_fal (ltb rfl) fo46_5_q rfl) ?_
     refine TriD.c1 rfl (op_ldl (ltb rfl) lk3_q rfl rfl rfl) ?_
     refine TriD.c1 rfl (op_call (ltb rfl) fn43_q rfl (r_num24 _ (by first | exact hL.n.2 | exact hL.o.2))) ?_
     iterate 2 (refine TriD.c1 rfl (op_cat (ltb rfl) rfl rfl (by simp only [List.length_append, List.length_cons, List.length_nil] at *; omega)) ?_)
     refine TriD.c1 rfl (op_fal (ltb rfl) fo46_4_q rfl) ?_
     refine TriD.c1 rfl (op_ldl (ltb rfl) lk9_q rfl rfl rfl) ?_
     iterate 2 (refine TriD.c1 rfl (op_cat (ltb rfl) rfl rfl (by simp only [List.length_append, List.length_cons, List.length_nil] at *; omega)) ?_)
     refine TriD.c1 rfl (op_fal (ltb rfl) fo46_6_q rfl) ?_
     refine TriD.c1 rfl (op_ldl (ltb rfl) lk3_q rfl rfl rfl) ?_
     refine TriD.c1 rfl (op_call (ltb rfl) fn43_q rfl (r_num24 _ (by first | exact hL.n.2 | exact hL.o.2))) ?_
     iterate 2 (refine TriD.c1 rfl (op_cat (ltb rfl) rfl rfl (by simp only [List.length_append, List.length_cons, List.length_nil] at *; omega)) ?_)
     refine TriD.c1 rfl (op_as (ltb rfl) rfl) ?_
     refine TriD.nil (by kernel_rfl) (Kept.now ?_)
     refine Tri.ret ?_
     exact ⟨.inr rfl, (ResOK.r1 rfl (.tmp rfl .nil)).cast (congrArg AV.str (text_4 hr (by simpa using hc4))), rfl⟩
    ·refine Tri.seq (Tri.region ?_)
     refine TriL.c1 rfl (op_bin (ltb rfl) rfl rfl rfl) ?_
     refine TriL.c1 rfl (op_as (ltb rfl) rfl) ?_
     refine TriL.nil ?_
     refine Tri.cond rfl (fun hc5 => ?_) (fun hc5 => ?_)
     ·refine Tri.seq ?_
      refine Tri.drawn mixed rfl ?_
      refine TriD.c1 rfl (op_mv (ltb rfl) rfl) ?_
      iterate 2 (refine TriD.c1 rfl (op_cat (ltb rfl) rfl rfl (by simp only [List.length_append, List.length_cons, List.length_nil] at *; omega)) ?_)
      refine TriD.c1 rfl (op_fal (ltb rfl) fo46_4_q rfl) ?_
      refine TriD.c1 rfl (op_ldl (ltb rfl) lk9_q rfl rfl rfl) ?_
      iterate 2 (refine TriD.c1 rfl (op_cat (ltb rfl) rfl rfl (by simp only [List.length_append, List.length_cons, List.length_nil] at *; omega)) ?_)
      refine TriD.c1 rfl (op_fal (ltb rfl) fo46_3_q rfl) ?_
      refine TriD.c1 rfl (op_ldl (ltb rfl) lk9_q rfl rfl rfl) ?_
      iterate 2 (refine TriD.c1 rfl (op_cat (ltb rfl) rfl rfl (by simp only [List.length_append, List.length_cons, List.length_nil] at *; omega)) ?_)
      refine TriD.c1 rfl (op_fal (ltb rfl) fo46_5_q rfl) ?_
      refine TriD.c1 rfl (op_ldl (ltb rfl) lk3_q rfl rfl rfl) ?_
      refine TriD.c1 rfl (op_call (ltb rfl) fn43_q rfl (r_num24 _ (by first | exact hL.n.2 | exact hL.o.2))) ?_
      iterate 2 (refine TriD.c1 rfl (op_cat (ltb rfl) rfl rfl (by simp only [List.length_append, List.length_cons, List.length_nil] at *; omega)) ?_)
      refine TriD.c1 rfl (op_as (ltb rfl) rfl) ?_
      refine TriD.nil (by kernel_rfl) (Kept.now ?_)
      refine Tri.ret ?_
      exact ⟨.inr rfl, (ResOK.r1 rfl (.tmp rfl .nil)).cast (congrArg AV.str (text_5 hr (by simpa using hc5))), rfl⟩
     ·refine Tri.seq (Tri.region ?_)
      refine TriL.c1 rfl (op_bin (ltb rfl) rfl rfl rfl) ?_
      refine TriL.c1 rfl (op_as (ltb rfl) rfl) ?_
      refine TriL.nil ?_
      refine Tri.cond rfl (fun hc6 => ?_) (fun hc6 => ?_)
      ·refine Tri.seq ?_
       refine Tri.drawn mixed rfl ?_
       refine TriD.c1 rfl (op_mv (ltb rfl) rfl) ?_
       iterate 2 (refine TriD.c1 rfl (op_cat (ltb rfl) rfl rfl (by simp only [List.length_append, List.length_cons, List.length_nil] at *; omega)) ?_)
       refine TriD.c1 rfl (op_fal (ltb rfl) fo46_3_q rfl) ?_
       refine TriD.c1 rfl (op_ldl (ltb rfl) lk9_q rfl rfl rfl) ?_
       iterate 2 (refine TriD.c1 rfl (op_cat (ltb rfl) rfl rfl (by simp only [List.length_append, List.length_cons, List.length_nil] at *; omega)) ?_)
       refine TriD.c1 rfl (op_fal (ltb rfl) fo46_4_q rfl) ?_
       refine TriD.c1 rfl (op_ldl (ltb rfl) lk9_q rfl rfl rfl) ?_
       iterate 2 (refine TriD.c1 rfl (op_cat (ltb rfl) rfl rfl (by simp only [List.length_append, List.length_cons, List.length_nil] at *; omega)) ?_)
       refine TriD.c1 rfl (op_fal (ltb rfl) fo46_5_q rfl) ?_
       refine TriD.c1 rfl (op_ldl (ltb rfl) lk3_q rfl rfl rfl) ?_
       refine TriD.c1 rfl (op_call (ltb rfl) fn43_q rfl (r_num24 _ (by first | exact hL.n.2 | exact hL.o.2))) ?_
       iterate 2 (refine TriD.c1 rfl (op_cat (ltb rfl) rfl rfl (by simp only [List.length_append, List.length_cons, List.length_nil] at *; omega)) ?_)
       refine TriD.c1 rfl (op_as (ltb rfl) rfl) ?_
       refine TriD.nil (by kernel_rfl) (Kept.now ?_)
       refine Tri.ret ?_
       exact ⟨.inr rfl, (ResOK.r1 rfl (.tmp rfl .nil)).cast (congrArg AV.str (text_6 hr (by simpa using hc6))), rfl⟩
      ·refine Tri.seq (Tri.region ?_)
       refine TriL.c1 rfl (op_bin (ltb rfl) rfl rfl rfl) ?_
       refine TriL.c1 rfl (op_as (ltb rfl) rfl) ?_
       refine TriL.nil ?_
       refine Tri.cond rfl (fun hc7 => ?_) (fun hc7 => ?_)
       ·refine Tri.seq (Tri.region ?_)
        refine TriL.c1 rfl (op_mv (ltb rfl) rfl) ?_
        iterate 2 (refine TriL.c1 rfl (op_cat (ltb rfl) rfl rfl (by simp only [List.length_append, List.length_cons, List.length_nil] at *; omega)) ?_)
        refine TriL.c1 rfl (op_as (ltb rfl) rfl) ?_
        refine TriL.nil (Tri.ret ?_)
        exact ⟨.inr rfl, (ResOK.r1 rfl (.tmp rfl .nil)).cast (congrArg AV.str (text_7 hr (by simpa using hc7))), rfl⟩
       ·refine Tri.seq (Tri.region ?_)
        refine TriL.c1 rfl (op_bin (ltb rfl) rfl rfl rfl) ?_
        refine TriL.c1 rfl (op_as (ltb rfl) rfl) ?_
        refine TriL.nil ?_
        refine Tri.cond rfl (fun hc8 => ?_) (fun hc8 => ?_)
        ·refine Tri.seq (Tri.region ?_)
         refine TriL.c1 rfl (op_mv (ltb rfl) rfl) ?_
         iterate 2 (refine TriL.c1 rfl (op_cat (ltb rfl) rfl rfl (by simp only [List.length_append, List.length_cons, List.length_nil] at *; omega)) ?_)
         refine TriL.c1 rfl (op_fal (ltb rfl) fo46_8_q rfl) ?_
         refine TriL.c1 rfl (op_ldl (ltb rfl) lk40_q rfl rfl rfl) ?_
         refine TriL.c1 rfl (op_call (ltb rfl) fn45_q rfl (r_join _ hl.2 hl.1)) ?_
         iterate 2 (refine TriL.c1 rfl (op_cat (ltb rfl) rfl rfl (by simp only [List.length_append, List.length_cons, List.length_nil] at *; omega)) ?_)
         refine TriL.c1 rfl (op_as (ltb rfl) rfl) ?_
         refine TriL.nil (Tri.ret ?_)
         exact ⟨.inr rfl, (ResOK.r1 rfl (.tmp rfl .nil)).cast (congrArg AV.str (text_8 hr (by simpa using hc8))), rfl⟩
        ·refine Tri.seq (Tri.region ?_)
         refine TriL.c1 rfl (op_bin (ltb rfl) rfl rfl rfl) ?_
         refine TriL.c1 rfl (op_as (ltb rfl) rfl) ?_
         refine TriL.nil ?_
         refine Tri.cond rfl (fun hc9 => ?_) (fun hc9 => ?_)
         ·refine Tri.seq ?_
          refine Tri.drawn mixed rfl ?_
          refine TriD.c1 rfl (op_mv (ltb rfl) rfl) ?_
          iterate 2 (refine TriD.c1 rfl (op_cat (ltb rfl) rfl rfl (by simp only [List.length_append, List.length_cons, List.length_nil] at *; omega)) ?_)
          refine TriD.c1 rfl (op_fal (ltb rfl) fo46_5_q rfl) ?_
          refine TriD.c1 rfl (op_ldl (ltb rfl) lk3_q rfl rfl rfl) ?_
          refine TriD.c1 rfl (op_call (ltb rfl) fn43_q rfl (r_num24 _ (by first | exact hL.n.2 | exact hL.o.2))) ?_
          iterate 2 (refine TriD.c1 rfl (op_cat (ltb rfl) rfl rfl (by simp only [List.length_append, List.length_cons, List.length_nil] at *; omega)) ?_)
          refine TriD.c1 rfl (op_fal (ltb rfl) fo46_7_q rfl) ?_
          refine TriD.c1 rfl (op_ldl (ltb rfl) lk3_q rfl rfl rfl) ?_
          refine TriD.c1 rfl (op_call (ltb rfl) fn44_q rfl (r_word _)) ?_
          iterate 2 (refine TriD.c1 rfl (op_cat (ltb rfl) rfl rfl (by simp only [List.length_append, List.length_cons, List.length_nil] at *; omega)) ?_)
          refine TriD.c1 rfl (op_fal (ltb rfl) fo46_7_q rfl) ?_
          refine TriD.c1 rfl (op_ldl (ltb rfl) lk3_q rfl rfl rfl) ?_
          refine TriD.c1 rfl (op_fal (ltb rfl) fo46_9_q rfl) ?_
          refine TriD.c1 rfl (op_ldl (ltb rfl) lk44_q rfl rfl rfl) ?_
          refine TriD.c1 rfl (op_call (ltb rfl) fn46_q rfl (r_value _ _ (wd9 h (by simpa using hc9)) (ok9 h (by simpa using hc9)) h.u hs)) ?_
          iterate 2 (refine TriD.c1 rfl (op_cat (ltb rfl) rfl rfl (by simp only [List.length_append, List.length_cons, List.length_nil] at *; omega)) ?_)
          refine TriD.c1 rfl (op_as (ltb rfl) rfl) ?_
          refine TriD.nil (by kernel_rfl) (Kept.now ?_)
          refine Tri.ret ?_
          exact ⟨.inr rfl, (ResOK.r1 rfl (.tmp rfl .nil)).cast (congrArg AV.str (text_9 hr (by simpa using hc9))), rfl⟩
         ·refine Tri.skip (Tri.seq (Tri.region ?_))
          refine TriL.c1 rfl (op_mv (ltb rfl) rfl) ?_
          iterate 2 (refine TriL.c1 rfl (op_cat (ltb rfl) rfl rfl (by simp only [List.length_append, List.length_cons, List.length_nil] at *; omega)) ?_)
          refine TriL.c1 rfl (op_as (ltb rfl) rfl) ?_
          refine TriL.nil (Tri.ret ?_)
          exact ⟨.inr rfl, (ResOK.r1 rfl (.tmp rfl .nil)).cast (congrArg AV.str (text_10 hr (by have := h.k; simp at hc1 hc2 hc3 hc4 hc5 hc6 hc7 hc8 hc9; omega))), rfl⟩
end Go.Proofs.YtabihkfhoohfnaaGreatDoor.X
