/- the statements of the migrations' texts: what they ask. -/
import Derived.Test.YtabihkfhoohfnaaGreatDoorZAK
import Derived.Test.YtabihkfhoohfnaaGreatDoorZAE
import Derived.Test.YtabihkfhoohfnaaGreatDoorZAC
import Derived.Test.YtabihkfhoohfnaaGreatDoorRows
import Derived.ProofKit
import Derived.LaidMore
import Derived.OpenShut
import Derived.Stop.Joined
import Derived.HandedShaped
import Derived.Shelf.Vars
import Derived.LaidLaws
import Derived.Lib.LaidU8T
set_option linter.unusedVariables false
set_option linter.unusedSimpArgs false
set_option linter.unusedSectionVars false
set_option maxRecDepth 100000
namespace Go.Proofs.YtabihkfhoohfnaaGreatDoor.X
open Go Go.RowKit Go.Proofs
theorem fn10_q : isFn Tryz.prog 10 = true := by kernel_rfl
theorem fn19_q : isFn Tryz.prog 19 = true := by kernel_rfl
theorem fn20_q : isFn Tryz.prog 20 = true := by kernel_rfl
theorem fn6_q : isFn Tryz.prog 6 = true := by kernel_rfl
theorem fn7_q : isFn Tryz.prog 7 = true := by kernel_rfl
theorem fn8_q : isFn Tryz.prog 8 = true := by kernel_rfl
theorem fn9_q : isFn Tryz.prog 9 = true := by kernel_rfl
theorem se52_q : se Tryz.prog 52 = some (44, 3, 48) := by kernel_rfl
theorem zAe52_q : zeroA Tryz.prog 44 = some [AV.int IntKind.u64 (0), AV.str [], AV.sl []] := by kernel_rfl
theorem names_self (a : List Str) (ha : a.length ≤ 9223372036854775807) : Pure Tryz.prog 19 [.sl (a.map .str), .sl (a.map .str)] (.bool true) := by
 refine Pure.of_tri Tryz.func19 rfl rfl (ltb rfl) fun H => ?_
 refine Tri.seq (Tri.region ?_)
 refine TriL.c1 rfl (op_as (ltb rfl) rfl) ?_
 refine TriL.nil (Tri.seq (Tri.seq (Tri.region ?_)))
 refine TriL.c1 rfl (op_mv (ltb rfl) rfl) ?_
 refine TriL.c1 rfl (op_lenl (ltb rfl) un40_q rfl) ?_
 refine TriL.c1 rfl (op_mv (ltb rfl) rfl) ?_
 refine TriL.c1 rfl (op_lenl (ltb rfl) un40_q rfl) ?_
 refine TriL.c1 rfl (op_bin (ltb rfl) rfl rfl rfl) ?_
 refine TriL.nil ?_
 refine Tri.condF rfl (by simp) ?_
 refine Tri.skip (Tri.seq (Tri.seq (Tri.region ?_)))
 refine TriL.c1 rfl (op_as (ltb rfl) rfl) ?_
 refine TriL.nil (Tri.blk ?_)
 refine Tri.ofKept (Kept.keep [.s 5, .h, .s 0, .s 1] rfl (by decide) (Kept.now ?_))
 -- LOOP 1
 refine Tri.loopk (fun (i : Nat) => [(.s 5, .sv (.v (.int .i64 (i : Int))))]) _ (fun (i : Nat) => True) (fun (i : Nat) => a.length - i) 0 rfl trivial ?_
 rintro i hI
 refine Tri.seq (Tri.seq (Tri.region ?_))
 iterate 2 (refine TriL.c1 rfl (op_mv (ltb rfl) rfl) ?_)
 refine TriL.c1 rfl (op_lenl (ltb rfl) un40_q rfl) ?_
 refine TriL.c1 rfl (op_bin (ltb rfl) rfl rfl rfl) ?_
 refine TriL.nil ?_
 refine Tri.cond rfl (fun hc1 => ?_) (fun hc1 => ?_)
 ·have hi := ltm hc1
  refine Tri.skip (Tri.seq (Tri.blk (Tri.seq ?_)))
  refine Tri.drawn mixed rfl ?_
  iterate 2 (refine TriD.c1 rfl (op_mv (ltb rfl) rfl) ?_)
  refine TriD.c1 rfl (op_iak (ltb rfl) ie40_q rfl rfl (Int.natCast_nonneg _) (ixm hi) rfl) ?_
  refine TriD.c1 rfl (op_ldk (ltb rfl) lk9_q rfl rfl) ?_
  iterate 2 (refine TriD.c1 rfl (op_mv (ltb rfl) rfl) ?_)
  refine TriD.c1 rfl (op_iak (ltb rfl) ie40_q rfl rfl (Int.natCast_nonneg _) (ixm hi) rfl) ?_
  refine TriD.c1 rfl (op_ldk (ltb rfl) lk9_q rfl rfl) ?_
  refine TriD.c1 rfl (op_bin (ltb rfl) rfl rfl rfl) ?_
  refine TriD.nil (by kernel_rfl) (Kept.now ?_)
  refine Tri.condF rfl (by simp) ?_
  refine Tri.skip (Tri.region ?_)
  refine TriL.c1 rfl (op_mv (ltb rfl) rfl) ?_
  refine TriL.c1 rfl (op_bin (ltb rfl) rfl rfl rfl) ?_
  refine TriL.c1 rfl (op_as (ltb rfl) rfl) ?_
  refine TriL.kept (Kept.seti 5 rfl (inc (by omega)) (Kept.keep [.s 5, .h, .s 0, .s 1] rfl (by decide) (Kept.now ?_)))
  exact ⟨i + 1, by omega, trivial, rfl⟩
 ·have hi := gem hc1
  refine Tri.exit (Tri.seq (Tri.region ?_))
  refine TriL.c1 rfl (op_as (ltb rfl) rfl) ?_
  refine TriL.nil (Tri.ret ?_)
  exact ⟨.inr rfl, (ResOK.r1 rfl (.tmp rfl .nil)).cast rfl, rfl⟩
theorem samevals_self (v : Val) (h : v.m = []) : Pure Tryz.prog 20 [.sl [.agg [.int .u64 (v.n : Int), .str v.s, .sl (v.m.map Tree.av)]], .sl [.agg [.int .u64 (v.n : Int), .str v.s, .sl (v.m.map Tree.av)]]] (.bool true) := by
 have := r_samevals1 [v] [v] (by simp) (fun u hu => by simp at hu; subst hu; rw [h]; simp) (fun u hu t ht => by simp at hu; subst hu; rw [h] at ht; cases ht)
 rw [show eqb [v] [v] = true from eqb_true.2 rfl] at this
 simp only [List.map_cons, List.map_nil, Val.av_eq] at this
 exact this
theorem same_self (a : List Stp) (ha : a.length ≤ 9223372036854775807) (hn : ∀ x ∈ a, x.names.length ≤ 9223372036854775807) (hm : ∀ x ∈ a, x.dv.m = []) : Pure Tryz.prog 9 [.sl (a.map Stp.av), .sl (a.map Stp.av)] (.bool true) := by
 refine Pure.of_tri Tryz.func9 rfl rfl (ltb rfl) fun H => ?_
 refine Tri.seq (Tri.region ?_)
 refine TriL.c1 rfl (op_as (ltb rfl) rfl) ?_
 refine TriL.nil (Tri.seq (Tri.seq (Tri.region ?_)))
 refine TriL.c1 rfl (op_mv (ltb rfl) rfl) ?_
 refine TriL.c1 rfl (op_lenl (ltb rfl) un23_q rfl) ?_
 refine TriL.c1 rfl (op_mv (ltb rfl) rfl) ?_
 refine TriL.c1 rfl (op_lenl (ltb rfl) un23_q rfl) ?_
 refine TriL.c1 rfl (op_bin (ltb rfl) rfl rfl rfl) ?_
 refine TriL.nil ?_
 refine Tri.condF rfl (by simp) ?_
 refine Tri.skip (Tri.seq (Tri.seq (Tri.region ?_)))
 refine TriL.c1 rfl (op_as (ltb rfl) rfl) ?_
 refine TriL.nil (Tri.blk ?_)
 refine Tri.ofKept (Kept.keep [.s 5, .h, .s 0, .s 1] rfl (by decide) (Kept.now ?_))
 -- LOOP 1
 refine Tri.loopk (fun (i : Nat) => [(.s 5, .sv (.v (.int .i64 (i : Int))))]) _ (fun (i : Nat) => True) (fun (i : Nat) => a.length - i) 0 rfl trivial ?_
 rintro i hI
 refine Tri.seq (Tri.seq (Tri.region ?_))
 iterate 2 (refine TriL.c1 rfl (op_mv (ltb rfl) rfl) ?_)
 refine TriL.c1 rfl (op_lenl (ltb rfl) un23_q rfl) ?_
 refine TriL.c1 rfl (op_bin (ltb rfl) rfl rfl rfl) ?_
 refine TriL.nil ?_
 refine Tri.cond rfl (fun hc1 => ?_) (fun hc1 => ?_)
 ·have hi := ltm hc1
  refine Tri.skip (Tri.seq (Tri.blk (Tri.seq ?_)))
  refine Tri.drawn mixed rfl ?_
  iterate 2 (refine TriD.c1 rfl (op_mv (ltb rfl) rfl) ?_)
  refine TriD.c1 rfl (op_iak (ltb rfl) ie23_q rfl rfl (Int.natCast_nonneg _) (ixmE (fun _ => rfl) hi) rfl) ?_
  refine TriD.c1 rfl (op_ldk (ltb rfl) lk46_q rfl rfl) ?_
  iterate 2 (refine TriD.c1 rfl (op_mv (ltb rfl) rfl) ?_)
  refine TriD.c1 rfl (op_iak (ltb rfl) ie23_q rfl rfl (Int.natCast_nonneg _) (ixmE (fun _ => rfl) hi) rfl) ?_
  refine TriD.c1 rfl (op_ldk (ltb rfl) lk46_q rfl rfl) ?_
  iterate 2 (refine TriD.c2 rfl (op_all (ltb rfl) zA46_q rfl) ?_)
  iterate 2 (refine TriD.c1 rfl (op_stl lk46_q rfl rfl rfl rfl rfl (leb rfl)) ?_)
  refine TriD.nil (by kernel_rfl) (Kept.now ?_)
  refine Tri.seq (Tri.seq (Tri.region ?_))
  refine TriL.c1 rfl (op_fal (ltb rfl) fo46_0_q rfl) ?_
  refine TriL.c1 rfl (op_ldl (ltb rfl) lk3_q rfl rfl rfl) ?_
  refine TriL.c1 rfl (op_fal (ltb rfl) fo46_0_q rfl) ?_
  refine TriL.c1 rfl (op_ldl (ltb rfl) lk3_q rfl rfl rfl) ?_
  refine TriL.c1 rfl (op_bin (ltb rfl) rfl rfl rfl) ?_
  refine TriL.c1 rfl (op_mv (ltb rfl) rfl) ?_
  refine TriL.g1 rfl (ltb rfl) rfl (by simp) (op_fal (ltb rfl) fo46_1_q rfl) ?_
  refine TriL.g1 rfl (ltb rfl) rfl (by simp) (op_ldl (ltb rfl) lk9_q rfl rfl rfl) ?_
  refine TriL.g1 rfl (ltb rfl) rfl (by simp) (op_fal (ltb rfl) fo46_1_q rfl) ?_
  refine TriL.g1 rfl (ltb rfl) rfl (by simp) (op_ldl (ltb rfl) lk9_q rfl rfl rfl) ?_
  refine TriL.g1 rfl (ltb rfl) rfl (by simp) (op_bin (ltb rfl) rfl rfl rfl) ?_
  refine TriL.c1 rfl (op_pickf (ltb rfl) rfl (by simp) rfl) ?_
  refine TriL.c1 rfl (op_mv (ltb rfl) rfl) ?_
  refine TriL.g1 rfl (ltb rfl) rfl (by simp) (op_fal (ltb rfl) fo46_2_q rfl) ?_
  refine TriL.g1 rfl (ltb rfl) rfl (by simp) (op_ldl (ltb rfl) lk9_q rfl rfl rfl) ?_
  refine TriL.g1 rfl (ltb rfl) rfl (by simp) (op_fal (ltb rfl) fo46_2_q rfl) ?_
  refine TriL.g1 rfl (ltb rfl) rfl (by simp) (op_ldl (ltb rfl) lk9_q rfl rfl rfl) ?_
  refine TriL.g1 rfl (ltb rfl) rfl (by simp) (op_bin (ltb rfl) rfl rfl rfl) ?_
  refine TriL.c1 rfl (op_pickf (ltb rfl) rfl (by simp) rfl) ?_
  refine TriL.c1 rfl (op_mv (ltb rfl) rfl) ?_
  refine TriL.g1 rfl (ltb rfl) rfl (by simp) (op_fal (ltb rfl) fo46_3_q rfl) ?_
  refine TriL.g1 rfl (ltb rfl) rfl (by simp) (op_ldl (ltb rfl) lk9_q rfl rfl rfl) ?_
  refine TriL.g1 rfl (ltb rfl) rfl (by simp) (op_fal (ltb rfl) fo46_3_q rfl) ?_
  refine TriL.g1 rfl (ltb rfl) rfl (by simp) (op_ldl (ltb rfl) lk9_q rfl rfl rfl) ?_
  refine TriL.g1 rfl (ltb rfl) rfl (by simp) (op_bin (ltb rfl) rfl rfl rfl) ?_
  refine TriL.c1 rfl (op_pickf (ltb rfl) rfl (by simp) rfl) ?_
  refine TriL.c1 rfl (op_mv (ltb rfl) rfl) ?_
  refine TriL.g1 rfl (ltb rfl) rfl (by simp) (op_fal (ltb rfl) fo46_4_q rfl) ?_
  refine TriL.g1 rfl (ltb rfl) rfl (by simp) (op_ldl (ltb rfl) lk9_q rfl rfl rfl) ?_
  refine TriL.g1 rfl (ltb rfl) rfl (by simp) (op_fal (ltb rfl) fo46_4_q rfl) ?_
  refine TriL.g1 rfl (ltb rfl) rfl (by simp) (op_ldl (ltb rfl) lk9_q rfl rfl rfl) ?_
  refine TriL.g1 rfl (ltb rfl) rfl (by simp) (op_bin (ltb rfl) rfl rfl rfl) ?_
  refine TriL.c1 rfl (op_pickf (ltb rfl) rfl (by simp) rfl) ?_
  refine TriL.c1 rfl (op_mv (ltb rfl) rfl) ?_
  refine TriL.g1 rfl (ltb rfl) rfl (by simp) (op_fal (ltb rfl) fo46_5_q rfl) ?_
  refine TriL.g1 rfl (ltb rfl) rfl (by simp) (op_ldl (ltb rfl) lk3_q rfl rfl rfl) ?_
  refine TriL.g1 rfl (ltb rfl) rfl (by simp) (op_fal (ltb rfl) fo46_5_q rfl) ?_
  refine TriL.g1 rfl (ltb rfl) rfl (by simp) (op_ldl (ltb rfl) lk3_q rfl rfl rfl) ?_
  refine TriL.g1 rfl (ltb rfl) rfl (by simp) (op_bin (ltb rfl) rfl rfl rfl) ?_
  refine TriL.c1 rfl (op_pickf (ltb rfl) rfl (by simp) rfl) ?_
  refine TriL.c1 rfl (op_mv (ltb rfl) rfl) ?_
  refine TriL.g1 rfl (ltb rfl) rfl (by simp) (op_fal (ltb rfl) fo46_6_q rfl) ?_
  refine TriL.g1 rfl (ltb rfl) rfl (by simp) (op_ldl (ltb rfl) lk3_q rfl rfl rfl) ?_
  refine TriL.g1 rfl (ltb rfl) rfl (by simp) (op_fal (ltb rfl) fo46_6_q rfl) ?_
  refine TriL.g1 rfl (ltb rfl) rfl (by simp) (op_ldl (ltb rfl) lk3_q rfl rfl rfl) ?_
  refine TriL.g1 rfl (ltb rfl) rfl (by simp) (op_bin (ltb rfl) rfl rfl rfl) ?_
  refine TriL.c1 rfl (op_pickf (ltb rfl) rfl (by simp) rfl) ?_
  refine TriL.c1 rfl (op_mv (ltb rfl) rfl) ?_
  refine TriL.g1 rfl (ltb rfl) rfl (by simp) (op_fal (ltb rfl) fo46_7_q rfl) ?_
  refine TriL.g1 rfl (ltb rfl) rfl (by simp) (op_ldl (ltb rfl) lk3_q rfl rfl rfl) ?_
  refine TriL.g1 rfl (ltb rfl) rfl (by simp) (op_fal (ltb rfl) fo46_7_q rfl) ?_
  refine TriL.g1 rfl (ltb rfl) rfl (by simp) (op_ldl (ltb rfl) lk3_q rfl rfl rfl) ?_
  refine TriL.g1 rfl (ltb rfl) rfl (by simp) (op_bin (ltb rfl) rfl rfl rfl) ?_
  refine TriL.c1 rfl (op_pickf (ltb rfl) rfl (by simp) rfl) ?_
  refine TriL.nil ?_
  refine Tri.condF rfl (by simp) ?_
  refine Tri.skip (Tri.seq (Tri.region ?_))
  refine TriL.c1 rfl (op_fal (ltb rfl) fo46_8_q rfl) ?_
  refine TriL.c1 rfl (op_ldl (ltb rfl) lk40_q rfl rfl rfl) ?_
  refine TriL.c1 rfl (op_fal (ltb rfl) fo46_8_q rfl) ?_
  refine TriL.c1 rfl (op_ldl (ltb rfl) lk40_q rfl rfl rfl) ?_
  refine TriL.c1 rfl (op_call (ltb rfl) fn19_q rfl (names_self _ (hn _ (List.getElem_mem hi)))) ?_
  refine TriL.c1 rfl (op_un (ltb rfl) rfl rfl) ?_
  refine TriL.c1 rfl (op_mv (ltb rfl) rfl) ?_
  refine TriL.g1 rfl (ltb rfl) rfl (congrArg not rfl) (op_fal (ltb rfl) fo46_9_q rfl) ?_
  refine TriL.g1 rfl (ltb rfl) rfl (congrArg not rfl) (op_ldl (ltb rfl) lk44_q rfl rfl rfl) ?_
  refine TriL.g1 rfl (ltb rfl) rfl (congrArg not rfl) (op_lit («as» := [_]) (ltb rfl) se52_q zAe52_q rfl rfl rfl (leb rfl)) ?_
  refine TriL.g1 rfl (ltb rfl) rfl (congrArg not rfl) (op_fal (ltb rfl) fo46_9_q rfl) ?_
  refine TriL.g1 rfl (ltb rfl) rfl (congrArg not rfl) (op_ldl (ltb rfl) lk44_q rfl rfl rfl) ?_
  refine TriL.g1 rfl (ltb rfl) rfl (congrArg not rfl) (op_lit («as» := [_]) (ltb rfl) se52_q zAe52_q rfl rfl rfl (leb rfl)) ?_
  refine TriL.g1 rfl (ltb rfl) rfl (congrArg not rfl) (op_call (ltb rfl) fn20_q rfl (samevals_self _ (hm _ (List.getElem_mem hi)))) ?_
  refine TriL.g1 rfl (ltb rfl) rfl (congrArg not rfl) (op_un (ltb rfl) rfl rfl) ?_
  refine TriL.c1 rfl (op_pickf (ltb rfl) rfl (congrArg not rfl) rfl) ?_
  refine TriL.nil ?_
  refine Tri.condF rfl (congrArg not rfl) ?_
  refine Tri.skip (Tri.region ?_)
  refine TriL.c1 rfl (op_mv (ltb rfl) rfl) ?_
  refine TriL.c1 rfl (op_bin (ltb rfl) rfl rfl rfl) ?_
  refine TriL.c1 rfl (op_as (ltb rfl) rfl) ?_
  refine TriL.kept (Kept.seti 5 rfl (inc (by omega)) (Kept.keep [.s 5, .h, .s 0, .s 1] rfl (by decide) (Kept.now ?_)))
  exact ⟨i + 1, by omega, trivial, rfl⟩
 ·have hi := gem hc1
  refine Tri.exit (Tri.seq (Tri.region ?_))
  refine TriL.c1 rfl (op_as (ltb rfl) rfl) ?_
  refine TriL.nil (Tri.ret ?_)
  exact ⟨.inr rfl, (ResOK.r1 rfl (.tmp rfl .nil)).cast rfl, rfl⟩
theorem num_pure (n : Int) : Pure Tryz.prog 10 [.int .i64 n] (.int .i64 n) := by
 refine Pure.of_tri Tryz.func10 rfl rfl (ltb rfl) fun H => ?_
 refine Tri.seq (Tri.region ?_)
 refine TriL.c1 rfl (op_as (ltb rfl) rfl) ?_
 refine TriL.nil (Tri.seq (Tri.region ?_))
 refine TriL.c1 rfl (op_mv (ltb rfl) rfl) ?_
 refine TriL.c1 rfl (op_as (ltb rfl) rfl) ?_
 refine TriL.nil (Tri.ret ?_)
 exact ⟨.inr rfl, (ResOK.r1 rfl (.tmp rfl .nil)).cast rfl, rfl⟩
/-- the tokens, with as many steps as needed -/
def lexF : Nat → List UInt8 → Nat → List Tk × Option Nat
 | 0, _, _ => ([], none)
 | n + 1, r, p => match r with
  | [] => ([], none)
  | c :: r' =>
   if isBl c then lexF n r' (p + 1)
   else if isRem (c :: r') then lexF n ((c :: r').drop (spn noNl (c :: r') - 1 + 1)) (p + spn noNl (c :: r'))
   else
    if (nxtT (c :: r')).2 = 0 then ([], some p)
    else (⟨(nxtT (c :: r')).1.k, (nxtT (c :: r')).1.s, (nxtT (c :: r')).1.n, (nxtT (c :: r')).1.neg, p⟩ :: (lexF n ((c :: r').drop ((nxtT (c :: r')).2 - 1 + 1)) (p + (nxtT (c :: r')).2)).1, (lexF n ((c :: r').drop ((nxtT (c :: r')).2 - 1 + 1)) (p + (nxtT (c :: r')).2)).2)
theorem lexF_eq : ∀ (n : Nat) (r : List UInt8) (p : Nat), r.length < n → lexGo r p = lexF n r p
 | 0, r, p, h => by omega
 | n + 1, [], p, h => by rw [lexGo_nil]; rfl
 | n + 1, c :: r, p, h => by
  rw [lexGo, lexF]
  have e1 := lexF_eq n r (p + 1) (by simp at h; omega)
  have e2 := lexF_eq n ((c :: r).drop (spn noNl (c :: r) - 1 + 1)) (p + spn noNl (c :: r)) (by rw [List.length_drop]; simp at h ⊢; omega)
  have e3 := lexF_eq n ((c :: r).drop ((nxtT (c :: r)).2 - 1 + 1)) (p + (nxtT (c :: r)).2) (by rw [List.length_drop]; simp at h ⊢; omega)
  rw [e1, e2, e3]
def stpL : Stp := ⟨10, [77], [97], [], [], 0, 0, 0, [], .mk 0 [] []⟩
theorem live_lex1 : lexGo [100, 114, 111, 112, 32, 77, 46, 97, 59] 0 = lexF 10 [100, 114, 111, 112, 32, 77, 46, 97, 59] 0 := lexF_eq _ _ _ (by decide)
theorem live_lex2 : lexGo [100, 114, 111, 112, 32, 77, 32, 97, 59] 0 = lexF 10 [100, 114, 111, 112, 32, 77, 32, 97, 59] 0 := lexF_eq _ _ _ (by decide)
theorem live_m1 : mSteps [100, 114, 111, 112, 32, 77, 46, 97, 59] = ⟨[(stpL, 0)], 9, 0⟩ := by
 rw [mSteps_eq (by decide) (by rw [live_lex1]; rfl)]
 unfold lexT mOf
 rw [live_lex1]
 rfl
theorem live_m2 : mSteps [100, 114, 111, 112, 32, 77, 32, 97, 59] = ⟨[], 7, 2⟩ := by
 rw [mSteps_eq (by decide) (by rw [live_lex2]; rfl)]
 unfold mOf lexT
 rw [live_lex2]
 rfl
theorem live1 : Pure Tryz.prog 7 [.str [100, 114, 111, 112, 32, 77, 46, 97, 59]] (.tup [.sl [stpL.av], .int .i64 9, .int .i64 0]) := by
 have := parse_pure [100, 114, 111, 112, 32, 77, 46, 97, 59] (by decide)
 unfold parseV mParse at this
 rw [live_m1] at this
 exact this
theorem live2 : Pure Tryz.prog 7 [.str [100, 114, 111, 112, 32, 77, 32, 97, 59]] (.tup [.sl [], .int .i64 7, .int .i64 2]) := by
 have := parse_pure [100, 114, 111, 112, 32, 77, 32, 97, 59] (by decide)
 unfold parseV mParse at this
 rw [live_m2] at this
 exact this
theorem live_pure : Pure Tryz.prog 6 [] (.bool true) := by
 refine Pure.of_tri Tryz.func6 rfl rfl (Nat.zero_le _) fun H => ?_
 refine Tri.seq (Tri.region ?_)
 refine TriL.c1 rfl (op_as (ltb rfl) rfl) ?_
 refine TriL.nil (Tri.seq (Tri.region ?_))
 refine TriL.c1 rfl (op_call (ltb rfl) fn7_q rfl live1) ?_
 refine TriL.c1 rfl (op_mv (ltb rfl) rfl) ?_
 iterate 3 (refine TriL.c1 rfl (op_ext (ltb rfl) rfl rfl) ?_)
 iterate 3 (refine TriL.c1 rfl (op_as (ltb rfl) rfl) ?_)
 refine TriL.nil (Tri.seq (Tri.region ?_))
 refine TriL.c1 rfl (op_call (ltb rfl) fn7_q rfl live2) ?_
 refine TriL.c1 rfl (op_mv (ltb rfl) rfl) ?_
 iterate 3 (refine TriL.c1 rfl (op_ext (ltb rfl) rfl rfl) ?_)
 iterate 3 (refine TriL.c1 rfl (op_as (ltb rfl) rfl) ?_)
 refine TriL.nil (Tri.seq (Tri.region ?_))
 refine TriL.c1 rfl (op_mv (ltb rfl) rfl) ?_
 refine TriL.c1 rfl (op_call (ltb rfl) fn10_q rfl (num_pure _)) ?_
 refine TriL.c1 rfl (op_bin (ltb rfl) rfl rfl rfl) ?_
 refine TriL.c1 rfl (op_mv (ltb rfl) rfl) ?_
 refine TriL.g1 rfl (ltb rfl) rfl rfl (op_mv (ltb rfl) rfl) ?_
 refine TriL.g1 rfl (ltb rfl) rfl rfl (op_bld (ltb rfl) spl46_q zA46_q rfl rfl) ?_
 refine TriL.g1 rfl (ltb rfl) rfl rfl (op_lit («as» := [_]) (ltb rfl) se23_q zAe23_q rfl rfl rfl (leb rfl)) ?_
 refine TriL.g1 rfl (ltb rfl) rfl rfl (op_call (ltb rfl) fn9_q rfl (same_self [stpL] (by decide) (by decide) (by simp [stpL, Val.m]))) ?_
 refine TriL.c1 rfl (op_pickt (ltb rfl) rfl rfl rfl) ?_
 refine TriL.c1 rfl (op_mv (ltb rfl) rfl) ?_
 refine TriL.g1 rfl (ltb rfl) rfl rfl (op_mv (ltb rfl) rfl) ?_
 refine TriL.g1 rfl (ltb rfl) rfl rfl (op_call (ltb rfl) fn10_q rfl (num_pure _)) ?_
 refine TriL.g1 rfl (ltb rfl) rfl rfl (op_bin (ltb rfl) rfl rfl rfl) ?_
 refine TriL.c1 rfl (op_pickt (ltb rfl) rfl rfl rfl) ?_
 refine TriL.c1 rfl (op_mv (ltb rfl) rfl) ?_
 refine TriL.g1 rfl (ltb rfl) rfl rfl (op_mv (ltb rfl) rfl) ?_
 refine TriL.g1 rfl (ltb rfl) rfl rfl (op_bin (ltb rfl) rfl rfl rfl) ?_
 refine TriL.c1 rfl (op_pickt (ltb rfl) rfl rfl rfl) ?_
 refine TriL.c1 rfl (op_as (ltb rfl) rfl) ?_
 refine TriL.nil (Tri.ret ?_)
 exact ⟨.inr rfl, (ResOK.r1 rfl (.tmp rfl .nil)).cast rfl, rfl⟩
theorem mParse_sub {s : Str} : (mParse s).1 = [] ∨ (mParse s).1 = (mSteps s).l.map (·.1) := by
 unfold mParse
 split
 ·exact .inl rfl
 split
 ·exact .inl rfl
 split
 ·exact .inl rfl
 ·exact .inr rfl
theorem mParse_len (s : Str) : (mParse s).1.length ≤ 9223372036854775807 := by
 rcases mParse_sub (s := s) with h | h
 ·rw [h]; simp
 ·rw [h, List.length_map]; have := (mSteps_lim (s := s)).2; omega
theorem mParse_lim (s : Str) : ∀ x ∈ (mParse s).1, x.lim 6010 := by
 intro x hx
 rcases mParse_sub (s := s) with h | h
 ·rw [h] at hx; cases hx
 ·rw [h] at hx
  obtain ⟨p, hp, rfl⟩ := List.mem_map.1 hx
  exact mSteps_lim.1 p hp
theorem mParse_names (s : Str) : ∀ x ∈ (mParse s).1, x.names.length ≤ 9223372036854775807 := fun x hx => by have := (mParse_lim s x hx).n; omega
theorem mParse_m (s : Str) : ∀ x ∈ (mParse s).1, x.dv.m = [] := fun x hx => (mParse_lim s x hx).m
theorem parses_law (s : Str) : Pure Tryz.prog 3 [.str s] (.bool true) := by
 refine Pure.of_tri Tryz.func3 rfl rfl (ltb rfl) fun H => ?_
 refine Tri.seq (Tri.region ?_)
 refine TriL.c1 rfl (op_as (ltb rfl) rfl) ?_
 refine TriL.nil (Tri.seq (Tri.seq (Tri.region ?_)))
 refine TriL.c1 rfl (op_mv (ltb rfl) rfl) ?_
 refine TriL.c1 rfl (op_lens (ltb rfl) un9_q rfl) ?_
 refine TriL.c1 rfl (op_bin (ltb rfl) rfl rfl rfl) ?_
 refine TriL.nil ?_
 refine Tri.cond rfl (fun hc1 => ?_) (fun hc1 => ?_)
 ·refine Tri.seq (Tri.region ?_)
  refine TriL.c1 rfl (op_call (ltb rfl) fn6_q rfl live_pure) ?_
  refine TriL.c1 rfl (op_as (ltb rfl) rfl) ?_
  refine TriL.nil (Tri.ret ?_)
  exact ⟨.inr rfl, (ResOK.r1 rfl (.tmp rfl .nil)).cast rfl, rfl⟩
 ·refine Tri.skip (Tri.seq (Tri.region ?_))
  refine TriL.c1 rfl (op_mv (ltb rfl) rfl) ?_
  refine TriL.c1 rfl (op_call (ltb rfl) fn7_q rfl (parse_pure s (by have := of_decide_eq_false hc1; omega))) ?_
  refine TriL.c1 rfl (op_mv (ltb rfl) rfl) ?_
  iterate 3 (refine TriL.c1 rfl (op_ext (ltb rfl) rfl rfl) ?_)
  iterate 3 (refine TriL.c1 rfl (op_as (ltb rfl) rfl) ?_)
  refine TriL.nil (Tri.seq (Tri.region ?_))
  refine TriL.c1 rfl (op_mv (ltb rfl) rfl) ?_
  refine TriL.c1 rfl (op_call (ltb rfl) fn8_q rfl (rparse_pure s (by have := of_decide_eq_false hc1; omega))) ?_
  refine TriL.c1 rfl (op_mv (ltb rfl) rfl) ?_
  iterate 3 (refine TriL.c1 rfl (op_ext (ltb rfl) rfl rfl) ?_)
  iterate 3 (refine TriL.c1 rfl (op_as (ltb rfl) rfl) ?_)
  refine TriL.nil (Tri.seq (Tri.region ?_))
  iterate 2 (refine TriL.c1 rfl (op_mv (ltb rfl) rfl) ?_)
  refine TriL.c1 rfl (op_call (ltb rfl) fn9_q rfl (same_self _ (mParse_len s) (mParse_names s) (mParse_m s))) ?_
  refine TriL.c1 rfl (op_mv (ltb rfl) rfl) ?_
  iterate 2 (refine TriL.g1 rfl (ltb rfl) rfl rfl (op_mv (ltb rfl) rfl) ?_)
  refine TriL.g1 rfl (ltb rfl) rfl rfl (op_bin (ltb rfl) rfl rfl rfl) ?_
  refine TriL.c1 rfl (op_pickt (ltb rfl) rfl rfl rfl) ?_
  refine TriL.c1 rfl (op_mv (ltb rfl) rfl) ?_
  refine TriL.g1 rfl (ltb rfl) rfl (by simp) (op_mv (ltb rfl) rfl) ?_
  refine TriL.g1 rfl (ltb rfl) rfl (by simp) (op_call (ltb rfl) fn10_q rfl (num_pure _)) ?_
  refine TriL.g1 rfl (ltb rfl) rfl (by simp) (op_mv (ltb rfl) rfl) ?_
  refine TriL.g1 rfl (ltb rfl) rfl (by simp) (op_bin (ltb rfl) rfl rfl rfl) ?_
  refine TriL.c1 rfl (op_pickt (ltb rfl) rfl (by simp) rfl) ?_
  refine TriL.c1 rfl (op_mv (ltb rfl) rfl) ?_
  refine TriL.g1 rfl (ltb rfl) rfl (by simp) (op_call (ltb rfl) fn6_q rfl live_pure) ?_
  refine TriL.c1 rfl (op_pickt (ltb rfl) rfl (by simp) rfl) ?_
  refine TriL.c1 rfl (op_as (ltb rfl) rfl) ?_
  refine TriL.nil (Tri.ret ?_)
  exact ⟨.inr rfl, (ResOK.r1 rfl (.tmp rfl .nil)).cast rfl, rfl⟩
/- What a row that lists the library's tables, utf8's and the errors gives of the package variables (seats of X0M). No condition. -/
theorem fn2_q : isFn Tryz.prog 2 = true := by kernel_rfl
/-- A row's wrap that keeps both: what is listed, and the world's shape. -/
theorem returns_listed {H : Type} {enc : TypeId × Value → H} {a : Assume} {C : Checked} {os : Os} {f : FuncId} {fn : Func} {s : ChangeSpec} {conds : List PathCond} {apart fresh handsOn again : Bool} {X : World → Array Value → Prop}
  (hX : ∀ (w w' : World) (args : Array Value), w.heap = w'.heap → X w args → X w' args) (own : ownKnob C.prog.godebug = none) (started : os.Started) (noInit : C.prog.inits.idxOf? f = none) (hfn : C.prog.funcs[f]? = some fn)
  (witness : ∃ (w : World) (tape : Tape) (i : Input), w.os = os ∧ (w.forCall tape i).Shaped C.prog ∧ i.vars = [] ∧ Input.okWide C.prog (w.forCall tape i) .any w.heap.size f i ∧
   ((s.pre enc C.prog fn conds apart (w.forCall tape i).memory i.args ∧ X (w.forCall tape i).memory i.args) ∧ sizedMet enc C.prog fn (OpenSpec.ofChange s) apart (w.forCall tape i).memory i.args) ∧ a.holds C.prog (lone (Frame.enter C.prog f i.args .normal) [] (w.forCall tape i)))
  (contract : ∀ (W : World) (base : Nat) (args : Array Value) (ds gs : List (DataW H)) (before : List MemPlace), (∀ (j : Nat) t v, fn.params[j]? = some t → args[j]? = some v → Value.okWide C.prog W .any base t v) →
   DataW.Whole enc C.prog fn.params.toList s.vars apart W args.toList ds gs before → X W args → W.ShapedOpen C.prog →
   Calls C.prog f args W fun e W' => ∃ v, e = .returned v ∧ s.post enc C.prog fn apart fresh handsOn again W args v W') :
  ReturnsInHanded a C os f .any (fun w args => (s.pre enc C.prog fn conds apart w args ∧ X w args) ∧ sizedMet enc C.prog fn (OpenSpec.ofChange s) apart w args) (s.post enc C.prog fn apart fresh handsOn again) := by
 refine returnsInHanded_of_calls own started noInit witness fun w tape i _ hsh _ hok hpre _ => ?_
 obtain ⟨_, _, _, fn2_q, hfn2, _, _, _, _, hval⟩ := hok
 cases Option.some.inj (hfn2.symm.trans hfn)
 obtain ⟨⟨⟨ds, gs, before, hw, _⟩, hx⟩, _⟩ := hpre
 refine (contract (w.forCall tape i) w.heap.size i.args ds gs before hval (DataW.Whole.of_heap (w' := w.forCall tape i) (by rfl) hw) (hX _ _ _ (by rfl) hx) hsh).mono ?_
 rintro e W' ⟨v, rfl, hp⟩
 exact ChangeSpec.post_blind hp
theorem laid_cons {P : Program} {W : World} {n : String} {d : DataW Unit} {r : List (String × DataW Unit)} {ps : List MemPlace} (h : DataW.LaidVars P W ((n, d) :: r) ps) :
  (∃ g t cs fuel p, P.globalNamed n = some g ∧ (P.globals[g]?).map (·.type) = some t ∧ W.var? P n = some cs ∧ DataW.trod (fun _ => ()) P W 0 (fun _ => true) false fuel t cs.toList = some (d, p)) ∧ ∃ q, DataW.LaidVars P W r q := by
 obtain ⟨g, t, cs, fuel, p, q, h1, h2, h3, h4, h5, _⟩ := h
 exact ⟨⟨g, t, cs, fuel, p, h1, h2, h3, h4⟩, q, h5⟩
theorem gErrS : Tryz.prog.globalNamed "strconv.ErrSyntax" = some 3 := by kernel_rfl
theorem gErrR : Tryz.prog.globalNamed "strconv.ErrRange" = some 4 := by kernel_rfl
theorem tErrS : (Tryz.prog.globals[3]?).map (·.type) = some 168 := by kernel_rfl
theorem tErrR : (Tryz.prog.globals[4]?).map (·.type) = some 168 := by kernel_rfl
theorem tPow : (Tryz.prog.globals[5]?).map (·.type) = some 242 := by kernel_rfl
theorem gDB : Tryz.prog.globalNamed "math/bits.deBruijn64tab" = some 7 := by kernel_rfl
/-- an error's variable -/
theorem err_cell {W : World} {n : String} {g : Nat} {name : String} {d : DataW Unit} {r : List (String × DataW Unit)} {ps : List MemPlace} (hg : Tryz.prog.globalNamed n = some g) (ht : (Tryz.prog.globals[g]?).map (·.type) = some 168)
  (h : DataW.LaidVars Tryz.prog W ((n, .iface name d) :: r) ps) : ∃ te pe, W.cell? ⟨g, 0, none⟩ = some (.iface te pe) := by
 obtain ⟨⟨g', t, cs, fuel, p, h1, h2, h3, h4⟩, _⟩ := laid_cons h
 obtain rfl := Option.some.inj (hg.symm.trans h1)
 obtain rfl := Option.some.inj (ht.symm.trans h2)
 obtain ⟨_, u, v, h5, _, _⟩ := iface_of_trod Tryz.underlying168 h4
 refine ⟨u, v, ?_⟩
 rw [World.var?_cell hg h3 0, ← Array.getElem?_toList, h5]; rfl
theorem var_lt {P : Program} {W : World} {n : String} {g : Nat} {cs : Array Value} (hg : P.globalNamed n = some g) (h : W.var? P n = some cs) : g < W.heap.size := by
 simp only [World.var?, hg, Option.bind_some] at h
 split at h
 ·rename_i e; exact (Array.getElem?_eq_some_iff.1 e).1
 ·cases h
theorem pow_tab {W : World} {r : List (String × DataW Unit)} {ps : List MemPlace} (h : DataW.LaidVars Tryz.prog W (("internal/strconv.uint64pow10", Rows.laid_internal_strconv_uint64pow10) :: r) ps) :
  Lib.TabIs Tryz.prog W "internal/strconv.uint64pow10" .u64 Lib.pow10Tab := by
 obtain ⟨⟨g', t, cs, fuel, p, h1, h2, h3, h4⟩, _⟩ := laid_cons h
 obtain rfl := Option.some.inj (gPow.symm.trans h1)
 obtain rfl := Option.some.inj (tPow.symm.trans h2)
 have e : (Rows.laid_internal_strconv_uint64pow10 : DataW Unit) = Lib.tabData .u64 Lib.pow10Tab := by rfl
 rw [e] at h4
 unfold Lib.TabIs
 rw [h3, ← Lib.cells_of_tab Tryz.underlying242 Tryz.underlying41 (by kernel_rfl) (by kernel_rfl) h4]
theorem maxLen_cell {W : World} (h : W.ShapedOpen Tryz.prog) : ∃ m, W.cell? ⟨2, 0, none⟩ = some (.int .i64 m) :=
 Go.Proofs.cell_of_shapedOpen_int (zero := #[.int .i64 0]) (t := 3) h (of_decide_eq_true (by kernel_rfl)) (by kernel_rfl) rfl (by kernel_rfl) (by kernel_rfl) Tryz.underlying3
abbrev laid7 : List (String × DataW Unit) := [("math/bits.deBruijn32tab", Rows.laid_math_bits_deBruijn32tab), ("math/bits.deBruijn64tab", Rows.laid_math_bits_deBruijn64tab), ("internal/strconv.uint64pow10", Rows.laid_internal_strconv_uint64pow10), ("unicode/utf8.acceptRanges", Rows.laid_unicode_utf8_acceptRanges), ("strconv.ErrRange", Rows.laid_strconv_ErrRange), ("strconv.ErrSyntax", Rows.laid_strconv_ErrSyntax), ("unicode/utf8.first", Rows.laid_unicode_utf8_first)]
theorem acceptD : (Rows.laid_unicode_utf8_acceptRanges : DataW Unit) = Lib.acceptData := by rfl
theorem firstD : (Rows.laid_unicode_utf8_first : DataW Unit) = Lib.firstData := by rfl
theorem known7 {W : World} (h : laidMetH Tryz.prog laid7 W) (hs : W.ShapedOpen Tryz.prog) : gok W ∧ gN ≤ W.heap.size := by
 rw [MakeChecks.laidMetH_plain _ _ _ (by kernel_rfl)] at h
 have h1 : Lib.VarReads Tryz.prog W "unicode/utf8.first" Lib.firstData := firstD ▸ Lib.laidMet.reads h (by simp [laid7])
 have h2 : Lib.VarReads Tryz.prog W "unicode/utf8.acceptRanges" Lib.acceptData := acceptD ▸ Lib.laidMet.reads h (by simp [laid7])
 have h3 := utf8Tabs_of_readsT (ρ := Tryz.laysVS_ren) (U8Types.of196 Tryz.laysVS) ⟨by kernel_rfl, by kernel_rfl, by kernel_rfl, by kernel_rfl, by kernel_rfl, by kernel_rfl, by kernel_rfl⟩ h1 h2
 obtain ⟨ps, h, _⟩ := h
 obtain ⟨_, q1, l1⟩ := laid_cons h
 obtain ⟨⟨g, t, cs, fuel, p, k1, _, k3, _⟩, q2, l2⟩ := laid_cons l1
 obtain ⟨_, q3, l3⟩ := laid_cons l2
 obtain ⟨_, q4, l4⟩ := laid_cons l3
 obtain ⟨_, q5, l5⟩ := laid_cons l4
 have := var_lt gDB k3
 exact ⟨⟨h3, err_cell gErrS tErrS l5, err_cell gErrR tErrR l4, pow_tab l2, maxLen_cell hs⟩, this⟩
end Go.Proofs.YtabihkfhoohfnaaGreatDoor.X
