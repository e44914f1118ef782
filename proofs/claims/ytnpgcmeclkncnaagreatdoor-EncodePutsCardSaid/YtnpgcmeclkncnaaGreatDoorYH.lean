/- fields and places, in the program and in the document. -/
import Derived.Test.YtnpgcmeclkncnaaGreatDoorYG
import Derived.Test.YtnpgcmeclkncnaaGreatDoorYE
set_option linter.unusedVariables false
set_option linter.unusedSimpArgs false
set_option linter.unusedSectionVars false
set_option maxRecDepth 100000
namespace Go.Proofs.YtnpgcmeclkncnaaGreatDoor.X
open Go Go.RowKit Go.Proofs
theorem fn118_M8 : isFn Tryz.prog 118 = true := by kernel_rfl
theorem fn124_M8 : isFn Tryz.prog 124 = true := by kernel_rfl
theorem fn132_M8 : isFn Tryz.prog 132 = true := by kernel_rfl
theorem fn133_M8 : isFn Tryz.prog 133 = true := by kernel_rfl
theorem fn172_M8 : isFn Tryz.prog 172 = true := by kernel_rfl
theorem fn173_M8 : isFn Tryz.prog 173 = true := by kernel_rfl
theorem fn202_M8 : isFn Tryz.prog 202 = true := by kernel_rfl
theorem fn77_M8 : isFn Tryz.prog 77 = true := by kernel_rfl
theorem fn78_M8 : isFn Tryz.prog 78 = true := by kernel_rfl
theorem fo131_0_M8 : fo Tryz.prog 131 0 = some 0 := by kernel_rfl
theorem fo131_1_M8 : fo Tryz.prog 131 1 = some 1 := by kernel_rfl
theorem fo131_2_M8 : fo Tryz.prog 131 2 = some 2 := by kernel_rfl
theorem fo131_3_M8 : fo Tryz.prog 131 3 = some 3 := by kernel_rfl
theorem fo25_1_M8 : fo Tryz.prog 25 1 = some 1 := by kernel_rfl
theorem fo78_0_M8 : fo Tryz.prog 78 0 = some 0 := by kernel_rfl
theorem fo78_1_M8 : fo Tryz.prog 78 1 = some 1 := by kernel_rfl
theorem fo98_1_M8 : fo Tryz.prog 98 1 = some 1 := by kernel_rfl
theorem fo98_2_M8 : fo Tryz.prog 98 2 = some 2 := by kernel_rfl
theorem fo98_4_M8 : fo Tryz.prog 98 4 = some 4 := by kernel_rfl
theorem fo98_5_M8 : fo Tryz.prog 98 5 = some 5 := by kernel_rfl
theorem fo98_6_M8 : fo Tryz.prog 98 6 = some 6 := by kernel_rfl
theorem ie23_M8 : ie Tryz.prog 23 = some 3 := by kernel_rfl
theorem ie76_M8 : ie Tryz.prog 76 = some 7 := by kernel_rfl
theorem lk23_M8 : lk Tryz.prog 23 = some (false, 1) := by kernel_rfl
theorem lk3_M8 : lk Tryz.prog 3 = some (false, 1) := by kernel_rfl
theorem lk4_M8 : lk Tryz.prog 4 = some (false, 1) := by kernel_rfl
theorem lk76_M8 : lk Tryz.prog 76 = some (false, 1) := by kernel_rfl
theorem lk78_M8 : lk Tryz.prog 78 = some (true, 3) := by kernel_rfl
theorem lk84_M8 : lk Tryz.prog 84 = some (false, 1) := by kernel_rfl
theorem lk9_M8 : lk Tryz.prog 9 = some (false, 1) := by kernel_rfl
theorem lk98_M8 : lk Tryz.prog 98 = some (true, 7) := by kernel_rfl
theorem un23_M8 : Tryz.prog.underlying 23 = some (TypeDesc.slice 78) := Tryz.underlying23
theorem un76_M8 : Tryz.prog.underlying 76 = some (TypeDesc.slice 98) := Tryz.underlying76
theorem r_packed (f : Fld) : Pure Tryz.prog 135 [f.av] (.bool f.packed) := by
  refine Pure.of_tri Tryz.func135 rfl rfl (ltb rfl) fun H => ?_
  refine Tri.seq ?_
  refine Tri.region ?_
  refine TriL.c2 rfl (op_box (ltb rfl) rfl rfl rfl) ?_
  refine TriL.c1 rfl (op_as (ltb rfl) rfl) ?_
  refine TriL.nil ?_
  refine Tri.seq ?_
  refine Tri.region ?_
  refine TriL.c1 rfl (op_fal (ltb rfl) fo98_4_M8 rfl) ?_
  refine TriL.c1 rfl (op_ldl (ltb rfl) lk4_M8 rfl rfl rfl) ?_
  refine TriL.c1 rfl (op_mv (ltb rfl) rfl) ?_
  refine TriL.split (d := 5) rfl (fun hg1 => ?_) (fun hg1 => ?_)
  · refine TriL.g1 rfl (ltb rfl) rfl hg1 (op_fal (ltb rfl) fo98_2_M8 rfl) ?_
    refine TriL.g1 rfl (ltb rfl) rfl hg1 (op_ldl (ltb rfl) lk3_M8 rfl rfl rfl) ?_
    refine TriL.g1 rfl (ltb rfl) rfl hg1 (op_call (ltb rfl) fn124_M8 rfl (r_numT _)) ?_
    refine TriL.c1 rfl (op_pickt (ltb rfl) rfl hg1 rfl) ?_
    refine TriL.c1 rfl (op_mv (ltb rfl) rfl) ?_
    refine TriL.split (d := 10) rfl (fun hg2 => ?_) (fun hg2 => ?_)
    · refine TriL.g1 rfl (ltb rfl) rfl hg2 (op_fal (ltb rfl) fo98_5_M8 rfl) ?_
      refine TriL.g1 rfl (ltb rfl) rfl hg2 (op_ldl (ltb rfl) lk4_M8 rfl rfl rfl) ?_
      refine TriL.g1 rfl (ltb rfl) rfl hg2 (op_un (ltb rfl) rfl rfl) ?_
      refine TriL.c1 rfl (op_pickt (ltb rfl) rfl hg2 rfl) ?_
      refine TriL.c1 rfl (op_as (ltb rfl) rfl) ?_
      refine TriL.nil ?_
      refine Tri.ret ?_
      exact ⟨.inr rfl, (ResOK.r1 rfl (.tmp rfl .nil)).cast (congrArg AV.bool (by grind [Fld.packed])), rfl⟩
    · refine TriL.skipu rfl rfl (ltb rfl) (ltb rfl) rfl hg2 ?_
      refine TriL.skipu rfl rfl (ltb rfl) (ltb rfl) rfl hg2 ?_
      refine TriL.skipu rfl rfl (ltb rfl) (ltb rfl) rfl hg2 ?_
      refine TriL.c1 rfl (op_pickf (ltb rfl) rfl hg2 rfl) ?_
      refine TriL.c1 rfl (op_as (ltb rfl) rfl) ?_
      refine TriL.nil ?_
      refine Tri.ret ?_
      exact ⟨.inr rfl, (ResOK.r1 rfl (.tmp rfl .nil)).cast (congrArg AV.bool (by grind [Fld.packed])), rfl⟩
  · refine TriL.skipu rfl rfl (ltb rfl) (ltb rfl) rfl hg1 ?_
    refine TriL.skipu rfl rfl (ltb rfl) (ltb rfl) rfl hg1 ?_
    refine TriL.skipu rfl rfl (ltb rfl) (ltb rfl) rfl hg1 ?_
    refine TriL.c1 rfl (op_pickf (ltb rfl) rfl hg1 rfl) ?_
    refine TriL.c1 rfl (op_mv (ltb rfl) rfl) ?_
    refine TriL.skipu rfl rfl (ltb rfl) (ltb rfl) rfl rfl ?_
    refine TriL.skipu rfl rfl (ltb rfl) (ltb rfl) rfl rfl ?_
    refine TriL.skipu rfl rfl (ltb rfl) (ltb rfl) rfl rfl ?_
    refine TriL.c1 rfl (op_pickf (ltb rfl) rfl rfl rfl) ?_
    refine TriL.c1 rfl (op_as (ltb rfl) rfl) ?_
    refine TriL.nil ?_
    refine Tri.ret ?_
    exact ⟨.inr rfl, (ResOK.r1 rfl (.tmp rfl .nil)).cast (congrArg AV.bool (by grind [Fld.packed])), rfl⟩
theorem r_hidden (f : Fld) : Pure Tryz.prog 117 [f.av] (.bool f.hidden) := by
  refine Pure.of_tri Tryz.func117 rfl rfl (ltb rfl) fun H => ?_
  refine Tri.seq ?_
  refine Tri.region ?_
  refine TriL.c2 rfl (op_box (ltb rfl) rfl rfl rfl) ?_
  refine TriL.c1 rfl (op_as (ltb rfl) rfl) ?_
  refine TriL.nil ?_
  refine Tri.seq ?_
  refine Tri.region ?_
  refine TriL.c1 rfl (op_fal (ltb rfl) fo98_4_M8 rfl) ?_
  refine TriL.c1 rfl (op_ldl (ltb rfl) lk4_M8 rfl rfl rfl) ?_
  refine TriL.c1 rfl (op_un (ltb rfl) rfl rfl) ?_
  refine TriL.c1 rfl (op_mv (ltb rfl) rfl) ?_
  refine TriL.split (d := 6) rfl (fun hg1 => ?_) (fun hg1 => ?_)
  · refine TriL.g1 rfl (ltb rfl) rfl hg1 (op_fal (ltb rfl) fo98_6_M8 rfl) ?_
    refine TriL.g1 rfl (ltb rfl) rfl hg1 (op_ldl (ltb rfl) lk9_M8 rfl rfl rfl) ?_
    refine TriL.g1 rfl (ltb rfl) rfl hg1 (op_bin (ltb rfl) rfl rfl rfl) ?_
    refine TriL.c1 rfl (op_pickt (ltb rfl) rfl hg1 rfl) ?_
    refine TriL.c1 rfl (op_mv (ltb rfl) rfl) ?_
    refine TriL.split (d := 11) rfl (fun hg2 => ?_) (fun hg2 => ?_)
    · refine TriL.g1 rfl (ltb rfl) rfl hg2 (op_fal (ltb rfl) fo98_2_M8 rfl) ?_
      refine TriL.g1 rfl (ltb rfl) rfl hg2 (op_ldl (ltb rfl) lk3_M8 rfl rfl rfl) ?_
      refine TriL.g1 rfl (ltb rfl) rfl hg2 (op_bin (ltb rfl) rfl rfl rfl) ?_
      refine TriL.c1 rfl (op_pickt (ltb rfl) rfl hg2 rfl) ?_
      refine TriL.c1 rfl (op_as (ltb rfl) rfl) ?_
      refine TriL.nil ?_
      refine Tri.ret ?_
      exact ⟨.inr rfl, (ResOK.r1 rfl (.tmp rfl .nil)).cast (congrArg AV.bool (by grind [Fld.hidden])), rfl⟩
    · refine TriL.skipu rfl rfl (ltb rfl) (ltb rfl) rfl hg2 ?_
      refine TriL.skipu rfl rfl (ltb rfl) (ltb rfl) rfl hg2 ?_
      refine TriL.skipu rfl rfl (ltb rfl) (ltb rfl) rfl hg2 ?_
      refine TriL.c1 rfl (op_pickf (ltb rfl) rfl hg2 rfl) ?_
      refine TriL.c1 rfl (op_as (ltb rfl) rfl) ?_
      refine TriL.nil ?_
      refine Tri.ret ?_
      exact ⟨.inr rfl, (ResOK.r1 rfl (.tmp rfl .nil)).cast (congrArg AV.bool (by grind [Fld.hidden])), rfl⟩
  · refine TriL.skipu rfl rfl (ltb rfl) (ltb rfl) rfl hg1 ?_
    refine TriL.skipu rfl rfl (ltb rfl) (ltb rfl) rfl hg1 ?_
    refine TriL.skipu rfl rfl (ltb rfl) (ltb rfl) rfl hg1 ?_
    refine TriL.c1 rfl (op_pickf (ltb rfl) rfl hg1 rfl) ?_
    refine TriL.c1 rfl (op_mv (ltb rfl) rfl) ?_
    refine TriL.skipu rfl rfl (ltb rfl) (ltb rfl) rfl rfl ?_
    refine TriL.skipu rfl rfl (ltb rfl) (ltb rfl) rfl rfl ?_
    refine TriL.skipu rfl rfl (ltb rfl) (ltb rfl) rfl rfl ?_
    refine TriL.c1 rfl (op_pickf (ltb rfl) rfl rfl rfl) ?_
    refine TriL.c1 rfl (op_as (ltb rfl) rfl) ?_
    refine TriL.nil ?_
    refine Tri.ret ?_
    exact ⟨.inr rfl, (ResOK.r1 rfl (.tmp rfl .nil)).cast (congrArg AV.bool (by grind [Fld.hidden])), rfl⟩
theorem p_packed (f : Fld) : Pure Tryz.prog 128 [f.av] (.bool f.packed) := by
  refine Pure.of_tri Tryz.func128 rfl rfl (ltb rfl) fun H => ?_
  refine Tri.seq ?_
  refine Tri.region ?_
  refine TriL.c2 rfl (op_box (ltb rfl) rfl rfl rfl) ?_
  refine TriL.c1 rfl (op_as (ltb rfl) rfl) ?_
  refine TriL.nil ?_
  refine Tri.seq ?_
  refine Tri.region ?_
  refine TriL.c1 rfl (op_fal (ltb rfl) fo98_4_M8 rfl) ?_
  refine TriL.c1 rfl (op_ldl (ltb rfl) lk4_M8 rfl rfl rfl) ?_
  refine TriL.c1 rfl (op_mv (ltb rfl) rfl) ?_
  refine TriL.split (d := 5) rfl (fun hg1 => ?_) (fun hg1 => ?_)
  · refine TriL.g1 rfl (ltb rfl) rfl hg1 (op_fal (ltb rfl) fo98_5_M8 rfl) ?_
    refine TriL.g1 rfl (ltb rfl) rfl hg1 (op_ldl (ltb rfl) lk4_M8 rfl rfl rfl) ?_
    refine TriL.g1 rfl (ltb rfl) rfl hg1 (op_un (ltb rfl) rfl rfl) ?_
    refine TriL.c1 rfl (op_pickt (ltb rfl) rfl hg1 rfl) ?_
    refine TriL.c1 rfl (op_mv (ltb rfl) rfl) ?_
    refine TriL.split (d := 10) rfl (fun hg2 => ?_) (fun hg2 => ?_)
    · refine TriL.g1 rfl (ltb rfl) rfl hg2 (op_fal (ltb rfl) fo98_2_M8 rfl) ?_
      refine TriL.g1 rfl (ltb rfl) rfl hg2 (op_ldl (ltb rfl) lk3_M8 rfl rfl rfl) ?_
      refine TriL.g1 rfl (ltb rfl) rfl hg2 (op_call (ltb rfl) fn173_M8 rfl (p_numT _)) ?_
      refine TriL.c1 rfl (op_pickt (ltb rfl) rfl hg2 rfl) ?_
      refine TriL.c1 rfl (op_as (ltb rfl) rfl) ?_
      refine TriL.nil ?_
      refine Tri.ret ?_
      exact ⟨.inr rfl, (ResOK.r1 rfl (.tmp rfl .nil)).cast (congrArg AV.bool (by grind [Fld.packed])), rfl⟩
    · refine TriL.skipu rfl rfl (ltb rfl) (ltb rfl) rfl hg2 ?_
      refine TriL.skipu rfl rfl (ltb rfl) (ltb rfl) rfl hg2 ?_
      refine TriL.skipu rfl rfl (ltb rfl) (ltb rfl) rfl hg2 ?_
      refine TriL.c1 rfl (op_pickf (ltb rfl) rfl hg2 rfl) ?_
      refine TriL.c1 rfl (op_as (ltb rfl) rfl) ?_
      refine TriL.nil ?_
      refine Tri.ret ?_
      exact ⟨.inr rfl, (ResOK.r1 rfl (.tmp rfl .nil)).cast (congrArg AV.bool (by grind [Fld.packed])), rfl⟩
  · refine TriL.skipu rfl rfl (ltb rfl) (ltb rfl) rfl hg1 ?_
    refine TriL.skipu rfl rfl (ltb rfl) (ltb rfl) rfl hg1 ?_
    refine TriL.skipu rfl rfl (ltb rfl) (ltb rfl) rfl hg1 ?_
    refine TriL.c1 rfl (op_pickf (ltb rfl) rfl hg1 rfl) ?_
    refine TriL.c1 rfl (op_mv (ltb rfl) rfl) ?_
    refine TriL.skipu rfl rfl (ltb rfl) (ltb rfl) rfl rfl ?_
    refine TriL.skipu rfl rfl (ltb rfl) (ltb rfl) rfl rfl ?_
    refine TriL.skipu rfl rfl (ltb rfl) (ltb rfl) rfl rfl ?_
    refine TriL.c1 rfl (op_pickf (ltb rfl) rfl rfl rfl) ?_
    refine TriL.c1 rfl (op_as (ltb rfl) rfl) ?_
    refine TriL.nil ?_
    refine Tri.ret ?_
    exact ⟨.inr rfl, (ResOK.r1 rfl (.tmp rfl .nil)).cast (congrArg AV.bool (by grind [Fld.packed])), rfl⟩
theorem p_hidden (f : Fld) : Pure Tryz.prog 171 [f.av] (.bool f.hidden) := by
  refine Pure.of_tri Tryz.func171 rfl rfl (ltb rfl) fun H => ?_
  refine Tri.seq ?_
  refine Tri.region ?_
  refine TriL.c2 rfl (op_box (ltb rfl) rfl rfl rfl) ?_
  refine TriL.c1 rfl (op_as (ltb rfl) rfl) ?_
  refine TriL.nil ?_
  refine Tri.seq ?_
  refine Tri.region ?_
  refine TriL.c1 rfl (op_fal (ltb rfl) fo98_4_M8 rfl) ?_
  refine TriL.c1 rfl (op_ldl (ltb rfl) lk4_M8 rfl rfl rfl) ?_
  refine TriL.c1 rfl (op_un (ltb rfl) rfl rfl) ?_
  refine TriL.c1 rfl (op_mv (ltb rfl) rfl) ?_
  refine TriL.split (d := 6) rfl (fun hg1 => ?_) (fun hg1 => ?_)
  · refine TriL.g1 rfl (ltb rfl) rfl hg1 (op_fal (ltb rfl) fo98_6_M8 rfl) ?_
    refine TriL.g1 rfl (ltb rfl) rfl hg1 (op_ldl (ltb rfl) lk9_M8 rfl rfl rfl) ?_
    refine TriL.g1 rfl (ltb rfl) rfl hg1 (op_bin (ltb rfl) rfl rfl rfl) ?_
    refine TriL.c1 rfl (op_pickt (ltb rfl) rfl hg1 rfl) ?_
    refine TriL.c1 rfl (op_mv (ltb rfl) rfl) ?_
    refine TriL.split (d := 11) rfl (fun hg2 => ?_) (fun hg2 => ?_)
    · refine TriL.g1 rfl (ltb rfl) rfl hg2 (op_fal (ltb rfl) fo98_2_M8 rfl) ?_
      refine TriL.g1 rfl (ltb rfl) rfl hg2 (op_ldl (ltb rfl) lk3_M8 rfl rfl rfl) ?_
      refine TriL.g1 rfl (ltb rfl) rfl hg2 (op_bin (ltb rfl) rfl rfl rfl) ?_
      refine TriL.c1 rfl (op_pickt (ltb rfl) rfl hg2 rfl) ?_
      refine TriL.c1 rfl (op_as (ltb rfl) rfl) ?_
      refine TriL.nil ?_
      refine Tri.ret ?_
      exact ⟨.inr rfl, (ResOK.r1 rfl (.tmp rfl .nil)).cast (congrArg AV.bool (by grind [Fld.hidden])), rfl⟩
    · refine TriL.skipu rfl rfl (ltb rfl) (ltb rfl) rfl hg2 ?_
      refine TriL.skipu rfl rfl (ltb rfl) (ltb rfl) rfl hg2 ?_
      refine TriL.skipu rfl rfl (ltb rfl) (ltb rfl) rfl hg2 ?_
      refine TriL.c1 rfl (op_pickf (ltb rfl) rfl hg2 rfl) ?_
      refine TriL.c1 rfl (op_as (ltb rfl) rfl) ?_
      refine TriL.nil ?_
      refine Tri.ret ?_
      exact ⟨.inr rfl, (ResOK.r1 rfl (.tmp rfl .nil)).cast (congrArg AV.bool (by grind [Fld.hidden])), rfl⟩
  · refine TriL.skipu rfl rfl (ltb rfl) (ltb rfl) rfl hg1 ?_
    refine TriL.skipu rfl rfl (ltb rfl) (ltb rfl) rfl hg1 ?_
    refine TriL.skipu rfl rfl (ltb rfl) (ltb rfl) rfl hg1 ?_
    refine TriL.c1 rfl (op_pickf (ltb rfl) rfl hg1 rfl) ?_
    refine TriL.c1 rfl (op_mv (ltb rfl) rfl) ?_
    refine TriL.skipu rfl rfl (ltb rfl) (ltb rfl) rfl rfl ?_
    refine TriL.skipu rfl rfl (ltb rfl) (ltb rfl) rfl rfl ?_
    refine TriL.skipu rfl rfl (ltb rfl) (ltb rfl) rfl rfl ?_
    refine TriL.c1 rfl (op_pickf (ltb rfl) rfl rfl rfl) ?_
    refine TriL.c1 rfl (op_as (ltb rfl) rfl) ?_
    refine TriL.nil ?_
    refine Tri.ret ?_
    exact ⟨.inr rfl, (ResOK.r1 rfl (.tmp rfl .nil)).cast (congrArg AV.bool (by grind [Fld.hidden])), rfl⟩
theorem r_number (m : Msg) (num : Int) (hl : m.fields.length ≤ 1000) : Pure Tryz.prog 65 [m.av, .int .i64 num] (.int .i64 (m.at num)) := by
  refine Pure.of_tri Tryz.func65 rfl rfl (ltb rfl) fun H => ?_
  refine Tri.seq ?_
  refine Tri.region ?_
  refine TriL.c2 rfl (op_box (ltb rfl) rfl rfl rfl) ?_
  refine TriL.c1 rfl (op_as (ltb rfl) rfl) ?_
  refine TriL.nil ?_
  refine Tri.seq ?_
  refine Tri.seq ?_
  refine Tri.region ?_
  refine TriL.c1 rfl (op_as (ltb rfl) rfl) ?_
  refine TriL.nil ?_
  refine Tri.blk ?_
  refine Tri.ofKept (Kept.keep [.s 5, .h, .s 1, .s 2, .b 2] rfl (by decide) (Kept.now ?_))
  -- LOOP 1
  refine Tri.loopk (fun (i : Nat) => [(.s 5, .sv (.v (.int .i64 (i : Int))))]) _ (fun (i : Nat) => ixFrom (fun f : Fld => f.num == num) (m.fields.drop i) i = m.at num) (fun (i : Nat) => m.fields.length - i) 0 rfl (by simp [Msg.at]) ?_
  rintro i hI
  refine Tri.seq ?_
  refine Tri.seq ?_
  refine Tri.region ?_
  refine TriL.c1 rfl (op_mv (ltb rfl) rfl) ?_
  refine TriL.c1 rfl (op_fal (ltb rfl) fo78_1_M8 rfl) ?_
  refine TriL.c1 rfl (op_ldl (ltb rfl) lk76_M8 rfl rfl rfl) ?_
  refine TriL.c1 rfl (op_lenl (ltb rfl) un76_M8 rfl) ?_
  refine TriL.c1 rfl (op_bin (ltb rfl) rfl rfl rfl) ?_
  refine TriL.nil ?_
  refine Tri.cond rfl (fun hc1 => ?_) (fun hc1 => ?_)
  · have hi := ltm hc1
    have hS := ixFrom_step (p := (fun f : Fld => f.num == num)) hi
    refine Tri.skip ?_
    refine Tri.seq ?_
    refine Tri.blk ?_
    refine Tri.seq ?_
    refine Tri.region ?_
    refine TriL.c1 rfl (op_fal (ltb rfl) fo78_1_M8 rfl) ?_
    refine TriL.c1 rfl (op_ldl (ltb rfl) lk76_M8 rfl rfl rfl) ?_
    refine TriL.c1 rfl (op_mv (ltb rfl) rfl) ?_
    refine TriL.c1 rfl (op_iak (ltb rfl) ie76_M8 rfl rfl (Int.natCast_nonneg _) (ixm hi) rfl) ?_
    refine TriL.c1 rfl (op_fak (ltb rfl) fo98_1_M8 rfl) ?_
    refine TriL.c1 rfl (op_ldk (ltb rfl) lk3_M8 rfl rfl) ?_
    refine TriL.c1 rfl (op_mv (ltb rfl) rfl) ?_
    refine TriL.c1 rfl (op_bin (ltb rfl) rfl rfl rfl) ?_
    refine TriL.nil ?_
    refine Tri.cond rfl (fun hc2 => ?_) (fun hc2 => ?_)
    · refine Tri.seq ?_
      refine Tri.region ?_
      refine TriL.c1 rfl (op_mv (ltb rfl) rfl) ?_
      refine TriL.c1 rfl (op_as (ltb rfl) rfl) ?_
      refine TriL.nil ?_
      refine Tri.ret ?_
      exact ⟨.inr rfl, (ResOK.r1 rfl (.tmp rfl .nil)).cast (congrArg (AV.int .i64) (by grind [Msg.at])), rfl⟩
    · refine Tri.skip ?_
      refine Tri.region ?_
      refine TriL.c1 rfl (op_mv (ltb rfl) rfl) ?_
      refine TriL.c1 rfl (op_bin (ltb rfl) rfl rfl rfl) ?_
      refine TriL.c1 rfl (op_as (ltb rfl) rfl) ?_
      refine TriL.kept (Kept.seti 5 rfl (inc (by omega)) (Kept.keep [.s 5, .h, .s 1, .s 2, .b 2] rfl (by decide) (Kept.now ?_)))
      exact ⟨i + 1, by omega, by grind, rfl⟩
  · have hi := gem hc1
    have hS := ixFrom_end (p := (fun f : Fld => f.num == num)) hi
    refine Tri.exit ?_
    refine Tri.seq ?_
    refine Tri.region ?_
    refine TriL.c1 rfl (op_as (ltb rfl) rfl) ?_
    refine TriL.nil ?_
    refine Tri.ret ?_
    exact ⟨.inr rfl, (ResOK.r1 rfl (.tmp rfl .nil)).cast (congrArg (AV.int .i64) (by grind [Msg.at])), rfl⟩
theorem r_rright (r : Rw) : Pure Tryz.prog 66 [r.av] (.bool r.right) := by
  refine Pure.of_tri Tryz.func66 rfl rfl (ltb rfl) fun H => ?_
  refine Tri.seq ?_
  refine Tri.region ?_
  refine TriL.c2 rfl (op_box (ltb rfl) rfl rfl rfl) ?_
  refine TriL.c1 rfl (op_as (ltb rfl) rfl) ?_
  refine TriL.nil ?_
  refine Tri.seq ?_
  refine Tri.seq ?_
  refine Tri.region ?_
  refine TriL.c1 rfl (op_fal (ltb rfl) fo131_0_M8 rfl) ?_
  refine TriL.c1 rfl (op_ldl (ltb rfl) lk3_M8 rfl rfl rfl) ?_
  refine TriL.c1 rfl (op_fal (ltb rfl) fo131_1_M8 rfl) ?_
  refine TriL.c1 rfl (op_ldl (ltb rfl) lk3_M8 rfl rfl rfl) ?_
  refine TriL.c1 rfl (op_call (ltb rfl) fn118_M8 rfl (r_tagOK _ _)) ?_
  refine TriL.c1 rfl (op_un (ltb rfl) rfl rfl) ?_
  refine TriL.nil ?_
  refine Tri.cond rfl (fun hc1 => ?_) (fun hc1 => ?_)
  · refine Tri.seq ?_
    refine Tri.region ?_
    refine TriL.c1 rfl (op_as (ltb rfl) rfl) ?_
    refine TriL.nil ?_
    refine Tri.ret ?_
    exact ⟨.inr rfl, (ResOK.r1 rfl (.tmp rfl .nil)).cast (congrArg AV.bool (by grind [Rw.right])), rfl⟩
  · refine Tri.skip ?_
    refine Tri.seq ?_
    refine Tri.seq ?_
    refine Tri.region ?_
    refine TriL.c1 rfl (op_fal (ltb rfl) fo131_1_M8 rfl) ?_
    refine TriL.c1 rfl (op_ldl (ltb rfl) lk3_M8 rfl rfl rfl) ?_
    refine TriL.c1 rfl (op_bin (ltb rfl) rfl rfl rfl) ?_
    refine TriL.nil ?_
    refine Tri.cond rfl (fun hc2 => ?_) (fun hc2 => ?_)
    · refine Tri.seq ?_
      refine Tri.region ?_
      refine TriL.c1 rfl (op_fal (ltb rfl) fo131_2_M8 rfl) ?_
      refine TriL.c1 rfl (op_ldl (ltb rfl) lk84_M8 rfl rfl rfl) ?_
      refine TriL.c1 rfl (op_bin (ltb rfl) rfl rfl rfl) ?_
      refine TriL.c1 rfl (op_as (ltb rfl) rfl) ?_
      refine TriL.nil ?_
      refine Tri.ret ?_
      exact ⟨.inr rfl, (ResOK.r1 rfl (.tmp rfl .nil)).cast (congrArg AV.bool (by grind [Rw.right])), rfl⟩
    · refine Tri.skip ?_
      refine Tri.seq ?_
      refine Tri.region ?_
      refine TriL.c1 rfl (op_fal (ltb rfl) fo131_3_M8 rfl) ?_
      refine TriL.c1 rfl (op_ldl (ltb rfl) lk9_M8 rfl rfl rfl) ?_
      refine TriL.c1 rfl (op_bin (ltb rfl) rfl rfl rfl) ?_
      refine TriL.c1 rfl (op_mv (ltb rfl) rfl) ?_
      refine TriL.split (d := 18) rfl (fun hg3 => ?_) (fun hg3 => ?_)
      · refine TriL.g1 rfl (ltb rfl) rfl hg3 (op_fal (ltb rfl) fo131_1_M8 rfl) ?_
        refine TriL.g1 rfl (ltb rfl) rfl hg3 (op_ldl (ltb rfl) lk3_M8 rfl rfl rfl) ?_
        refine TriL.g1 rfl (ltb rfl) rfl hg3 (op_bin (ltb rfl) rfl rfl rfl) ?_
        refine TriL.g1 rfl (ltb rfl) rfl hg3 (op_mv (ltb rfl) rfl) ?_
        refine TriL.split (d := 22) rfl (fun hg4 => ?_) (fun hg4 => ?_)
        · refine TriL.skipu rfl rfl (ltb rfl) (ltb rfl) rfl hg4 ?_
          refine TriL.skipu rfl rfl (ltb rfl) (ltb rfl) rfl hg4 ?_
          refine TriL.skipu rfl rfl (ltb rfl) (ltb rfl) rfl hg4 ?_
          refine TriL.g1 rfl (ltb rfl) rfl hg3 (op_pickt (ltb rfl) rfl hg4 rfl) ?_
          refine TriL.c1 rfl (op_pickt (ltb rfl) rfl hg3 rfl) ?_
          refine TriL.c1 rfl (op_as (ltb rfl) rfl) ?_
          refine TriL.nil ?_
          refine Tri.ret ?_
          exact ⟨.inr rfl, (ResOK.r1 rfl (.tmp rfl .nil)).cast (congrArg AV.bool (by grind [Rw.right])), rfl⟩
        · refine TriL.g1 rfl (ltb rfl) rfl hg4 (op_fal (ltb rfl) fo131_2_M8 rfl) ?_
          refine TriL.g1 rfl (ltb rfl) rfl hg4 (op_ldl (ltb rfl) lk84_M8 rfl rfl rfl) ?_
          refine TriL.g1 rfl (ltb rfl) rfl hg4 (op_bin (ltb rfl) rfl rfl rfl) ?_
          refine TriL.g1 rfl (ltb rfl) rfl hg3 (op_pickf (ltb rfl) rfl hg4 rfl) ?_
          refine TriL.c1 rfl (op_pickt (ltb rfl) rfl hg3 rfl) ?_
          refine TriL.c1 rfl (op_as (ltb rfl) rfl) ?_
          refine TriL.nil ?_
          refine Tri.ret ?_
          exact ⟨.inr rfl, (ResOK.r1 rfl (.tmp rfl .nil)).cast (congrArg AV.bool (by grind [Rw.right])), rfl⟩
      · refine TriL.skipu rfl rfl (ltb rfl) (ltb rfl) rfl hg3 ?_
        refine TriL.skipu rfl rfl (ltb rfl) (ltb rfl) rfl hg3 ?_
        refine TriL.skipu rfl rfl (ltb rfl) (ltb rfl) rfl hg3 ?_
        refine TriL.skipu rfl rfl (ltb rfl) (ltb rfl) rfl hg3 ?_
        refine TriL.skipg rfl rfl (ltb rfl) (ltb rfl) rfl ?_
        refine TriL.skipg rfl rfl (ltb rfl) (ltb rfl) rfl ?_
        refine TriL.skipg rfl rfl (ltb rfl) (ltb rfl) rfl ?_
        refine TriL.skipu rfl rfl (ltb rfl) (ltb rfl) rfl hg3 ?_
        refine TriL.c1 rfl (op_pickf (ltb rfl) rfl hg3 rfl) ?_
        refine TriL.c1 rfl (op_as (ltb rfl) rfl) ?_
        refine TriL.nil ?_
        refine Tri.ret ?_
        exact ⟨.inr rfl, (ResOK.r1 rfl (.tmp rfl .nil)).cast (congrArg AV.bool (by grind [Rw.right])), rfl⟩
theorem p_tnum (n : Int) : Pure Tryz.prog 202 [.int .i64 n] (.bool (decide (1 ≤ n) && decide (n ≤ 536870911))) := by
  refine Pure.of_tri Tryz.func202 rfl rfl (ltb rfl) fun H => ?_
  refine Tri.seq ?_
  refine Tri.region ?_
  refine TriL.c1 rfl (op_as (ltb rfl) rfl) ?_
  refine TriL.nil ?_
  refine Tri.seq ?_
  refine Tri.region ?_
  refine TriL.c1 rfl (op_mv (ltb rfl) rfl) ?_
  refine TriL.c1 rfl (op_bin (ltb rfl) rfl rfl rfl) ?_
  refine TriL.c1 rfl (op_mv (ltb rfl) rfl) ?_
  refine TriL.split (d := 5) rfl (fun hg1 => ?_) (fun hg1 => ?_)
  · refine TriL.g1 rfl (ltb rfl) rfl hg1 (op_mv (ltb rfl) rfl) ?_
    refine TriL.g1 rfl (ltb rfl) rfl hg1 (op_bin (ltb rfl) rfl rfl rfl) ?_
    refine TriL.c1 rfl (op_pickt (ltb rfl) rfl hg1 rfl) ?_
    refine TriL.c1 rfl (op_as (ltb rfl) rfl) ?_
    refine TriL.nil ?_
    refine Tri.ret ?_
    exact ⟨.inr rfl, (ResOK.r1 rfl (.tmp rfl .nil)).cast (congrArg AV.bool (by grind [])), rfl⟩
  · refine TriL.skipu rfl rfl (ltb rfl) (ltb rfl) rfl hg1 ?_
    refine TriL.skipu rfl rfl (ltb rfl) (ltb rfl) rfl hg1 ?_
    refine TriL.c1 rfl (op_pickf (ltb rfl) rfl hg1 rfl) ?_
    refine TriL.c1 rfl (op_as (ltb rfl) rfl) ?_
    refine TriL.nil ?_
    refine Tri.ret ?_
    exact ⟨.inr rfl, (ResOK.r1 rfl (.tmp rfl .nil)).cast (congrArg AV.bool (by grind [])), rfl⟩
theorem p_tagOK (n w : Int) : Pure Tryz.prog 172 [.int .i64 n, .int .i64 w] (.bool (tagOK n w)) := by
  refine Pure.of_tri Tryz.func172 rfl rfl (ltb rfl) fun H => ?_
  refine Tri.seq ?_
  refine Tri.region ?_
  refine TriL.c1 rfl (op_as (ltb rfl) rfl) ?_
  refine TriL.nil ?_
  refine Tri.seq ?_
  refine Tri.region ?_
  refine TriL.c1 rfl (op_as (ltb rfl) rfl) ?_
  refine TriL.nil ?_
  refine Tri.seq ?_
  refine Tri.seq ?_
  refine Tri.region ?_
  refine TriL.c1 rfl (op_mv (ltb rfl) rfl) ?_
  refine TriL.nil ?_
  refine Tri.blk ?_
  refine Tri.seq ?_
  refine Tri.blk ?_
  refine Tri.blk ?_
  refine Tri.blk ?_
  refine Tri.seq ?_
  refine Tri.seq ?_
  refine Tri.seq ?_
  refine Tri.seq ?_
  refine Tri.region ?_
  refine TriL.c1 rfl (op_bin (ltb rfl) rfl rfl rfl) ?_
  refine TriL.c1 rfl (op_as (ltb rfl) rfl) ?_
  refine TriL.nil ?_
  refine Tri.cond rfl (fun hc1 => ?_) (fun hc1 => ?_)
  · refine Tri.skip ?_
    refine Tri.condT rfl hc1 ?_
    refine Tri.exit ?_
    refine Tri.seq ?_
    refine Tri.region ?_
    refine TriL.c1 rfl (op_as (ltb rfl) rfl) ?_
    refine TriL.nil ?_
    refine Tri.exit ?_
    refine Tri.seq ?_
    refine Tri.region ?_
    refine TriL.c1 rfl (op_mv (ltb rfl) rfl) ?_
    refine TriL.c1 rfl (op_mv (ltb rfl) rfl) ?_
    refine TriL.g1 rfl (ltb rfl) rfl rfl (op_mv (ltb rfl) rfl) ?_
    refine TriL.g1 rfl (ltb rfl) rfl rfl (op_call (ltb rfl) fn202_M8 rfl (p_tnum _)) ?_
    refine TriL.c1 rfl (op_pickt (ltb rfl) rfl rfl rfl) ?_
    refine TriL.c1 rfl (op_as (ltb rfl) rfl) ?_
    refine TriL.nil ?_
    refine Tri.ret ?_
    exact ⟨.inr rfl, (ResOK.r1 rfl (.tmp rfl .nil)).cast (congrArg AV.bool (by grind [tagOK])), rfl⟩
  · -- region 4 tag.go:20
    refine Tri.region ?_
    refine TriL.c1 rfl (op_bin (ltb rfl) rfl rfl rfl) ?_
    refine TriL.c1 rfl (op_as (ltb rfl) rfl) ?_
    refine TriL.nil ?_
    refine Tri.cond rfl (fun hc2 => ?_) (fun hc2 => ?_)
    · refine Tri.exit ?_
      refine Tri.seq ?_
      refine Tri.region ?_
      refine TriL.c1 rfl (op_as (ltb rfl) rfl) ?_
      refine TriL.nil ?_
      refine Tri.exit ?_
      refine Tri.seq ?_
      refine Tri.region ?_
      refine TriL.c1 rfl (op_mv (ltb rfl) rfl) ?_
      refine TriL.c1 rfl (op_mv (ltb rfl) rfl) ?_
      refine TriL.g1 rfl (ltb rfl) rfl rfl (op_mv (ltb rfl) rfl) ?_
      refine TriL.g1 rfl (ltb rfl) rfl rfl (op_call (ltb rfl) fn202_M8 rfl (p_tnum _)) ?_
      refine TriL.c1 rfl (op_pickt (ltb rfl) rfl rfl rfl) ?_
      refine TriL.c1 rfl (op_as (ltb rfl) rfl) ?_
      refine TriL.nil ?_
      refine Tri.ret ?_
      exact ⟨.inr rfl, (ResOK.r1 rfl (.tmp rfl .nil)).cast (congrArg AV.bool (by grind [tagOK])), rfl⟩
    · refine Tri.skip ?_
      refine Tri.seq ?_
      refine Tri.seq ?_
      refine Tri.region ?_
      refine TriL.c1 rfl (op_bin (ltb rfl) rfl rfl rfl) ?_
      refine TriL.c1 rfl (op_as (ltb rfl) rfl) ?_
      refine TriL.nil ?_
      refine Tri.cond rfl (fun hc3 => ?_) (fun hc3 => ?_)
      · refine Tri.exit ?_
        refine Tri.seq ?_
        refine Tri.region ?_
        refine TriL.c1 rfl (op_as (ltb rfl) rfl) ?_
        refine TriL.nil ?_
        refine Tri.exit ?_
        refine Tri.seq ?_
        refine Tri.region ?_
        refine TriL.c1 rfl (op_mv (ltb rfl) rfl) ?_
        refine TriL.c1 rfl (op_mv (ltb rfl) rfl) ?_
        refine TriL.g1 rfl (ltb rfl) rfl rfl (op_mv (ltb rfl) rfl) ?_
        refine TriL.g1 rfl (ltb rfl) rfl rfl (op_call (ltb rfl) fn202_M8 rfl (p_tnum _)) ?_
        refine TriL.c1 rfl (op_pickt (ltb rfl) rfl rfl rfl) ?_
        refine TriL.c1 rfl (op_as (ltb rfl) rfl) ?_
        refine TriL.nil ?_
        refine Tri.ret ?_
        exact ⟨.inr rfl, (ResOK.r1 rfl (.tmp rfl .nil)).cast (congrArg AV.bool (by grind [tagOK])), rfl⟩
      · refine Tri.skip ?_
        refine Tri.seq ?_
        refine Tri.region ?_
        refine TriL.c1 rfl (op_bin (ltb rfl) rfl rfl rfl) ?_
        refine TriL.c1 rfl (op_as (ltb rfl) rfl) ?_
        refine TriL.nil ?_
        refine Tri.cond rfl (fun hc4 => ?_) (fun hc4 => ?_)
        · refine Tri.exit ?_
          refine Tri.seq ?_
          refine Tri.region ?_
          refine TriL.c1 rfl (op_as (ltb rfl) rfl) ?_
          refine TriL.nil ?_
          refine Tri.exit ?_
          refine Tri.seq ?_
          refine Tri.region ?_
          refine TriL.c1 rfl (op_mv (ltb rfl) rfl) ?_
          refine TriL.c1 rfl (op_mv (ltb rfl) rfl) ?_
          refine TriL.g1 rfl (ltb rfl) rfl rfl (op_mv (ltb rfl) rfl) ?_
          refine TriL.g1 rfl (ltb rfl) rfl rfl (op_call (ltb rfl) fn202_M8 rfl (p_tnum _)) ?_
          refine TriL.c1 rfl (op_pickt (ltb rfl) rfl rfl rfl) ?_
          refine TriL.c1 rfl (op_as (ltb rfl) rfl) ?_
          refine TriL.nil ?_
          refine Tri.ret ?_
          exact ⟨.inr rfl, (ResOK.r1 rfl (.tmp rfl .nil)).cast (congrArg AV.bool (by grind [tagOK])), rfl⟩
        · refine Tri.skip ?_
          refine Tri.exit ?_
          refine Tri.seq ?_
          refine Tri.region ?_
          refine TriL.c1 rfl (op_mv (ltb rfl) rfl) ?_
          refine TriL.c1 rfl (op_mv (ltb rfl) rfl) ?_
          refine TriL.skipu rfl rfl (ltb rfl) (ltb rfl) rfl rfl ?_
          refine TriL.skipu rfl rfl (ltb rfl) (ltb rfl) rfl rfl ?_
          refine TriL.c1 rfl (op_pickf (ltb rfl) rfl rfl rfl) ?_
          refine TriL.c1 rfl (op_as (ltb rfl) rfl) ?_
          refine TriL.nil ?_
          refine Tri.ret ?_
          exact ⟨.inr rfl, (ResOK.r1 rfl (.tmp rfl .nil)).cast (congrArg AV.bool (by grind [tagOK])), rfl⟩
theorem p_rright (r : Rw) : Pure Tryz.prog 127 [r.av] (.bool r.right) := by
  have h2 : ((((r.n / 2 ^ (min ((32 : Int)).toNat IntKind.u64.bits) : Nat) : Int)) == 0) = decide (r.n < 4294967296) := (by rw [show 2 ^ (min ((32 : Int)).toNat IntKind.u64.bits) = 4294967296 by decide, Bool.eq_iff_iff]; simp; omega)
  refine Pure.of_tri Tryz.func127 rfl rfl (ltb rfl) fun H => ?_
  refine Tri.seq ?_
  refine Tri.region ?_
  refine TriL.c2 rfl (op_box (ltb rfl) rfl rfl rfl) ?_
  refine TriL.c1 rfl (op_as (ltb rfl) rfl) ?_
  refine TriL.nil ?_
  refine Tri.seq ?_
  refine Tri.blk ?_
  refine Tri.seq ?_
  refine Tri.region ?_
  refine TriL.c1 rfl (op_fal (ltb rfl) fo131_0_M8 rfl) ?_
  refine TriL.c1 rfl (op_ldl (ltb rfl) lk3_M8 rfl rfl rfl) ?_
  refine TriL.c1 rfl (op_fal (ltb rfl) fo131_1_M8 rfl) ?_
  refine TriL.c1 rfl (op_ldl (ltb rfl) lk3_M8 rfl rfl rfl) ?_
  refine TriL.c1 rfl (op_call (ltb rfl) fn172_M8 rfl (p_tagOK _ _)) ?_
  refine TriL.c1 rfl (op_un (ltb rfl) rfl rfl) ?_
  refine TriL.c1 rfl (op_as (ltb rfl) rfl) ?_
  refine TriL.nil ?_
  refine Tri.cond rfl (fun hc1 => ?_) (fun hc1 => ?_)
  · refine Tri.seq ?_
    refine Tri.region ?_
    refine TriL.c1 rfl (op_as (ltb rfl) rfl) ?_
    refine TriL.nil ?_
    refine Tri.ret ?_
    exact ⟨.inr rfl, (ResOK.r1 rfl (.tmp rfl .nil)).cast (congrArg AV.bool (by grind [Rw.right])), rfl⟩
  · refine Tri.seq ?_
    refine Tri.region ?_
    refine TriL.c1 rfl (op_fal (ltb rfl) fo131_1_M8 rfl) ?_
    refine TriL.c1 rfl (op_ldl (ltb rfl) lk3_M8 rfl rfl rfl) ?_
    refine TriL.c1 rfl (op_bin (ltb rfl) rfl rfl rfl) ?_
    refine TriL.c1 rfl (op_as (ltb rfl) rfl) ?_
    refine TriL.nil ?_
    refine Tri.cond rfl (fun hc2 => ?_) (fun hc2 => ?_)
    · refine Tri.seq ?_
      refine Tri.region ?_
      refine TriL.c1 rfl (op_fal (ltb rfl) fo131_2_M8 rfl) ?_
      refine TriL.c1 rfl (op_ldl (ltb rfl) lk84_M8 rfl rfl rfl) ?_
      refine TriL.c1 rfl (op_bin (ltb rfl) rfl rfl rfl) ?_
      refine TriL.c1 rfl (op_as (ltb rfl) rfl) ?_
      refine TriL.nil ?_
      refine Tri.ret ?_
      exact ⟨.inr rfl, (ResOK.r1 rfl (.tmp rfl .nil)).cast (congrArg AV.bool (by grind [Rw.right])), rfl⟩
    · refine Tri.seq ?_
      refine Tri.region ?_
      refine TriL.c1 rfl (op_fal (ltb rfl) fo131_1_M8 rfl) ?_
      refine TriL.c1 rfl (op_ldl (ltb rfl) lk3_M8 rfl rfl rfl) ?_
      refine TriL.c1 rfl (op_bin (ltb rfl) rfl rfl rfl) ?_
      refine TriL.c1 rfl (op_mv (ltb rfl) rfl) ?_
      refine TriL.split (d := 21) rfl (fun hg3 => ?_) (fun hg3 => ?_)
      · refine TriL.g1 rfl (ltb rfl) rfl hg3 (op_fal (ltb rfl) fo131_2_M8 rfl) ?_
        refine TriL.g1 rfl (ltb rfl) rfl hg3 (op_ldl (ltb rfl) lk84_M8 rfl rfl rfl) ?_
        refine TriL.g1 rfl (ltb rfl) rfl hg3 (op_shr (ltb rfl) rfl rfl (by decide)) ?_
        refine TriL.g1 rfl (ltb rfl) rfl hg3 (op_bin (ltb rfl) rfl rfl rfl) ?_
        refine TriL.c1 rfl (op_pickt (ltb rfl) rfl hg3 rfl) ?_
        refine TriL.c1 rfl (op_as (ltb rfl) rfl) ?_
        refine TriL.nil ?_
        refine Tri.cond rfl (fun hc4 => ?_) (fun hc4 => ?_)
        · refine Tri.seq ?_
          refine Tri.region ?_
          refine TriL.c1 rfl (op_as (ltb rfl) rfl) ?_
          refine TriL.nil ?_
          refine Tri.ret ?_
          exact ⟨.inr rfl, (ResOK.r1 rfl (.tmp rfl .nil)).cast (congrArg AV.bool (by grind [Rw.right])), rfl⟩
        · refine Tri.skip ?_
          refine Tri.seq ?_
          refine Tri.region ?_
          refine TriL.c1 rfl (op_fal (ltb rfl) fo131_3_M8 rfl) ?_
          refine TriL.c1 rfl (op_ldl (ltb rfl) lk9_M8 rfl rfl rfl) ?_
          refine TriL.c1 rfl (op_bin (ltb rfl) rfl rfl rfl) ?_
          refine TriL.c1 rfl (op_as (ltb rfl) rfl) ?_
          refine TriL.nil ?_
          refine Tri.ret ?_
          exact ⟨.inr rfl, (ResOK.r1 rfl (.tmp rfl .nil)).cast (congrArg AV.bool (by grind [Rw.right])), rfl⟩
      · refine TriL.skipu rfl rfl (ltb rfl) (ltb rfl) rfl hg3 ?_
        refine TriL.skipu rfl rfl (ltb rfl) (ltb rfl) rfl hg3 ?_
        refine TriL.skipu rfl rfl (ltb rfl) (ltb rfl) rfl hg3 ?_
        refine TriL.skipu rfl rfl (ltb rfl) (ltb rfl) rfl hg3 ?_
        refine TriL.c1 rfl (op_pickf (ltb rfl) rfl hg3 rfl) ?_
        refine TriL.c1 rfl (op_as (ltb rfl) rfl) ?_
        refine TriL.nil ?_
        refine Tri.condF rfl rfl ?_
        refine Tri.skip ?_
        refine Tri.seq ?_
        refine Tri.region ?_
        refine TriL.c1 rfl (op_fal (ltb rfl) fo131_3_M8 rfl) ?_
        refine TriL.c1 rfl (op_ldl (ltb rfl) lk9_M8 rfl rfl rfl) ?_
        refine TriL.c1 rfl (op_bin (ltb rfl) rfl rfl rfl) ?_
        refine TriL.c1 rfl (op_as (ltb rfl) rfl) ?_
        refine TriL.nil ?_
        refine Tri.ret ?_
        exact ⟨.inr rfl, (ResOK.r1 rfl (.tmp rfl .nil)).cast (congrArg AV.bool (by grind [Rw.right])), rfl⟩
theorem p_ixfM (l : List Msg) (hl : l.length ≤ 9223372036854775807) (F : FuncId) (caps : List AV) (p : Msg → Bool) (hF : isFn Tryz.prog F = true) (hp : ∀ x ∈ l, Pure Tryz.prog F ([x.av] ++ caps) (.bool (p x))) : Pure Tryz.prog 77 [.sl (l.map Msg.av), .fn F caps] (.int .i64 (ixFrom p l 0)) := by
  refine Pure.of_tri Tryz.func77 rfl rfl (ltb rfl) fun H => ?_
  refine Tri.seq ?_
  refine Tri.region ?_
  refine TriL.c1 rfl (op_as (ltb rfl) rfl) ?_
  refine TriL.nil ?_
  refine Tri.seq ?_
  refine Tri.seq ?_
  refine Tri.region ?_
  refine TriL.c1 rfl (op_mv (ltb rfl) rfl) ?_
  refine TriL.c1 rfl (op_lenl (ltb rfl) un23_M8 rfl) ?_
  refine TriL.c1 rfl (op_mv (ltb rfl) rfl) ?_
  refine TriL.nil ?_
  refine Tri.blk ?_
  refine Tri.ofKept (Kept.keep [.s 8, .h, .s 0, .s 1, .s 7] rfl (by decide) (Kept.now ?_))
  -- LOOP 1
  refine Tri.loopk (fun (i : Nat) => [(.s 8, .sv (.v (.int .i64 (i : Int))))]) _ (fun (i : Nat) => ixFrom p (l.drop i) i = ixFrom p l 0) (fun (i : Nat) => l.length - i) 0 rfl (by simp) ?_
  rintro i hI
  refine Tri.seq ?_
  refine Tri.region ?_
  refine TriL.c1 rfl (op_bin (ltb rfl) rfl rfl rfl) ?_
  refine TriL.nil ?_
  refine Tri.seq ?_
  refine Tri.cond rfl (fun hc1 => ?_) (fun hc1 => ?_)
  · have hi := ltm hc1
    have hS := ixFrom_step (p := p) hi
    refine Tri.skip ?_
    refine Tri.seq ?_
    refine Tri.blk ?_
    refine Tri.seq ?_
    refine Tri.region ?_
    refine TriL.c1 rfl (op_mv (ltb rfl) rfl) ?_
    refine TriL.c1 rfl (op_as (ltb rfl) rfl) ?_
    refine TriL.nil ?_
    refine Tri.seq ?_
    refine Tri.region ?_
    refine TriL.c1 rfl (op_mv (ltb rfl) rfl) ?_
    refine TriL.c1 rfl (op_mv (ltb rfl) rfl) ?_
    refine TriL.c1 rfl (op_mv (ltb rfl) rfl) ?_
    refine TriL.c1 rfl (op_iak (ltb rfl) ie23_M8 rfl rfl (Int.natCast_nonneg _) (ixm hi) rfl) ?_
    refine TriL.c1 rfl (op_ldk (ltb rfl) lk78_M8 rfl rfl) ?_
    refine TriL.c1 rfl (op_callc (ltb rfl) hF rfl rfl (hp _ (List.getElem_mem hi))) ?_
    refine TriL.nil ?_
    refine Tri.cond rfl (fun hc2 => ?_) (fun hc2 => ?_)
    · refine Tri.seq ?_
      refine Tri.region ?_
      refine TriL.c1 rfl (op_mv (ltb rfl) rfl) ?_
      refine TriL.c1 rfl (op_as (ltb rfl) rfl) ?_
      refine TriL.nil ?_
      refine Tri.ret ?_
      exact ⟨.inr rfl, (ResOK.r1 rfl (.tmp rfl .nil)).cast (congrArg (AV.int .i64) (by grind [])), rfl⟩
    · refine Tri.skip ?_
      refine Tri.region ?_
      refine TriL.c1 rfl (op_bin (ltb rfl) rfl rfl rfl) ?_
      refine TriL.c1 rfl (op_mv (ltb rfl) rfl) ?_
      refine TriL.kept (Kept.seti 8 rfl (inc (by omega)) (Kept.keep [.s 8, .h, .s 0, .s 1, .s 7] rfl (by decide) (Kept.now ?_)))
      exact ⟨i + 1, by omega, by grind, rfl⟩
  · have hi := gem hc1
    have hS := ixFrom_end (p := p) hi
    refine Tri.exit ?_
    refine Tri.seq ?_
    refine Tri.region ?_
    refine TriL.c1 rfl (op_as (ltb rfl) rfl) ?_
    refine TriL.nil ?_
    refine Tri.ret ?_
    exact ⟨.inr rfl, (ResOK.r1 rfl (.tmp rfl .nil)).cast (congrArg (AV.int .i64) (by grind [])), rfl⟩
theorem p_ixfF (l : List Fld) (hl : l.length ≤ 9223372036854775807) (F : FuncId) (caps : List AV) (p : Fld → Bool) (hF : isFn Tryz.prog F = true) (hp : ∀ x ∈ l, Pure Tryz.prog F ([x.av] ++ caps) (.bool (p x))) : Pure Tryz.prog 132 [.sl (l.map Fld.av), .fn F caps] (.int .i64 (ixFrom p l 0)) := by
  refine Pure.of_tri Tryz.func132 rfl rfl (ltb rfl) fun H => ?_
  refine Tri.seq ?_
  refine Tri.region ?_
  refine TriL.c1 rfl (op_as (ltb rfl) rfl) ?_
  refine TriL.nil ?_
  refine Tri.seq ?_
  refine Tri.seq ?_
  refine Tri.region ?_
  refine TriL.c1 rfl (op_mv (ltb rfl) rfl) ?_
  refine TriL.c1 rfl (op_lenl (ltb rfl) un76_M8 rfl) ?_
  refine TriL.c1 rfl (op_mv (ltb rfl) rfl) ?_
  refine TriL.nil ?_
  refine Tri.blk ?_
  refine Tri.ofKept (Kept.keep [.s 8, .h, .s 0, .s 1, .s 7] rfl (by decide) (Kept.now ?_))
  -- LOOP 1
  refine Tri.loopk (fun (i : Nat) => [(.s 8, .sv (.v (.int .i64 (i : Int))))]) _ (fun (i : Nat) => ixFrom p (l.drop i) i = ixFrom p l 0) (fun (i : Nat) => l.length - i) 0 rfl (by simp) ?_
  rintro i hI
  refine Tri.seq ?_
  refine Tri.region ?_
  refine TriL.c1 rfl (op_bin (ltb rfl) rfl rfl rfl) ?_
  refine TriL.nil ?_
  refine Tri.seq ?_
  refine Tri.cond rfl (fun hc1 => ?_) (fun hc1 => ?_)
  · have hi := ltm hc1
    have hS := ixFrom_step (p := p) hi
    refine Tri.skip ?_
    refine Tri.seq ?_
    refine Tri.blk ?_
    refine Tri.seq ?_
    refine Tri.region ?_
    refine TriL.c1 rfl (op_mv (ltb rfl) rfl) ?_
    refine TriL.c1 rfl (op_as (ltb rfl) rfl) ?_
    refine TriL.nil ?_
    refine Tri.seq ?_
    refine Tri.region ?_
    refine TriL.c1 rfl (op_mv (ltb rfl) rfl) ?_
    refine TriL.c1 rfl (op_mv (ltb rfl) rfl) ?_
    refine TriL.c1 rfl (op_mv (ltb rfl) rfl) ?_
    refine TriL.c1 rfl (op_iak (ltb rfl) ie76_M8 rfl rfl (Int.natCast_nonneg _) (ixm hi) rfl) ?_
    refine TriL.c1 rfl (op_ldk (ltb rfl) lk98_M8 rfl rfl) ?_
    refine TriL.c1 rfl (op_callc (ltb rfl) hF rfl rfl (hp _ (List.getElem_mem hi))) ?_
    refine TriL.nil ?_
    refine Tri.cond rfl (fun hc2 => ?_) (fun hc2 => ?_)
    · refine Tri.seq ?_
      refine Tri.region ?_
      refine TriL.c1 rfl (op_mv (ltb rfl) rfl) ?_
      refine TriL.c1 rfl (op_as (ltb rfl) rfl) ?_
      refine TriL.nil ?_
      refine Tri.ret ?_
      exact ⟨.inr rfl, (ResOK.r1 rfl (.tmp rfl .nil)).cast (congrArg (AV.int .i64) (by grind [])), rfl⟩
    · refine Tri.skip ?_
      refine Tri.region ?_
      refine TriL.c1 rfl (op_bin (ltb rfl) rfl rfl rfl) ?_
      refine TriL.c1 rfl (op_mv (ltb rfl) rfl) ?_
      refine TriL.kept (Kept.seti 8 rfl (inc (by omega)) (Kept.keep [.s 8, .h, .s 0, .s 1, .s 7] rfl (by decide) (Kept.now ?_)))
      exact ⟨i + 1, by omega, by grind, rfl⟩
  · have hi := gem hc1
    have hS := ixFrom_end (p := p) hi
    refine Tri.exit ?_
    refine Tri.seq ?_
    refine Tri.region ?_
    refine TriL.c1 rfl (op_as (ltb rfl) rfl) ?_
    refine TriL.nil ?_
    refine Tri.ret ?_
    exact ⟨.inr rfl, (ResOK.r1 rfl (.tmp rfl .nil)).cast (congrArg (AV.int .i64) (by grind [])), rfl⟩
theorem p_fm1 (m : Msg) (name : Str) : Pure Tryz.prog 78 ([m.av] ++ [.kp [.str name]]) (.bool (m.name == name)) := by
  refine Pure.of_tri Tryz.func78 rfl rfl (ltb rfl) fun H => ?_
  refine Tri.seq ?_
  refine Tri.region ?_
  refine TriL.c2 rfl (op_box (ltb rfl) rfl rfl rfl) ?_
  refine TriL.c1 rfl (op_as (ltb rfl) rfl) ?_
  refine TriL.nil ?_
  refine Tri.seq ?_
  refine Tri.region ?_
  refine TriL.c1 rfl (op_fal (ltb rfl) fo78_0_M8 rfl) ?_
  refine TriL.c1 rfl (op_ldl (ltb rfl) lk9_M8 rfl rfl rfl) ?_
  refine TriL.c1 rfl (op_ldk (ltb rfl) lk9_M8 rfl rfl) ?_
  refine TriL.c1 rfl (op_bin (ltb rfl) rfl rfl rfl) ?_
  refine TriL.c1 rfl (op_as (ltb rfl) rfl) ?_
  refine TriL.nil ?_
  refine Tri.ret ?_
  exact ⟨.inr rfl, (ResOK.r1 rfl (.tmp rfl .nil)).cast rfl, rfl⟩
theorem p_fn1 (f : Fld) (num : Int) : Pure Tryz.prog 133 ([f.av] ++ [.kp [.int .i64 num]]) (.bool (f.num == num)) := by
  refine Pure.of_tri Tryz.func133 rfl rfl (ltb rfl) fun H => ?_
  refine Tri.seq ?_
  refine Tri.region ?_
  refine TriL.c2 rfl (op_box (ltb rfl) rfl rfl rfl) ?_
  refine TriL.c1 rfl (op_as (ltb rfl) rfl) ?_
  refine TriL.nil ?_
  refine Tri.seq ?_
  refine Tri.region ?_
  refine TriL.c1 rfl (op_fal (ltb rfl) fo98_1_M8 rfl) ?_
  refine TriL.c1 rfl (op_ldl (ltb rfl) lk3_M8 rfl rfl rfl) ?_
  refine TriL.c1 rfl (op_ldk (ltb rfl) lk3_M8 rfl rfl) ?_
  refine TriL.c1 rfl (op_bin (ltb rfl) rfl rfl rfl) ?_
  refine TriL.c1 rfl (op_as (ltb rfl) rfl) ?_
  refine TriL.nil ?_
  refine Tri.ret ?_
  exact ⟨.inr rfl, (ResOK.r1 rfl (.tmp rfl .nil)).cast rfl, rfl⟩
theorem p_msgIx (s : Sch) (name : Str) (hl : s.msgs.length ≤ 9223372036854775807) : Pure Tryz.prog 45 [s.av, .str name] (.int .i64 (s.msgIx name)) := by
  refine Pure.of_tri Tryz.func45 rfl rfl (ltb rfl) fun H => ?_
  refine Tri.seq ?_
  refine Tri.region ?_
  refine TriL.c2 rfl (op_box (ltb rfl) rfl rfl rfl) ?_
  refine TriL.c2 rfl (op_box (ltb rfl) rfl rfl rfl) ?_
  refine TriL.c1 rfl (op_as (ltb rfl) rfl) ?_
  refine TriL.nil ?_
  refine Tri.seq ?_
  refine Tri.ofKept (Kept.fzb 3 rfl rfl (Kept.now ?_))
  refine Tri.region ?_
  refine TriL.c1 rfl (op_fal (ltb rfl) fo25_1_M8 rfl) ?_
  refine TriL.c1 rfl (op_ldl (ltb rfl) lk23_M8 rfl rfl rfl) ?_
  refine TriL.c1 rfl (op_mkf (ltb rfl) rfl) ?_
  refine TriL.c1 rfl (op_call (ltb rfl) fn77_M8 rfl (p_ixfM s.msgs hl _ _ (fun m => m.name == name) fn78_M8 (fun x _ => p_fm1 x name))) ?_
  refine TriL.c1 rfl (op_as (ltb rfl) rfl) ?_
  refine TriL.nil ?_
  refine Tri.ret ?_
  exact ⟨.inr rfl, (ResOK.r1 rfl (.tmp rfl .nil)).cast rfl, rfl⟩
theorem p_number (m : Msg) (num : Int) (hl : m.fields.length ≤ 1000) : Pure Tryz.prog 84 [m.av, .int .i64 num] (.int .i64 (m.at num)) := by
  refine Pure.of_tri Tryz.func84 rfl rfl (ltb rfl) fun H => ?_
  refine Tri.seq ?_
  refine Tri.region ?_
  refine TriL.c2 rfl (op_box (ltb rfl) rfl rfl rfl) ?_
  refine TriL.c2 rfl (op_box (ltb rfl) rfl rfl rfl) ?_
  refine TriL.c1 rfl (op_as (ltb rfl) rfl) ?_
  refine TriL.nil ?_
  refine Tri.seq ?_
  refine Tri.ofKept (Kept.fzb 3 rfl rfl (Kept.now ?_))
  refine Tri.region ?_
  refine TriL.c1 rfl (op_fal (ltb rfl) fo78_1_M8 rfl) ?_
  refine TriL.c1 rfl (op_ldl (ltb rfl) lk76_M8 rfl rfl rfl) ?_
  refine TriL.c1 rfl (op_mkf (ltb rfl) rfl) ?_
  refine TriL.c1 rfl (op_call (ltb rfl) fn132_M8 rfl (p_ixfF m.fields (by omega) _ _ (fun f => f.num == num) fn133_M8 (fun x _ => p_fn1 x num))) ?_
  refine TriL.c1 rfl (op_as (ltb rfl) rfl) ?_
  refine TriL.nil ?_
  refine Tri.ret ?_
  exact ⟨.inr rfl, (ResOK.r1 rfl (.tmp rfl .nil)).cast rfl, rfl⟩
end Go.Proofs.YtnpgcmeclkncnaaGreatDoor.X
/- which values are values of a message of a schema, in the program. -/
set_option linter.unusedVariables false
set_option linter.unusedSimpArgs false
set_option linter.unusedSectionVars false
set_option maxRecDepth 100000
namespace Go.Proofs.YtnpgcmeclkncnaaGreatDoor.X
open Go Go.RowKit Go.Proofs
theorem fn125_M9 : isFn Tryz.prog 125 = true := by kernel_rfl
theorem fn126_M9 : isFn Tryz.prog 126 = true := by kernel_rfl
theorem fn127_M9 : isFn Tryz.prog 127 = true := by kernel_rfl
theorem fn162_M9 : isFn Tryz.prog 162 = true := by kernel_rfl
theorem fn170_M9 : isFn Tryz.prog 170 = true := by kernel_rfl
theorem fn171_M9 : isFn Tryz.prog 171 = true := by kernel_rfl
theorem fn173_M9 : isFn Tryz.prog 173 = true := by kernel_rfl
theorem fn201_M9 : isFn Tryz.prog 201 = true := by kernel_rfl
theorem fn46_M9 : isFn Tryz.prog 46 = true := by kernel_rfl
theorem fn84_M9 : isFn Tryz.prog 84 = true := by kernel_rfl
theorem fo131_0_M9 : fo Tryz.prog 131 0 = some 0 := by kernel_rfl
theorem fo78_1_M9 : fo Tryz.prog 78 1 = some 1 := by kernel_rfl
theorem fo83_0_M9 : fo Tryz.prog 83 0 = some 0 := by kernel_rfl
theorem fo83_1_M9 : fo Tryz.prog 83 1 = some 1 := by kernel_rfl
theorem fo86_0_M9 : fo Tryz.prog 86 0 = some 0 := by kernel_rfl
theorem fo86_1_M9 : fo Tryz.prog 86 1 = some 1 := by kernel_rfl
theorem fo86_2_M9 : fo Tryz.prog 86 2 = some 2 := by kernel_rfl
theorem fo98_2_M9 : fo Tryz.prog 98 2 = some 2 := by kernel_rfl
theorem fo98_3_M9 : fo Tryz.prog 98 3 = some 3 := by kernel_rfl
theorem fo98_4_M9 : fo Tryz.prog 98 4 = some 4 := by kernel_rfl
theorem fo98_6_M9 : fo Tryz.prog 98 6 = some 6 := by kernel_rfl
theorem ie29_M9 : ie Tryz.prog 29 = some 2 := by kernel_rfl
theorem ie30_M9 : ie Tryz.prog 30 = some 4 := by kernel_rfl
theorem ie63_M9 : ie Tryz.prog 63 = some 2 := by kernel_rfl
theorem ie76_M9 : ie Tryz.prog 76 = some 7 := by kernel_rfl
theorem ie81_M9 : ie Tryz.prog 81 = some 3 := by kernel_rfl
theorem lk131_M9 : lk Tryz.prog 131 = some (true, 4) := by kernel_rfl
theorem lk25_M9 : lk Tryz.prog 25 = some (true, 2) := by kernel_rfl
theorem lk3_M9 : lk Tryz.prog 3 = some (false, 1) := by kernel_rfl
theorem lk32_M9 : lk Tryz.prog 32 = some (true, 2) := by kernel_rfl
theorem lk4_M9 : lk Tryz.prog 4 = some (false, 1) := by kernel_rfl
theorem lk63_M9 : lk Tryz.prog 63 = some (false, 1) := by kernel_rfl
theorem lk76_M9 : lk Tryz.prog 76 = some (false, 1) := by kernel_rfl
theorem lk78_M9 : lk Tryz.prog 78 = some (true, 3) := by kernel_rfl
theorem lk81_M9 : lk Tryz.prog 81 = some (false, 1) := by kernel_rfl
theorem lk83_M9 : lk Tryz.prog 83 = some (true, 2) := by kernel_rfl
theorem lk84_M9 : lk Tryz.prog 84 = some (false, 1) := by kernel_rfl
theorem lk86_M9 : lk Tryz.prog 86 = some (true, 3) := by kernel_rfl
theorem lk9_M9 : lk Tryz.prog 9 = some (false, 1) := by kernel_rfl
theorem lk98_M9 : lk Tryz.prog 98 = some (true, 7) := by kernel_rfl
theorem un186_M9 : Tryz.prog.underlying 186 = some (TypeDesc.map 9 3) := Tryz.underlying186
theorem un29_M9 : Tryz.prog.underlying 29 = some (TypeDesc.slice 83) := Tryz.underlying29
theorem un3_M9 : Tryz.prog.underlying 3 = some (TypeDesc.int IntKind.i64) := Tryz.underlying3
theorem un30_M9 : Tryz.prog.underlying 30 = some (TypeDesc.slice 131) := Tryz.underlying30
theorem un63_M9 : Tryz.prog.underlying 63 = some (TypeDesc.slice 32) := Tryz.underlying63
theorem un81_M9 : Tryz.prog.underlying 81 = some (TypeDesc.slice 86) := Tryz.underlying81
theorem un9_M9 : Tryz.prog.underlying 9 = some TypeDesc.string := Tryz.underlying9
theorem zA131_M9 : zeroA Tryz.prog 131 = some [AV.int IntKind.i64 (0), AV.int IntKind.i64 (0), AV.int IntKind.u64 (0), AV.str []] := by kernel_rfl
theorem zA83_M9 : zeroA Tryz.prog 83 = some [AV.int IntKind.i64 (0), AV.sl []] := by kernel_rfl
theorem zA86_M9 : zeroA Tryz.prog 86 = some [AV.int IntKind.u64 (0), AV.str [], AV.sl []] := by kernel_rfl
theorem zv3_M9 : ∀ w, (zeroValue 3).run Tryz.prog w = .ok (.int .i64 0) w := fun w => by kernel_rfl
theorem p_val (s : Sch) (f : Fld) (v : Val) (hvs : v.s.length ≤ 9223372036854775807) (ih : ∀ u ∈ v.m, ∀ name : Str, Pure Tryz.prog 46 [s.av, .str name, .agg u.cells] (.bool (u.ok s name))) : Pure Tryz.prog 170 [s.av, f.av, .agg v.cells] (.bool (v.ok s f)) := by
  have hE := Val.ok_eq s f v
  have hT1 := @treeOk1_one s f.ref v.m
  have hT0 := @treeOk1_no s f.ref v.m
  refine Pure.of_tri Tryz.func170 rfl rfl (ltb rfl) fun H => ?_
  refine Tri.seq ?_
  refine Tri.region ?_
  refine TriL.c2 rfl (op_box (ltb rfl) rfl rfl rfl) ?_
  refine TriL.c2 rfl (op_box (ltb rfl) rfl rfl rfl) ?_
  refine TriL.c2 rfl (op_box (ltb rfl) rfl rfl rfl) ?_
  refine TriL.c1 rfl (op_as (ltb rfl) rfl) ?_
  refine TriL.nil ?_
  refine Tri.joinu [.h, .s 3, .b 3, .s 4, .b 4, .s 5, .b 5] (fun (pl : Bool) => [(.s 7, .sv (.v (.bool pl)))]) (fun (pl : Bool) => pl = (decide (v.n = 0) && decide (v.m.length = 0))) rfl ?_ ?_
  · -- region 1 valid.go:16
    refine Tri.region ?_
    refine TriL.c1 rfl (op_fal (ltb rfl) fo86_0_M9 rfl) ?_
    refine TriL.c1 rfl (op_ldl (ltb rfl) lk84_M9 rfl rfl rfl) ?_
    refine TriL.c1 rfl (op_bin (ltb rfl) rfl rfl rfl) ?_
    refine TriL.c1 rfl (op_mv (ltb rfl) rfl) ?_
    refine TriL.split (d := 11) rfl (fun hg1 => ?_) (fun hg1 => ?_)
    · refine TriL.g1 rfl (ltb rfl) rfl hg1 (op_fal (ltb rfl) fo86_2_M9 rfl) ?_
      refine TriL.g1 rfl (ltb rfl) rfl hg1 (op_ldl (ltb rfl) lk63_M9 rfl rfl rfl) ?_
      refine TriL.g1 rfl (ltb rfl) rfl hg1 (op_lenl (ltb rfl) un63_M9 rfl) ?_
      refine TriL.g1 rfl (ltb rfl) rfl hg1 (op_bin (ltb rfl) rfl rfl rfl) ?_
      refine TriL.c1 rfl (op_pickt (ltb rfl) rfl hg1 rfl) ?_
      refine TriL.c1 rfl (op_as (ltb rfl) rfl) ?_
      refine TriL.kept (Kept.keep [.s 7, .h, .s 3, .b 3, .s 4, .b 4, .s 5, .b 5] rfl (by decide) (Kept.now ?_))
      exact ⟨_, by grind, rfl⟩
    · refine TriL.skipu rfl rfl (ltb rfl) (ltb rfl) rfl hg1 ?_
      refine TriL.skipu rfl rfl (ltb rfl) (ltb rfl) rfl hg1 ?_
      refine TriL.skipu rfl rfl (ltb rfl) (ltb rfl) rfl hg1 ?_
      refine TriL.skipu rfl rfl (ltb rfl) (ltb rfl) rfl hg1 ?_
      refine TriL.c1 rfl (op_pickf (ltb rfl) rfl hg1 rfl) ?_
      refine TriL.c1 rfl (op_as (ltb rfl) rfl) ?_
      refine TriL.kept (Kept.keep [.s 7, .h, .s 3, .b 3, .s 4, .b 4, .s 5, .b 5] rfl (by decide) (Kept.now ?_))
      exact ⟨_, by grind, rfl⟩
  · rintro pl hF2
    refine Tri.seq ?_
    refine Tri.blk ?_
    refine Tri.seq ?_
    refine Tri.region ?_
    refine TriL.c1 rfl (op_fal (ltb rfl) fo98_2_M9 rfl) ?_
    refine TriL.c1 rfl (op_ldl (ltb rfl) lk3_M9 rfl rfl rfl) ?_
    refine TriL.c1 rfl (op_call (ltb rfl) fn173_M9 rfl (p_numT _)) ?_
    refine TriL.c1 rfl (op_as (ltb rfl) rfl) ?_
    refine TriL.nil ?_
    refine Tri.cond rfl (fun hc2 => ?_) (fun hc2 => ?_)
    · refine Tri.seq ?_
      refine Tri.region ?_
      refine TriL.c1 rfl (op_fal (ltb rfl) fo98_2_M9 rfl) ?_
      refine TriL.c1 rfl (op_ldl (ltb rfl) lk3_M9 rfl rfl rfl) ?_
      refine TriL.c1 rfl (op_fal (ltb rfl) fo86_0_M9 rfl) ?_
      refine TriL.c1 rfl (op_ldl (ltb rfl) lk84_M9 rfl rfl rfl) ?_
      refine TriL.c1 rfl (op_call (ltb rfl) fn201_M9 rfl (p_may _ _)) ?_
      refine TriL.c1 rfl (op_mv (ltb rfl) rfl) ?_
      refine TriL.split (d := 26) rfl (fun hg3 => ?_) (fun hg3 => ?_)
      · refine TriL.g1 rfl (ltb rfl) rfl hg3 (op_fal (ltb rfl) fo86_1_M9 rfl) ?_
        refine TriL.g1 rfl (ltb rfl) rfl hg3 (op_ldl (ltb rfl) lk9_M9 rfl rfl rfl) ?_
        refine TriL.g1 rfl (ltb rfl) rfl hg3 (op_bin (ltb rfl) rfl rfl rfl) ?_
        refine TriL.c1 rfl (op_pickt (ltb rfl) rfl hg3 rfl) ?_
        refine TriL.c1 rfl (op_mv (ltb rfl) rfl) ?_
        refine TriL.split (d := 31) rfl (fun hg4 => ?_) (fun hg4 => ?_)
        · refine TriL.g1 rfl (ltb rfl) rfl hg4 (op_fal (ltb rfl) fo86_2_M9 rfl) ?_
          refine TriL.g1 rfl (ltb rfl) rfl hg4 (op_ldl (ltb rfl) lk63_M9 rfl rfl rfl) ?_
          refine TriL.g1 rfl (ltb rfl) rfl hg4 (op_lenl (ltb rfl) un63_M9 rfl) ?_
          refine TriL.g1 rfl (ltb rfl) rfl hg4 (op_bin (ltb rfl) rfl rfl rfl) ?_
          refine TriL.c1 rfl (op_pickt (ltb rfl) rfl hg4 rfl) ?_
          refine TriL.c1 rfl (op_as (ltb rfl) rfl) ?_
          refine TriL.nil ?_
          refine Tri.ret ?_
          exact ⟨.inr rfl, (ResOK.r1 rfl (.tmp rfl .nil)).cast (congrArg AV.bool (by grind [])), rfl⟩
        · refine TriL.skipu rfl rfl (ltb rfl) (ltb rfl) rfl hg4 ?_
          refine TriL.skipu rfl rfl (ltb rfl) (ltb rfl) rfl hg4 ?_
          refine TriL.skipu rfl rfl (ltb rfl) (ltb rfl) rfl hg4 ?_
          refine TriL.skipu rfl rfl (ltb rfl) (ltb rfl) rfl hg4 ?_
          refine TriL.c1 rfl (op_pickf (ltb rfl) rfl hg4 rfl) ?_
          refine TriL.c1 rfl (op_as (ltb rfl) rfl) ?_
          refine TriL.nil ?_
          refine Tri.ret ?_
          exact ⟨.inr rfl, (ResOK.r1 rfl (.tmp rfl .nil)).cast (congrArg AV.bool (by grind [])), rfl⟩
      · refine TriL.skipu rfl rfl (ltb rfl) (ltb rfl) rfl hg3 ?_
        refine TriL.skipu rfl rfl (ltb rfl) (ltb rfl) rfl hg3 ?_
        refine TriL.skipu rfl rfl (ltb rfl) (ltb rfl) rfl hg3 ?_
        refine TriL.c1 rfl (op_pickf (ltb rfl) rfl hg3 rfl) ?_
        refine TriL.c1 rfl (op_mv (ltb rfl) rfl) ?_
        refine TriL.skipu rfl rfl (ltb rfl) (ltb rfl) rfl rfl ?_
        refine TriL.skipu rfl rfl (ltb rfl) (ltb rfl) rfl rfl ?_
        refine TriL.skipu rfl rfl (ltb rfl) (ltb rfl) rfl rfl ?_
        refine TriL.skipu rfl rfl (ltb rfl) (ltb rfl) rfl rfl ?_
        refine TriL.c1 rfl (op_pickf (ltb rfl) rfl rfl rfl) ?_
        refine TriL.c1 rfl (op_as (ltb rfl) rfl) ?_
        refine TriL.nil ?_
        refine Tri.ret ?_
        exact ⟨.inr rfl, (ResOK.r1 rfl (.tmp rfl .nil)).cast (congrArg AV.bool (by grind [])), rfl⟩
    · refine Tri.seq ?_
      refine Tri.region ?_
      refine TriL.c1 rfl (op_fal (ltb rfl) fo98_2_M9 rfl) ?_
      refine TriL.c1 rfl (op_ldl (ltb rfl) lk3_M9 rfl rfl rfl) ?_
      refine TriL.c1 rfl (op_bin (ltb rfl) rfl rfl rfl) ?_
      refine TriL.c1 rfl (op_as (ltb rfl) rfl) ?_
      refine TriL.nil ?_
      refine Tri.cond rfl (fun hc5 => ?_) (fun hc5 => ?_)
      · refine Tri.seq ?_
        refine Tri.region ?_
        refine TriL.c1 rfl (op_mv (ltb rfl) rfl) ?_
        refine TriL.c1 rfl (op_mv (ltb rfl) rfl) ?_
        refine TriL.split (d := 42) rfl (fun hg6 => ?_) (fun hg6 => ?_)
        · refine TriL.g1 rfl (ltb rfl) rfl hg6 (op_fal (ltb rfl) fo86_1_M9 rfl) ?_
          refine TriL.g1 rfl (ltb rfl) rfl hg6 (op_ldl (ltb rfl) lk9_M9 rfl rfl rfl) ?_
          refine TriL.g1 rfl (ltb rfl) rfl hg6 (op_call (ltb rfl) fn162_M9 rfl (p_validS _ hvs)) ?_
          refine TriL.c1 rfl (op_pickt (ltb rfl) rfl hg6 rfl) ?_
          refine TriL.c1 rfl (op_as (ltb rfl) rfl) ?_
          refine TriL.nil ?_
          refine Tri.ret ?_
          exact ⟨.inr rfl, (ResOK.r1 rfl (.tmp rfl .nil)).cast (congrArg AV.bool (by grind [])), rfl⟩
        · refine TriL.skipu rfl rfl (ltb rfl) (ltb rfl) rfl hg6 ?_
          refine TriL.skipu rfl rfl (ltb rfl) (ltb rfl) rfl hg6 ?_
          refine TriL.skipu rfl rfl (ltb rfl) (ltb rfl) rfl hg6 ?_
          refine TriL.c1 rfl (op_pickf (ltb rfl) rfl hg6 rfl) ?_
          refine TriL.c1 rfl (op_as (ltb rfl) rfl) ?_
          refine TriL.nil ?_
          refine Tri.ret ?_
          exact ⟨.inr rfl, (ResOK.r1 rfl (.tmp rfl .nil)).cast (congrArg AV.bool (by grind [])), rfl⟩
      · refine Tri.seq ?_
        refine Tri.region ?_
        refine TriL.c1 rfl (op_fal (ltb rfl) fo98_2_M9 rfl) ?_
        refine TriL.c1 rfl (op_ldl (ltb rfl) lk3_M9 rfl rfl rfl) ?_
        refine TriL.c1 rfl (op_bin (ltb rfl) rfl rfl rfl) ?_
        refine TriL.c1 rfl (op_as (ltb rfl) rfl) ?_
        refine TriL.nil ?_
        refine Tri.cond rfl (fun hc7 => ?_) (fun hc7 => ?_)
        · refine Tri.seq ?_
          refine Tri.region ?_
          refine TriL.c1 rfl (op_mv (ltb rfl) rfl) ?_
          refine TriL.c1 rfl (op_as (ltb rfl) rfl) ?_
          refine TriL.nil ?_
          refine Tri.ret ?_
          exact ⟨.inr rfl, (ResOK.r1 rfl (.tmp rfl .nil)).cast (congrArg AV.bool (by grind [])), rfl⟩
        · refine Tri.seq ?_
          refine Tri.region ?_
          refine TriL.c1 rfl (op_fal (ltb rfl) fo98_2_M9 rfl) ?_
          refine TriL.c1 rfl (op_ldl (ltb rfl) lk3_M9 rfl rfl rfl) ?_
          refine TriL.c1 rfl (op_bin (ltb rfl) rfl rfl rfl) ?_
          refine TriL.c1 rfl (op_as (ltb rfl) rfl) ?_
          refine TriL.nil ?_
          refine Tri.cond rfl (fun hc8 => ?_) (fun hc8 => ?_)
          · refine Tri.seq ?_
            refine Tri.drawn mixed rfl ?_
            refine TriD.c1 rfl (op_fal (ltb rfl) fo86_0_M9 rfl) ?_
            refine TriD.c1 rfl (op_ldl (ltb rfl) lk84_M9 rfl rfl rfl) ?_
            refine TriD.c1 rfl (op_bin (ltb rfl) rfl rfl rfl) ?_
            refine TriD.c1 rfl (op_mv (ltb rfl) rfl) ?_
            refine TriD.split (d := 59) rfl (fun hg9 => ?_) (fun hg9 => ?_)
            · refine TriD.g1 rfl (ltb rfl) rfl hg9 (op_fal (ltb rfl) fo86_1_M9 rfl) ?_
              refine TriD.g1 rfl (ltb rfl) rfl hg9 (op_ldl (ltb rfl) lk9_M9 rfl rfl rfl) ?_
              refine TriD.g1 rfl (ltb rfl) rfl hg9 (op_bin (ltb rfl) rfl rfl rfl) ?_
              refine TriD.c1 rfl (op_pickt (ltb rfl) rfl hg9 rfl) ?_
              refine TriD.c1 rfl (op_mv (ltb rfl) rfl) ?_
              refine TriD.split (d := 64) rfl (fun hg10 => ?_) (fun hg10 => ?_)
              · refine TriD.g1 rfl (ltb rfl) rfl hg10 (op_fal (ltb rfl) fo86_2_M9 rfl) ?_
                refine TriD.g1 rfl (ltb rfl) rfl hg10 (op_ldl (ltb rfl) lk63_M9 rfl rfl rfl) ?_
                refine TriD.g1 rfl (ltb rfl) rfl hg10 (op_lenl (ltb rfl) un63_M9 rfl) ?_
                refine TriD.g1 rfl (ltb rfl) rfl hg10 (op_bin (ltb rfl) rfl rfl rfl) ?_
                refine TriD.c1 rfl (op_pickt (ltb rfl) rfl hg10 rfl) ?_
                refine TriD.c1 rfl (op_mv (ltb rfl) rfl) ?_
                refine TriD.split (d := 70) rfl (fun hg11 => ?_) (fun hg11 => ?_)
                · refine TriD.g1 rfl (ltb rfl) rfl hg11 (op_ldl (ltb rfl) lk25_M9 rfl rfl rfl) ?_
                  refine TriD.g1 rfl (ltb rfl) rfl hg11 (op_fal (ltb rfl) fo98_3_M9 rfl) ?_
                  refine TriD.g1 rfl (ltb rfl) rfl hg11 (op_ldl (ltb rfl) lk9_M9 rfl rfl rfl) ?_
                  refine TriD.g1 rfl (ltb rfl) rfl hg11 (op_fal (ltb rfl) fo86_2_M9 rfl) ?_
                  refine TriD.g1 rfl (ltb rfl) rfl hg11 (op_ldl (ltb rfl) lk63_M9 rfl rfl rfl) ?_
                  refine TriD.g1 rfl (ltb rfl) rfl hg11 (op_iak (ltb rfl) ie63_M9 rfl rfl (by decide) (ixmE (i := 0) Tree.av_eq (by grind)) rfl) ?_
                  refine TriD.g1 rfl (ltb rfl) rfl hg11 (op_ldk (ltb rfl) lk32_M9 rfl rfl) ?_
                  refine TriD.g1 rfl (ltb rfl) rfl hg11 (op_call (ltb rfl) fn46_M9 rfl (ih _ (List.getElem_mem (by grind)) _)) ?_
                  refine TriD.c1 rfl (op_pickt (ltb rfl) rfl hg11 rfl) ?_
                  refine TriD.c1 rfl (op_as (ltb rfl) rfl) ?_
                  refine TriD.nil (by kernel_rfl) (Kept.now ?_)
                  refine Tri.ret ?_
                  exact ⟨.inr rfl, (ResOK.r1 rfl (.tmp rfl .nil)).cast (congrArg AV.bool (by have hm1 : v.m.length = 1 := (by have h := hg11; simp at h; omega); have hq := hT1 hm1; have h0 : v.n = 0 := (by simpa using hg9); have hs0 : v.s = [] := (by simpa using hg10); have hty : f.ty = 15 := (by simpa using hc8); have hnt : numT 15 = false := (by decide); rw [hE, if_neg (by simp [hc2]), if_neg (by omega), if_neg (by omega), if_pos hty, hq, h0, hs0]; simp)), rfl⟩
                · refine TriD.skipu rfl rfl (ltb rfl) (ltb rfl) rfl hg11 ?_
                  refine TriD.skipu rfl rfl (ltb rfl) (ltb rfl) rfl hg11 ?_
                  refine TriD.skipu rfl rfl (ltb rfl) (ltb rfl) rfl hg11 ?_
                  refine TriD.skipu rfl rfl (ltb rfl) (ltb rfl) rfl hg11 ?_
                  refine TriD.skipu rfl rfl (ltb rfl) (ltb rfl) rfl hg11 ?_
                  refine TriD.skipu rfl rfl (ltb rfl) (ltb rfl) rfl hg11 ?_
                  refine TriD.skipu rfl rfl (ltb rfl) (ltb rfl) rfl hg11 ?_
                  refine TriD.skipu rfl rfl (ltb rfl) (ltb rfl) rfl hg11 ?_
                  refine TriD.c1 rfl (op_pickf (ltb rfl) rfl hg11 rfl) ?_
                  refine TriD.c1 rfl (op_as (ltb rfl) rfl) ?_
                  refine TriD.nil (by kernel_rfl) (Kept.now ?_)
                  refine Tri.ret ?_
                  exact ⟨.inr rfl, (ResOK.r1 rfl (.tmp rfl .nil)).cast (congrArg AV.bool (by grind [])), rfl⟩
              · refine TriD.skipu rfl rfl (ltb rfl) (ltb rfl) rfl hg10 ?_
                refine TriD.skipu rfl rfl (ltb rfl) (ltb rfl) rfl hg10 ?_
                refine TriD.skipu rfl rfl (ltb rfl) (ltb rfl) rfl hg10 ?_
                refine TriD.skipu rfl rfl (ltb rfl) (ltb rfl) rfl hg10 ?_
                refine TriD.c1 rfl (op_pickf (ltb rfl) rfl hg10 rfl) ?_
                refine TriD.c1 rfl (op_mv (ltb rfl) rfl) ?_
                refine TriD.skipu rfl rfl (ltb rfl) (ltb rfl) rfl rfl ?_
                refine TriD.skipu rfl rfl (ltb rfl) (ltb rfl) rfl rfl ?_
                refine TriD.skipu rfl rfl (ltb rfl) (ltb rfl) rfl rfl ?_
                refine TriD.skipu rfl rfl (ltb rfl) (ltb rfl) rfl rfl ?_
                refine TriD.skipu rfl rfl (ltb rfl) (ltb rfl) rfl rfl ?_
                refine TriD.skipu rfl rfl (ltb rfl) (ltb rfl) rfl rfl ?_
                refine TriD.skipu rfl rfl (ltb rfl) (ltb rfl) rfl rfl ?_
                refine TriD.skipu rfl rfl (ltb rfl) (ltb rfl) rfl rfl ?_
                refine TriD.c1 rfl (op_pickf (ltb rfl) rfl rfl rfl) ?_
                refine TriD.c1 rfl (op_as (ltb rfl) rfl) ?_
                refine TriD.nil (by kernel_rfl) (Kept.now ?_)
                refine Tri.ret ?_
                exact ⟨.inr rfl, (ResOK.r1 rfl (.tmp rfl .nil)).cast (congrArg AV.bool (by grind [])), rfl⟩
            · refine TriD.skipu rfl rfl (ltb rfl) (ltb rfl) rfl hg9 ?_
              refine TriD.skipu rfl rfl (ltb rfl) (ltb rfl) rfl hg9 ?_
              refine TriD.skipu rfl rfl (ltb rfl) (ltb rfl) rfl hg9 ?_
              refine TriD.c1 rfl (op_pickf (ltb rfl) rfl hg9 rfl) ?_
              refine TriD.c1 rfl (op_mv (ltb rfl) rfl) ?_
              refine TriD.skipu rfl rfl (ltb rfl) (ltb rfl) rfl rfl ?_
              refine TriD.skipu rfl rfl (ltb rfl) (ltb rfl) rfl rfl ?_
              refine TriD.skipu rfl rfl (ltb rfl) (ltb rfl) rfl rfl ?_
              refine TriD.skipu rfl rfl (ltb rfl) (ltb rfl) rfl rfl ?_
              refine TriD.c1 rfl (op_pickf (ltb rfl) rfl rfl rfl) ?_
              refine TriD.c1 rfl (op_mv (ltb rfl) rfl) ?_
              refine TriD.skipu rfl rfl (ltb rfl) (ltb rfl) rfl rfl ?_
              refine TriD.skipu rfl rfl (ltb rfl) (ltb rfl) rfl rfl ?_
              refine TriD.skipu rfl rfl (ltb rfl) (ltb rfl) rfl rfl ?_
              refine TriD.skipu rfl rfl (ltb rfl) (ltb rfl) rfl rfl ?_
              refine TriD.skipu rfl rfl (ltb rfl) (ltb rfl) rfl rfl ?_
              refine TriD.skipu rfl rfl (ltb rfl) (ltb rfl) rfl rfl ?_
              refine TriD.skipu rfl rfl (ltb rfl) (ltb rfl) rfl rfl ?_
              refine TriD.skipu rfl rfl (ltb rfl) (ltb rfl) rfl rfl ?_
              refine TriD.c1 rfl (op_pickf (ltb rfl) rfl rfl rfl) ?_
              refine TriD.c1 rfl (op_as (ltb rfl) rfl) ?_
              refine TriD.nil (by kernel_rfl) (Kept.now ?_)
              refine Tri.ret ?_
              exact ⟨.inr rfl, (ResOK.r1 rfl (.tmp rfl .nil)).cast (congrArg AV.bool (by grind [])), rfl⟩
          · refine Tri.skip ?_
            refine Tri.seq ?_
            refine Tri.region ?_
            refine TriL.c1 rfl (op_as (ltb rfl) rfl) ?_
            refine TriL.nil ?_
            refine Tri.ret ?_
            exact ⟨.inr rfl, (ResOK.r1 rfl (.tmp rfl .nil)).cast (congrArg AV.bool (by grind [])), rfl⟩
theorem p_vals (s : Sch) (f : Fld) (l : List Val) (hl : l.length ≤ 9223372036854775807) (hvs : ∀ v ∈ l, v.s.length ≤ 9223372036854775807) (ih : ∀ v ∈ l, ∀ u ∈ v.m, ∀ name : Str, Pure Tryz.prog 46 [s.av, .str name, .agg u.cells] (.bool (u.ok s name))) : Pure Tryz.prog 125 [s.av, f.av, .sl (l.map Val.av)] (.bool (decide (0 < l.length) && (f.rep || decide (l.length = 1)) && l.all fun v => v.ok s f && (!f.hidden || (!decide (v.n = 0) || !(v.s == []))))) := by
  refine Pure.of_tri Tryz.func125 rfl rfl (ltb rfl) fun H => ?_
  refine Tri.seq ?_
  refine Tri.region ?_
  refine TriL.c2 rfl (op_box (ltb rfl) rfl rfl rfl) ?_
  refine TriL.c2 rfl (op_box (ltb rfl) rfl rfl rfl) ?_
  refine TriL.c1 rfl (op_as (ltb rfl) rfl) ?_
  refine TriL.nil ?_
  refine Tri.joinu [.h, .s 2, .s 3, .b 3, .s 4, .b 4] (fun (_ : Unit) => []) (fun (_ : Unit) => 0 < l.length ∧ (f.rep = true ∨ l.length = 1)) rfl ?_ ?_
  · refine Tri.seq ?_
    refine Tri.region ?_
    refine TriL.c1 rfl (op_mv (ltb rfl) rfl) ?_
    refine TriL.c1 rfl (op_lenl (ltb rfl) un81_M9 rfl) ?_
    refine TriL.c1 rfl (op_bin (ltb rfl) rfl rfl rfl) ?_
    refine TriL.c1 rfl (op_mv (ltb rfl) rfl) ?_
    refine TriL.split (d := 12) rfl (fun hg1 => ?_) (fun hg1 => ?_)
    · refine TriL.skipu rfl rfl (ltb rfl) (ltb rfl) rfl hg1 ?_
      refine TriL.skipu rfl rfl (ltb rfl) (ltb rfl) rfl hg1 ?_
      refine TriL.skipu rfl rfl (ltb rfl) (ltb rfl) rfl hg1 ?_
      refine TriL.skipu rfl rfl (ltb rfl) (ltb rfl) rfl hg1 ?_
      refine TriL.skipg rfl rfl (ltb rfl) (ltb rfl) rfl ?_
      refine TriL.skipg rfl rfl (ltb rfl) (ltb rfl) rfl ?_
      refine TriL.skipg rfl rfl (ltb rfl) (ltb rfl) rfl ?_
      refine TriL.skipu rfl rfl (ltb rfl) (ltb rfl) rfl hg1 ?_
      refine TriL.c1 rfl (op_pickt (ltb rfl) rfl hg1 rfl) ?_
      refine TriL.nil ?_
      refine Tri.condT rfl rfl ?_
      refine Tri.seq ?_
      refine Tri.region ?_
      refine TriL.c1 rfl (op_as (ltb rfl) rfl) ?_
      refine TriL.nil ?_
      refine Tri.ret ?_
      exact ⟨.inr rfl, (ResOK.r1 rfl (.tmp rfl .nil)).cast (congrArg AV.bool (by grind [])), rfl⟩
    · refine TriL.g1 rfl (ltb rfl) rfl hg1 (op_fal (ltb rfl) fo98_4_M9 rfl) ?_
      refine TriL.g1 rfl (ltb rfl) rfl hg1 (op_ldl (ltb rfl) lk4_M9 rfl rfl rfl) ?_
      refine TriL.g1 rfl (ltb rfl) rfl hg1 (op_un (ltb rfl) rfl rfl) ?_
      refine TriL.g1 rfl (ltb rfl) rfl hg1 (op_mv (ltb rfl) rfl) ?_
      refine TriL.split (d := 16) rfl (fun hg2 => ?_) (fun hg2 => ?_)
      · refine TriL.g1 rfl (ltb rfl) rfl hg2 (op_mv (ltb rfl) rfl) ?_
        refine TriL.g1 rfl (ltb rfl) rfl hg2 (op_lenl (ltb rfl) un81_M9 rfl) ?_
        refine TriL.g1 rfl (ltb rfl) rfl hg2 (op_bin (ltb rfl) rfl rfl rfl) ?_
        refine TriL.g1 rfl (ltb rfl) rfl hg1 (op_pickt (ltb rfl) rfl hg2 rfl) ?_
        refine TriL.c1 rfl (op_pickf (ltb rfl) rfl hg1 rfl) ?_
        refine TriL.nil ?_
        refine Tri.cond rfl (fun hc3 => ?_) (fun hc3 => ?_)
        · refine Tri.seq ?_
          refine Tri.region ?_
          refine TriL.c1 rfl (op_as (ltb rfl) rfl) ?_
          refine TriL.nil ?_
          refine Tri.ret ?_
          exact ⟨.inr rfl, (ResOK.r1 rfl (.tmp rfl .nil)).cast (congrArg AV.bool (by grind [])), rfl⟩
        · refine Tri.ofKept (Kept.keep [.h, .s 2, .s 3, .b 3, .s 4, .b 4] rfl (by decide) (Kept.now ?_))
          refine Tri.skip ?_
          exact ⟨(), by grind, rfl⟩
      · refine TriL.skipu rfl rfl (ltb rfl) (ltb rfl) rfl hg2 ?_
        refine TriL.skipu rfl rfl (ltb rfl) (ltb rfl) rfl hg2 ?_
        refine TriL.skipu rfl rfl (ltb rfl) (ltb rfl) rfl hg2 ?_
        refine TriL.g1 rfl (ltb rfl) rfl hg1 (op_pickf (ltb rfl) rfl hg2 rfl) ?_
        refine TriL.c1 rfl (op_pickf (ltb rfl) rfl hg1 rfl) ?_
        refine TriL.nil ?_
        refine Tri.condF rfl rfl ?_
        refine Tri.ofKept (Kept.keep [.h, .s 2, .s 3, .b 3, .s 4, .b 4] rfl (by decide) (Kept.now ?_))
        refine Tri.skip ?_
        exact ⟨(), by grind, rfl⟩
  · rintro _ hF3
    refine Tri.seq ?_
    refine Tri.seq ?_
    refine Tri.region ?_
    refine TriL.c1 rfl (op_mv (ltb rfl) rfl) ?_
    refine TriL.c1 rfl (op_lenl (ltb rfl) un81_M9 rfl) ?_
    refine TriL.c1 rfl (op_mv (ltb rfl) rfl) ?_
    refine TriL.nil ?_
    refine Tri.blk ?_
    refine Tri.ofKept (Kept.keep [.s 24, .h, .s 3, .b 3, .s 4, .b 4, .s 22, .s 23] rfl (by decide) (Kept.now ?_))
    -- LOOP 1
    refine Tri.loopk (fun (i : Nat) => [(.s 24, .sv (.v (.int .i64 (i : Int))))]) _ (fun (i : Nat) => (l.drop i).all (fun v => v.ok s f && (!f.hidden || (!decide (v.n = 0) || !(v.s == [])))) = l.all (fun v => v.ok s f && (!f.hidden || (!decide (v.n = 0) || !(v.s == []))))) (fun (i : Nat) => l.length - i) 0 rfl (by simp) ?_
    rintro i hI
    refine Tri.seq ?_
    refine Tri.region ?_
    refine TriL.c1 rfl (op_bin (ltb rfl) rfl rfl rfl) ?_
    refine TriL.nil ?_
    refine Tri.seq ?_
    refine Tri.cond rfl (fun hc4 => ?_) (fun hc4 => ?_)
    · have hi := ltm hc4
      have hS := all_step (p := fun v : Val => v.ok s f && (!f.hidden || (!decide (v.n = 0) || !(v.s == [])))) hi
      refine Tri.skip ?_
      refine Tri.seq ?_
      refine Tri.blk ?_
      refine Tri.seq ?_
      refine Tri.region ?_
      refine TriL.c1 rfl (op_iak (ltb rfl) ie81_M9 rfl rfl (Int.natCast_nonneg _) (ixmE Val.av_eq hi) rfl) ?_
      refine TriL.c1 rfl (op_ldk (ltb rfl) lk86_M9 rfl rfl) ?_
      refine TriL.c2 rfl (op_all (ltb rfl) zA86_M9 rfl) ?_
      refine TriL.c1 rfl (op_stl lk86_M9 rfl rfl rfl rfl rfl (leb rfl)) ?_
      refine TriL.nil ?_
      refine Tri.seq ?_
      refine Tri.region ?_
      refine TriL.c1 rfl (op_ldl (ltb rfl) lk25_M9 rfl rfl rfl) ?_
      refine TriL.c1 rfl (op_ldl (ltb rfl) lk98_M9 rfl rfl rfl) ?_
      refine TriL.c1 rfl (op_ldl (ltb rfl) lk86_M9 rfl rfl rfl) ?_
      refine TriL.c1 rfl (op_call (ltb rfl) fn170_M9 rfl (p_val _ _ _ (hvs _ (List.getElem_mem hi)) (ih _ (List.getElem_mem hi)))) ?_
      refine TriL.c1 rfl (op_un (ltb rfl) rfl rfl) ?_
      refine TriL.c1 rfl (op_mv (ltb rfl) rfl) ?_
      refine TriL.split (d := 33) rfl (fun hg5 => ?_) (fun hg5 => ?_)
      · refine TriL.skipu rfl rfl (ltb rfl) (ltb rfl) rfl hg5 ?_
        refine TriL.skipu rfl rfl (ltb rfl) (ltb rfl) rfl hg5 ?_
        refine TriL.skipu rfl rfl (ltb rfl) (ltb rfl) rfl hg5 ?_
        refine TriL.skipg rfl rfl (ltb rfl) (ltb rfl) rfl ?_
        refine TriL.skipg rfl rfl (ltb rfl) (ltb rfl) rfl ?_
        refine TriL.skipg rfl rfl (ltb rfl) (ltb rfl) rfl ?_
        refine TriL.skipu rfl rfl (ltb rfl) (ltb rfl) rfl hg5 ?_
        refine TriL.skipu rfl rfl (ltb rfl) (ltb rfl) rfl hg5 ?_
        refine TriL.skipg rfl rfl (ltb rfl) (ltb rfl) rfl ?_
        refine TriL.skipg rfl rfl (ltb rfl) (ltb rfl) rfl ?_
        refine TriL.skipg rfl rfl (ltb rfl) (ltb rfl) rfl ?_
        refine TriL.skipu rfl rfl (ltb rfl) (ltb rfl) rfl hg5 ?_
        refine TriL.c1 rfl (op_pickt (ltb rfl) rfl hg5 rfl) ?_
        refine TriL.nil ?_
        refine Tri.condT rfl rfl ?_
        refine Tri.seq ?_
        refine Tri.region ?_
        refine TriL.c1 rfl (op_as (ltb rfl) rfl) ?_
        refine TriL.nil ?_
        refine Tri.ret ?_
        exact ⟨.inr rfl, (ResOK.r1 rfl (.tmp rfl .nil)).cast (congrArg AV.bool (by grind [])), rfl⟩
      · refine TriL.g1 rfl (ltb rfl) rfl hg5 (op_ldl (ltb rfl) lk98_M9 rfl rfl rfl) ?_
        refine TriL.g1 rfl (ltb rfl) rfl hg5 (op_call (ltb rfl) fn171_M9 rfl (p_hidden _)) ?_
        refine TriL.g1 rfl (ltb rfl) rfl hg5 (op_mv (ltb rfl) rfl) ?_
        refine TriL.split (d := 36) rfl (fun hg6 => ?_) (fun hg6 => ?_)
        · refine TriL.g1 rfl (ltb rfl) rfl hg6 (op_fal (ltb rfl) fo86_0_M9 rfl) ?_
          refine TriL.g1 rfl (ltb rfl) rfl hg6 (op_ldl (ltb rfl) lk84_M9 rfl rfl rfl) ?_
          refine TriL.g1 rfl (ltb rfl) rfl hg6 (op_bin (ltb rfl) rfl rfl rfl) ?_
          refine TriL.g1 rfl (ltb rfl) rfl hg5 (op_pickt (ltb rfl) rfl hg6 rfl) ?_
          refine TriL.g1 rfl (ltb rfl) rfl hg5 (op_mv (ltb rfl) rfl) ?_
          refine TriL.split (d := 41) rfl (fun hg7 => ?_) (fun hg7 => ?_)
          · refine TriL.g1 rfl (ltb rfl) rfl hg7 (op_fal (ltb rfl) fo86_1_M9 rfl) ?_
            refine TriL.g1 rfl (ltb rfl) rfl hg7 (op_ldl (ltb rfl) lk9_M9 rfl rfl rfl) ?_
            refine TriL.g1 rfl (ltb rfl) rfl hg7 (op_bin (ltb rfl) rfl rfl rfl) ?_
            refine TriL.g1 rfl (ltb rfl) rfl hg5 (op_pickt (ltb rfl) rfl hg7 rfl) ?_
            refine TriL.c1 rfl (op_pickf (ltb rfl) rfl hg5 rfl) ?_
            refine TriL.nil ?_
            refine Tri.cond rfl (fun hc8 => ?_) (fun hc8 => ?_)
            · refine Tri.seq ?_
              refine Tri.region ?_
              refine TriL.c1 rfl (op_as (ltb rfl) rfl) ?_
              refine TriL.nil ?_
              refine Tri.ret ?_
              exact ⟨.inr rfl, (ResOK.r1 rfl (.tmp rfl .nil)).cast (congrArg AV.bool (by grind [])), rfl⟩
            · refine Tri.skip ?_
              refine Tri.region ?_
              refine TriL.c1 rfl (op_bin (ltb rfl) rfl rfl rfl) ?_
              refine TriL.c1 rfl (op_mv (ltb rfl) rfl) ?_
              refine TriL.kept (Kept.seti 24 rfl (inc (by omega)) (Kept.keep [.s 24, .h, .s 3, .b 3, .s 4, .b 4, .s 22, .s 23] rfl (by decide) (Kept.now ?_)))
              exact ⟨i + 1, by omega, by grind, rfl⟩
          · refine TriL.skipu rfl rfl (ltb rfl) (ltb rfl) rfl hg7 ?_
            refine TriL.skipu rfl rfl (ltb rfl) (ltb rfl) rfl hg7 ?_
            refine TriL.skipu rfl rfl (ltb rfl) (ltb rfl) rfl hg7 ?_
            refine TriL.g1 rfl (ltb rfl) rfl hg5 (op_pickf (ltb rfl) rfl hg7 rfl) ?_
            refine TriL.c1 rfl (op_pickf (ltb rfl) rfl hg5 rfl) ?_
            refine TriL.nil ?_
            refine Tri.condF rfl rfl ?_
            refine Tri.skip ?_
            refine Tri.region ?_
            refine TriL.c1 rfl (op_bin (ltb rfl) rfl rfl rfl) ?_
            refine TriL.c1 rfl (op_mv (ltb rfl) rfl) ?_
            refine TriL.kept (Kept.seti 24 rfl (inc (by omega)) (Kept.keep [.s 24, .h, .s 3, .b 3, .s 4, .b 4, .s 22, .s 23] rfl (by decide) (Kept.now ?_)))
            exact ⟨i + 1, by omega, by grind, rfl⟩
        · refine TriL.skipu rfl rfl (ltb rfl) (ltb rfl) rfl hg6 ?_
          refine TriL.skipu rfl rfl (ltb rfl) (ltb rfl) rfl hg6 ?_
          refine TriL.skipu rfl rfl (ltb rfl) (ltb rfl) rfl hg6 ?_
          refine TriL.g1 rfl (ltb rfl) rfl hg5 (op_pickf (ltb rfl) rfl hg6 rfl) ?_
          refine TriL.g1 rfl (ltb rfl) rfl hg5 (op_mv (ltb rfl) rfl) ?_
          refine TriL.skipu rfl rfl (ltb rfl) (ltb rfl) rfl rfl ?_
          refine TriL.skipu rfl rfl (ltb rfl) (ltb rfl) rfl rfl ?_
          refine TriL.skipu rfl rfl (ltb rfl) (ltb rfl) rfl rfl ?_
          refine TriL.g1 rfl (ltb rfl) rfl hg5 (op_pickf (ltb rfl) rfl rfl rfl) ?_
          refine TriL.c1 rfl (op_pickf (ltb rfl) rfl hg5 rfl) ?_
          refine TriL.nil ?_
          refine Tri.condF rfl rfl ?_
          refine Tri.skip ?_
          refine Tri.region ?_
          refine TriL.c1 rfl (op_bin (ltb rfl) rfl rfl rfl) ?_
          refine TriL.c1 rfl (op_mv (ltb rfl) rfl) ?_
          refine TriL.kept (Kept.seti 24 rfl (inc (by omega)) (Kept.keep [.s 24, .h, .s 3, .b 3, .s 4, .b 4, .s 22, .s 23] rfl (by decide) (Kept.now ?_)))
          exact ⟨i + 1, by omega, by grind, rfl⟩
    · have hi := gem hc4
      have hS := all_end (p := fun v : Val => v.ok s f && (!f.hidden || (!decide (v.n = 0) || !(v.s == [])))) hi
      refine Tri.exit ?_
      refine Tri.seq ?_
      refine Tri.region ?_
      refine TriL.c1 rfl (op_as (ltb rfl) rfl) ?_
      refine TriL.nil ?_
      refine Tri.ret ?_
      exact ⟨.inr rfl, (ResOK.r1 rfl (.tmp rfl .nil)).cast (congrArg AV.bool (by grind [])), rfl⟩
theorem p_restk (m : Msg) (r : Rw) (hl : m.fields.length ≤ 1000) : Pure Tryz.prog 126 ([r.av] ++ [.kp m.cells]) (.bool (decide (0 ≤ m.at r.num))) := by
  refine Pure.of_tri Tryz.func126 rfl rfl (ltb rfl) fun H => ?_
  refine Tri.seq ?_
  refine Tri.region ?_
  refine TriL.c2 rfl (op_box (ltb rfl) rfl rfl rfl) ?_
  refine TriL.c1 rfl (op_as (ltb rfl) rfl) ?_
  refine TriL.nil ?_
  refine Tri.seq ?_
  refine Tri.region ?_
  refine TriL.c1 rfl (op_ldk (ltb rfl) lk78_M9 rfl rfl) ?_
  refine TriL.c1 rfl (op_fal (ltb rfl) fo131_0_M9 rfl) ?_
  refine TriL.c1 rfl (op_ldl (ltb rfl) lk3_M9 rfl rfl rfl) ?_
  refine TriL.c1 rfl (op_call (ltb rfl) fn84_M9 rfl (p_number _ _ (by omega))) ?_
  refine TriL.c1 rfl (op_bin (ltb rfl) rfl rfl rfl) ?_
  refine TriL.c1 rfl (op_as (ltb rfl) rfl) ?_
  refine TriL.nil ?_
  refine Tri.ret ?_
  exact ⟨.inr rfl, (ResOK.r1 rfl (.tmp rfl .nil)).cast rfl, rfl⟩
theorem p_rest (m : Msg) (l : List Rw) (hl : l.length ≤ 9223372036854775807) (hm : m.fields.length ≤ 1000) : Pure Tryz.prog 80 [m.av, .sl (l.map Rw.av)] (.bool (l.all (restOK m))) := by
  refine Pure.of_tri Tryz.func80 rfl rfl (ltb rfl) fun H => ?_
  refine Tri.seq ?_
  refine Tri.region ?_
  refine TriL.c2 rfl (op_box (ltb rfl) rfl rfl rfl) ?_
  refine TriL.c1 rfl (op_as (ltb rfl) rfl) ?_
  refine TriL.nil ?_
  refine Tri.seq ?_
  refine Tri.ofKept (Kept.fzb 2 rfl rfl (Kept.now ?_))
  refine Tri.region ?_
  refine TriL.c1 rfl (op_mkf (ltb rfl) rfl) ?_
  refine TriL.c1 rfl (op_as (ltb rfl) rfl) ?_
  refine TriL.nil ?_
  refine Tri.seq ?_
  refine Tri.seq ?_
  refine Tri.region ?_
  refine TriL.c1 rfl (op_mv (ltb rfl) rfl) ?_
  refine TriL.c1 rfl (op_lenl (ltb rfl) un30_M9 rfl) ?_
  refine TriL.c1 rfl (op_mv (ltb rfl) rfl) ?_
  refine TriL.nil ?_
  refine Tri.blk ?_
  refine Tri.ofKept (Kept.keep [.s 11, .h, .s 5, .s 9, .s 10] rfl (by decide) (Kept.now ?_))
  -- LOOP 1
  refine Tri.loopk (fun (i : Nat) => [(.s 11, .sv (.v (.int .i64 (i : Int))))]) _ (fun (i : Nat) => (l.drop i).all (restOK m) = l.all (restOK m)) (fun (i : Nat) => l.length - i) 0 rfl (by simp) ?_
  rintro i hI
  refine Tri.seq ?_
  refine Tri.region ?_
  refine TriL.c1 rfl (op_bin (ltb rfl) rfl rfl rfl) ?_
  refine TriL.nil ?_
  refine Tri.seq ?_
  refine Tri.cond rfl (fun hc1 => ?_) (fun hc1 => ?_)
  · have hi := ltm hc1
    have hS := all_step (p := restOK m) hi
    have hA := m.at_cases (l[i]'hi).num
    refine Tri.skip ?_
    refine Tri.seq ?_
    refine Tri.blk ?_
    refine Tri.seq ?_
    refine Tri.region ?_
    refine TriL.c1 rfl (op_iak (ltb rfl) ie30_M9 rfl rfl (Int.natCast_nonneg _) (ixm hi) rfl) ?_
    refine TriL.c1 rfl (op_ldk (ltb rfl) lk131_M9 rfl rfl) ?_
    refine TriL.c2 rfl (op_all (ltb rfl) zA131_M9 rfl) ?_
    refine TriL.c1 rfl (op_stl lk131_M9 rfl rfl rfl rfl rfl (leb rfl)) ?_
    refine TriL.nil ?_
    refine Tri.seq ?_
    refine Tri.region ?_
    refine TriL.c1 rfl (op_ldl (ltb rfl) lk131_M9 rfl rfl rfl) ?_
    refine TriL.c1 rfl (op_call (ltb rfl) fn127_M9 rfl (p_rright _)) ?_
    refine TriL.c1 rfl (op_un (ltb rfl) rfl rfl) ?_
    refine TriL.c1 rfl (op_mv (ltb rfl) rfl) ?_
    refine TriL.split (d := 18) rfl (fun hg2 => ?_) (fun hg2 => ?_)
    · refine TriL.skipu rfl rfl (ltb rfl) (ltb rfl) rfl hg2 ?_
      refine TriL.skipu rfl rfl (ltb rfl) (ltb rfl) rfl hg2 ?_
      refine TriL.skipu rfl rfl (ltb rfl) (ltb rfl) rfl hg2 ?_
      refine TriL.c1 rfl (op_pickt (ltb rfl) rfl hg2 rfl) ?_
      refine TriL.nil ?_
      refine Tri.condT rfl rfl ?_
      refine Tri.seq ?_
      refine Tri.region ?_
      refine TriL.c1 rfl (op_as (ltb rfl) rfl) ?_
      refine TriL.nil ?_
      refine Tri.ret ?_
      exact ⟨.inr rfl, (ResOK.r1 rfl (.tmp rfl .nil)).cast (congrArg AV.bool (by grind [restOK])), rfl⟩
    · refine TriL.g1 rfl (ltb rfl) rfl hg2 (op_mv (ltb rfl) rfl) ?_
      refine TriL.g1 rfl (ltb rfl) rfl hg2 (op_ldl (ltb rfl) lk131_M9 rfl rfl rfl) ?_
      refine TriL.g1 rfl (ltb rfl) rfl hg2 (op_callc (ltb rfl) fn126_M9 rfl rfl (p_restk m (l[i]'hi) hm)) ?_
      refine TriL.c1 rfl (op_pickf (ltb rfl) rfl hg2 rfl) ?_
      refine TriL.nil ?_
      refine Tri.cond rfl (fun hc3 => ?_) (fun hc3 => ?_)
      · refine Tri.seq ?_
        refine Tri.region ?_
        refine TriL.c1 rfl (op_as (ltb rfl) rfl) ?_
        refine TriL.nil ?_
        refine Tri.ret ?_
        exact ⟨.inr rfl, (ResOK.r1 rfl (.tmp rfl .nil)).cast (congrArg AV.bool (by grind [restOK])), rfl⟩
      · refine Tri.skip ?_
        refine Tri.region ?_
        refine TriL.c1 rfl (op_bin (ltb rfl) rfl rfl rfl) ?_
        refine TriL.c1 rfl (op_mv (ltb rfl) rfl) ?_
        refine TriL.kept (Kept.seti 11 rfl (inc (by omega)) (Kept.keep [.s 11, .h, .s 5, .s 9, .s 10] rfl (by decide) (Kept.now ?_)))
        exact ⟨i + 1, by omega, by grind [restOK], rfl⟩
  · have hi := gem hc1
    have hS := all_end (p := restOK m) hi
    refine Tri.exit ?_
    refine Tri.seq ?_
    refine Tri.region ?_
    refine TriL.c1 rfl (op_as (ltb rfl) rfl) ?_
    refine TriL.nil ?_
    refine Tri.ret ?_
    exact ⟨.inr rfl, (ResOK.r1 rfl (.tmp rfl .nil)).cast (congrArg AV.bool (by grind [restOK])), rfl⟩
theorem p_slots (s : Sch) (m : Msg) (l : List Slot) (hl : l.length ≤ 9223372036854775807) (hm : m.fields.length ≤ 1000) (ho : ∀ f ∈ m.fields, f.one.length ≤ 1000) (hvals : ∀ x ∈ l, ∀ f : Fld, Pure Tryz.prog 125 [s.av, f.av, .sl (x.vals.map Val.av)] (.bool (decide (0 < x.vals.length) && (f.rep || decide (x.vals.length = 1)) && x.vals.all fun v => v.ok s f && (!f.hidden || (!decide (v.n = 0) || !(v.s == [])))))) : Pure Tryz.prog 79 [s.av, m.av, .sl (l.map Slot.av)] (.bool (slotsOk s m l none [])) := by
  refine Pure.of_tri Tryz.func79 rfl rfl (ltb rfl) fun H => ?_
  refine Tri.seq ?_
  refine Tri.region ?_
  refine TriL.c2 rfl (op_box (ltb rfl) rfl rfl rfl) ?_
  refine TriL.c2 rfl (op_box (ltb rfl) rfl rfl rfl) ?_
  refine TriL.c1 rfl (op_as (ltb rfl) rfl) ?_
  refine TriL.nil ?_
  refine Tri.seq ?_
  refine Tri.region ?_
  refine TriL.c2 rfl (op_mkm (kt := 9) (et := 3) (ltb rfl) rfl) ?_
  refine TriL.c1 rfl (op_as (ltb rfl) rfl) ?_
  refine TriL.nil ?_
  refine Tri.seq ?_
  refine Tri.seq ?_
  refine Tri.region ?_
  refine TriL.c1 rfl (op_mv (ltb rfl) rfl) ?_
  refine TriL.c1 rfl (op_lenl (ltb rfl) un29_M9 rfl) ?_
  refine TriL.c1 rfl (op_mv (ltb rfl) rfl) ?_
  refine TriL.nil ?_
  refine Tri.blk ?_
  refine Tri.ofKept (Kept.keep [.s 15, .b 12, .h, .s 2, .s 3, .b 3, .s 4, .b 4, .s 7, .s 13, .s 14] rfl (by decide) (Kept.now ?_))
  -- LOOP 1
  refine Tri.loopk (fun ((i, f) : Nat × (List UInt8 → Int)) => [(.s 15, .sv (.v (.int .i64 (i : Int)))), (.b 12, .raw (MapSI Tryz.prog 9 3 i f))]) _ (fun ((i, f) : Nat × (List UInt8 → Int)) => (∀ key, f key = ((((l.take i).map m.oneOf).count key : Nat) : Int)) ∧ slotsAt s m l i = slotsOk s m l none []) (fun ((i, f) : Nat × (List UInt8 → Int)) => l.length - i) (0, fun _ => 0) rfl ⟨by simp, slotsAt_zero s m l⟩ ?_
  rintro ⟨i, f⟩ ⟨hf, hI⟩
  refine Tri.seq ?_
  refine Tri.region ?_
  refine TriL.c1 rfl (op_bin (ltb rfl) rfl rfl rfl) ?_
  refine TriL.nil ?_
  refine Tri.seq ?_
  refine Tri.cond rfl (fun hc1 => ?_) (fun hc1 => ?_)
  · have hi := ltm hc1
    have hS := @slotsAt_step s m l i hi
    refine Tri.skip ?_
    refine Tri.seq ?_
    refine Tri.blk ?_
    refine Tri.seq ?_
    refine Tri.region ?_
    refine TriL.c1 rfl (op_mv (ltb rfl) rfl) ?_
    refine TriL.c1 rfl (op_iak (ltb rfl) ie29_M9 rfl rfl (Int.natCast_nonneg _) (ixmE Slot.av_eq hi) rfl) ?_
    refine TriL.c1 rfl (op_ldk (ltb rfl) lk83_M9 rfl rfl) ?_
    refine TriL.c2 rfl (op_all (ltb rfl) zA83_M9 rfl) ?_
    refine TriL.c1 rfl (op_as (ltb rfl) rfl) ?_
    refine TriL.c1 rfl (op_stl lk83_M9 rfl rfl rfl rfl rfl (leb rfl)) ?_
    refine TriL.nil ?_
    refine Tri.seq ?_
    refine Tri.region ?_
    refine TriL.c1 rfl (op_ldl (ltb rfl) lk78_M9 rfl rfl rfl) ?_
    refine TriL.c1 rfl (op_fal (ltb rfl) fo83_0_M9 rfl) ?_
    refine TriL.c1 rfl (op_ldl (ltb rfl) lk3_M9 rfl rfl rfl) ?_
    refine TriL.c1 rfl (op_call (ltb rfl) fn84_M9 rfl (p_number _ _ (by omega))) ?_
    refine TriL.c1 rfl (op_as (ltb rfl) rfl) ?_
    refine TriL.nil ?_
    refine Tri.joinu [.h, .s 2, .s 3, .b 3, .s 4, .b 4, .s 7, .b 12, .s 10, .s 13, .s 14, .s 15] (fun (_ : Unit) => []) (fun (_ : Unit) => decide (m.at (l[i]'hi).num < 0) = false ∧ (match lastN l i with | none => true | some n => decide (n < (l[i]'hi).num)) = true ∧ (l[i]'hi).ok s m = true) rfl ?_ ?_
    · refine Tri.seq ?_
      refine Tri.drawn mixed rfl ?_
      refine TriD.c1 rfl (op_mv (ltb rfl) rfl) ?_
      refine TriD.c1 rfl (op_bin (ltb rfl) rfl rfl rfl) ?_
      refine TriD.c1 rfl (op_mv (ltb rfl) rfl) ?_
      refine TriD.split (d := 26) rfl (fun hg2 => ?_) (fun hg2 => ?_)
      · refine TriD.skipu rfl rfl (ltb rfl) (ltb rfl) rfl hg2 ?_
        refine TriD.skipu rfl rfl (ltb rfl) (ltb rfl) rfl hg2 ?_
        refine TriD.skipu rfl rfl (ltb rfl) (ltb rfl) rfl hg2 ?_
        refine TriD.skipg rfl rfl (ltb rfl) (ltb rfl) rfl ?_
        refine TriD.skipg rfl rfl (ltb rfl) (ltb rfl) rfl ?_
        refine TriD.skipg rfl rfl (ltb rfl) (ltb rfl) rfl ?_
        refine TriD.skipg rfl rfl (ltb rfl) (ltb rfl) rfl ?_
        refine TriD.skipg rfl rfl (ltb rfl) (ltb rfl) rfl ?_
        refine TriD.skipg rfl rfl (ltb rfl) (ltb rfl) rfl ?_
        refine TriD.skipg rfl rfl (ltb rfl) (ltb rfl) rfl ?_
        refine TriD.skipg rfl rfl (ltb rfl) (ltb rfl) rfl ?_
        refine TriD.skipg rfl rfl (ltb rfl) (ltb rfl) rfl ?_
        refine TriD.skipu rfl rfl (ltb rfl) (ltb rfl) rfl hg2 ?_
        refine TriD.c1 rfl (op_pickt (ltb rfl) rfl hg2 rfl) ?_
        refine TriD.c1 rfl (op_mv (ltb rfl) rfl) ?_
        refine TriD.skipu rfl rfl (ltb rfl) (ltb rfl) rfl rfl ?_
        refine TriD.skipu rfl rfl (ltb rfl) (ltb rfl) rfl rfl ?_
        refine TriD.skipu rfl rfl (ltb rfl) (ltb rfl) rfl rfl ?_
        refine TriD.skipu rfl rfl (ltb rfl) (ltb rfl) rfl rfl ?_
        refine TriD.skipu rfl rfl (ltb rfl) (ltb rfl) rfl rfl ?_
        refine TriD.skipu rfl rfl (ltb rfl) (ltb rfl) rfl rfl ?_
        refine TriD.skipu rfl rfl (ltb rfl) (ltb rfl) rfl rfl ?_
        refine TriD.skipu rfl rfl (ltb rfl) (ltb rfl) rfl rfl ?_
        refine TriD.skipu rfl rfl (ltb rfl) (ltb rfl) rfl rfl ?_
        refine TriD.skipu rfl rfl (ltb rfl) (ltb rfl) rfl rfl ?_
        refine TriD.c1 rfl (op_pickt (ltb rfl) rfl rfl rfl) ?_
        refine TriD.nil (by kernel_rfl) (Kept.now ?_)
        refine Tri.condT rfl rfl ?_
        refine Tri.seq ?_
        refine Tri.region ?_
        refine TriL.c1 rfl (op_as (ltb rfl) rfl) ?_
        refine TriL.nil ?_
        refine Tri.ret ?_
        exact ⟨.inr rfl, (ResOK.r1 rfl (.tmp rfl .nil)).cast (congrArg AV.bool (by have hO : (l[i]'hi).ok s m = false := (by rw [Slot.ok_eq, Msg.at_no hg2]); grind)), rfl⟩
      · refine TriD.g1 rfl (ltb rfl) rfl hg2 (op_mv (ltb rfl) rfl) ?_
        refine TriD.g1 rfl (ltb rfl) rfl hg2 (op_bin (ltb rfl) rfl rfl rfl) ?_
        refine TriD.g1 rfl (ltb rfl) rfl hg2 (op_mv (ltb rfl) rfl) ?_
        refine TriD.split (d := 29) rfl (fun hg3 => ?_) (fun hg3 => ?_)
        · refine TriD.g1 rfl (ltb rfl) rfl hg3 (op_mv (ltb rfl) rfl) ?_
          refine TriD.g1 rfl (ltb rfl) rfl hg3 (op_mv (ltb rfl) rfl) ?_
          refine TriD.g1 rfl (ltb rfl) rfl hg3 (op_bin (ltb rfl) rfl rfl rfl) ?_
          refine TriD.g1 rfl (ltb rfl) rfl hg3 (op_iak (ltb rfl) ie29_M9 rfl rfl (by rw [dec1 (by have := of_decide_eq_true hg3; omega) (by omega)]; exact Int.natCast_nonneg _) (ixmE1 Slot.av_eq (dec1 (by have := of_decide_eq_true hg3; omega) (by omega)) (show i - 1 < l.length by omega)) rfl) ?_
          refine TriD.g1 rfl (ltb rfl) rfl hg3 (op_fak (ltb rfl) fo83_0_M9 rfl) ?_
          refine TriD.g1 rfl (ltb rfl) rfl hg3 (op_ldk (ltb rfl) lk3_M9 rfl rfl) ?_
          refine TriD.g1 rfl (ltb rfl) rfl hg3 (op_fal (ltb rfl) fo83_0_M9 rfl) ?_
          refine TriD.g1 rfl (ltb rfl) rfl hg3 (op_ldl (ltb rfl) lk3_M9 rfl rfl rfl) ?_
          refine TriD.g1 rfl (ltb rfl) rfl hg3 (op_bin (ltb rfl) rfl rfl rfl) ?_
          refine TriD.g1 rfl (ltb rfl) rfl hg2 (op_pickt (ltb rfl) rfl hg3 rfl) ?_
          refine TriD.c1 rfl (op_pickf (ltb rfl) rfl hg2 rfl) ?_
          refine TriD.c1 rfl (op_mv (ltb rfl) rfl) ?_
          refine TriD.split (d := 41) rfl (fun hg4 => ?_) (fun hg4 => ?_)
          · refine TriD.skipu rfl rfl (ltb rfl) (ltb rfl) rfl hg4 ?_
            refine TriD.skipu rfl rfl (ltb rfl) (ltb rfl) rfl hg4 ?_
            refine TriD.skipu rfl rfl (ltb rfl) (ltb rfl) rfl hg4 ?_
            refine TriD.skipu rfl rfl (ltb rfl) (ltb rfl) rfl hg4 ?_
            refine TriD.skipu rfl rfl (ltb rfl) (ltb rfl) rfl hg4 ?_
            refine TriD.skipu rfl rfl (ltb rfl) (ltb rfl) rfl hg4 ?_
            refine TriD.skipu rfl rfl (ltb rfl) (ltb rfl) rfl hg4 ?_
            refine TriD.skipu rfl rfl (ltb rfl) (ltb rfl) rfl hg4 ?_
            refine TriD.skipu rfl rfl (ltb rfl) (ltb rfl) rfl hg4 ?_
            refine TriD.skipu rfl rfl (ltb rfl) (ltb rfl) rfl hg4 ?_
            refine TriD.c1 rfl (op_pickt (ltb rfl) rfl hg4 rfl) ?_
            refine TriD.nil (by kernel_rfl) (Kept.now ?_)
            refine Tri.condT rfl rfl ?_
            refine Tri.seq ?_
            refine Tri.region ?_
            refine TriL.c1 rfl (op_as (ltb rfl) rfl) ?_
            refine TriL.nil ?_
            refine Tri.ret ?_
            exact ⟨.inr rfl, (ResOK.r1 rfl (.tmp rfl .nil)).cast (congrArg AV.bool (by rw [lastN_pos (by have := of_decide_eq_true hg3; omega) hi] at hS; grind)), rfl⟩
          · refine TriD.g1 rfl (ltb rfl) rfl hg4 (op_ldl (ltb rfl) lk25_M9 rfl rfl rfl) ?_
            refine TriD.g1 rfl (ltb rfl) rfl hg4 (op_fal (ltb rfl) fo78_1_M9 rfl) ?_
            refine TriD.g1 rfl (ltb rfl) rfl hg4 (op_ldl (ltb rfl) lk76_M9 rfl rfl rfl) ?_
            refine TriD.g1 rfl (ltb rfl) rfl hg4 (op_mv (ltb rfl) rfl) ?_
            refine TriD.g1 rfl (ltb rfl) rfl hg4 (op_iak (ltb rfl) ie76_M9 rfl rfl (Msg.at_nn hg2) (ixm1 (Msg.at_eq hg2) (Msg.at_lt hg2)) rfl) ?_
            refine TriD.g1 rfl (ltb rfl) rfl hg4 (op_ldk (ltb rfl) lk98_M9 rfl rfl) ?_
            refine TriD.g1 rfl (ltb rfl) rfl hg4 (op_fal (ltb rfl) fo83_1_M9 rfl) ?_
            refine TriD.g1 rfl (ltb rfl) rfl hg4 (op_ldl (ltb rfl) lk81_M9 rfl rfl rfl) ?_
            refine TriD.g1 rfl (ltb rfl) rfl hg4 (op_call (ltb rfl) fn125_M9 rfl (hvals _ (List.getElem_mem hi) _)) ?_
            refine TriD.g1 rfl (ltb rfl) rfl hg4 (op_un (ltb rfl) rfl rfl) ?_
            refine TriD.c1 rfl (op_pickf (ltb rfl) rfl hg4 rfl) ?_
            refine TriD.nil (by kernel_rfl) (Kept.now ?_)
            refine Tri.cond rfl (fun hc5 => ?_) (fun hc5 => ?_)
            · refine Tri.seq ?_
              refine Tri.region ?_
              refine TriL.c1 rfl (op_as (ltb rfl) rfl) ?_
              refine TriL.nil ?_
              refine Tri.ret ?_
              exact ⟨.inr rfl, (ResOK.r1 rfl (.tmp rfl .nil)).cast (congrArg AV.bool (by have hO : (l[i]'hi).ok s m = false := (by rw [Slot.ok_vals (Msg.at_fix hg2)]; exact ntr hc5); grind)), rfl⟩
            · refine Tri.ofKept (Kept.keep [.h, .s 2, .s 3, .b 3, .s 4, .b 4, .s 7, .b 12, .s 10, .s 13, .s 14, .s 15] rfl (by decide) (Kept.now ?_))
              refine Tri.skip ?_
              exact ⟨(), ⟨hg2, by rw [lastN_pos (by have := of_decide_eq_true hg3; omega) hi]; simpa using hg4, by rw [Slot.ok_vals (Msg.at_fix hg2)]; exact nfl hc5⟩, rfl⟩
        · refine TriD.skipu rfl rfl (ltb rfl) (ltb rfl) rfl hg3 ?_
          refine TriD.skipu rfl rfl (ltb rfl) (ltb rfl) rfl hg3 ?_
          refine TriD.skipu rfl rfl (ltb rfl) (ltb rfl) rfl hg3 ?_
          refine TriD.skipu rfl rfl (ltb rfl) (ltb rfl) rfl hg3 ?_
          refine TriD.skipu rfl rfl (ltb rfl) (ltb rfl) rfl hg3 ?_
          refine TriD.skipu rfl rfl (ltb rfl) (ltb rfl) rfl hg3 ?_
          refine TriD.skipu rfl rfl (ltb rfl) (ltb rfl) rfl hg3 ?_
          refine TriD.skipu rfl rfl (ltb rfl) (ltb rfl) rfl hg3 ?_
          refine TriD.skipu rfl rfl (ltb rfl) (ltb rfl) rfl hg3 ?_
          refine TriD.g1 rfl (ltb rfl) rfl hg2 (op_pickf (ltb rfl) rfl hg3 rfl) ?_
          refine TriD.c1 rfl (op_pickf (ltb rfl) rfl hg2 rfl) ?_
          refine TriD.c1 rfl (op_mv (ltb rfl) rfl) ?_
          refine TriD.g1 rfl (ltb rfl) rfl rfl (op_ldl (ltb rfl) lk25_M9 rfl rfl rfl) ?_
          refine TriD.g1 rfl (ltb rfl) rfl rfl (op_fal (ltb rfl) fo78_1_M9 rfl) ?_
          refine TriD.g1 rfl (ltb rfl) rfl rfl (op_ldl (ltb rfl) lk76_M9 rfl rfl rfl) ?_
          refine TriD.g1 rfl (ltb rfl) rfl rfl (op_mv (ltb rfl) rfl) ?_
          refine TriD.g1 rfl (ltb rfl) rfl rfl (op_iak (ltb rfl) ie76_M9 rfl rfl (Msg.at_nn hg2) (ixm1 (Msg.at_eq hg2) (Msg.at_lt hg2)) rfl) ?_
          refine TriD.g1 rfl (ltb rfl) rfl rfl (op_ldk (ltb rfl) lk98_M9 rfl rfl) ?_
          refine TriD.g1 rfl (ltb rfl) rfl rfl (op_fal (ltb rfl) fo83_1_M9 rfl) ?_
          refine TriD.g1 rfl (ltb rfl) rfl rfl (op_ldl (ltb rfl) lk81_M9 rfl rfl rfl) ?_
          refine TriD.g1 rfl (ltb rfl) rfl rfl (op_call (ltb rfl) fn125_M9 rfl (hvals _ (List.getElem_mem hi) _)) ?_
          refine TriD.g1 rfl (ltb rfl) rfl rfl (op_un (ltb rfl) rfl rfl) ?_
          refine TriD.c1 rfl (op_pickf (ltb rfl) rfl rfl rfl) ?_
          refine TriD.nil (by kernel_rfl) (Kept.now ?_)
          refine Tri.cond rfl (fun hc6 => ?_) (fun hc6 => ?_)
          · refine Tri.seq ?_
            refine Tri.region ?_
            refine TriL.c1 rfl (op_as (ltb rfl) rfl) ?_
            refine TriL.nil ?_
            refine Tri.ret ?_
            exact ⟨.inr rfl, (ResOK.r1 rfl (.tmp rfl .nil)).cast (congrArg AV.bool (by have hO : (l[i]'hi).ok s m = false := (by rw [Slot.ok_vals (Msg.at_fix hg2)]; exact ntr hc6); grind)), rfl⟩
          · refine Tri.ofKept (Kept.keep [.h, .s 2, .s 3, .b 3, .s 4, .b 4, .s 7, .b 12, .s 10, .s 13, .s 14, .s 15] rfl (by decide) (Kept.now ?_))
            refine Tri.skip ?_
            exact ⟨(), ⟨hg2, by have h0 : i = 0 := (by have := of_decide_eq_false hg3; omega); subst h0; rw [lastN_zero], by rw [Slot.ok_vals (Msg.at_fix hg2)]; exact nfl hc6⟩, rfl⟩
    · rintro _ hF8
      refine Tri.seq ?_
      refine Tri.region ?_
      refine TriL.c1 rfl (op_fal (ltb rfl) fo78_1_M9 rfl) ?_
      refine TriL.c1 rfl (op_ldl (ltb rfl) lk76_M9 rfl rfl rfl) ?_
      refine TriL.c1 rfl (op_mv (ltb rfl) rfl) ?_
      refine TriL.c1 rfl (op_iak (ltb rfl) ie76_M9 rfl rfl (Msg.at_nn hF8.1) (ixm1 (Msg.at_eq hF8.1) (Msg.at_lt hF8.1)) rfl) ?_
      refine TriL.c1 rfl (op_fak (ltb rfl) fo98_6_M9 rfl) ?_
      refine TriL.c1 rfl (op_ldk (ltb rfl) lk9_M9 rfl rfl) ?_
      refine TriL.c1 rfl (op_as (ltb rfl) rfl) ?_
      refine TriL.nil ?_
      refine Tri.seq ?_
      refine Tri.region ?_
      refine TriL.c1 rfl (op_mv (ltb rfl) rfl) ?_
      refine TriL.c1 rfl (op_mv (ltb rfl) rfl) ?_
      refine TriL.c1 rfl (op_lku (ltb rfl) un186_M9 un9_M9 un3_M9 zv3_M9 rfl rfl rfl (by have := ho _ (List.getElem_mem (Msg.at_lt hF8.1)); omega)) ?_
      refine TriL.c1 rfl (op_bin (ltb rfl) rfl rfl rfl) ?_
      refine TriL.c1 rfl (op_mpu un186_M9 un9_M9 un3_M9 rfl rfl rfl rfl (by have := ho _ (List.getElem_mem (Msg.at_lt hF8.1)); omega) (by omega) (wf64 _)) ?_
      refine TriL.nil ?_
      refine Tri.seq ?_
      refine Tri.region ?_
      refine TriL.c1 rfl (op_mv (ltb rfl) rfl) ?_
      refine TriL.c1 rfl (op_bin (ltb rfl) rfl rfl rfl) ?_
      refine TriL.c1 rfl (op_mv (ltb rfl) rfl) ?_
      refine TriL.split (d := 65) rfl (fun hg7 => ?_) (fun hg7 => ?_)
      · refine TriL.g1 rfl (ltb rfl) rfl hg7 (op_mv (ltb rfl) rfl) ?_
        refine TriL.g1 rfl (ltb rfl) rfl hg7 (op_mv (ltb rfl) rfl) ?_
        refine TriL.g1 rfl (ltb rfl) rfl hg7 (op_lku (ltb rfl) un186_M9 un9_M9 un3_M9 zv3_M9 rfl rfl rfl (by have := ho _ (List.getElem_mem (Msg.at_lt hF8.1)); omega)) ?_
        refine TriL.g1 rfl (ltb rfl) rfl hg7 (op_bin (ltb rfl) rfl rfl rfl) ?_
        refine TriL.c1 rfl (op_pickt (ltb rfl) rfl hg7 rfl) ?_
        refine TriL.nil ?_
        refine Tri.cond rfl (fun hc8 => ?_) (fun hc8 => ?_)
        · refine Tri.seq ?_
          refine Tri.region ?_
          refine TriL.c1 rfl (op_as (ltb rfl) rfl) ?_
          refine TriL.nil ?_
          refine Tri.ret ?_
          exact ⟨.inr rfl, (ResOK.r1 rfl (.tmp rfl .nil)).cast (congrArg AV.bool (by have hN := @cnt_new m l i f (m.fields[m.ixN (l[i]'hi).num]'(Msg.at_lt hF8.1)).one hf (by omega); have hX : (1 < IntKind.i64.wrap (f (m.fields[m.ixN (l[i]'hi).num]'(Msg.at_lt hF8.1)).one + 1)) := (by simpa using hc8); have hQ : newOne ((l.take i).map m.oneOf) (m.oneOf (l[i]'hi)) = false := (by rw [oneOf_fix (Msg.at_fix hF8.1)]; unfold newOne; rw [← hN]; simp [hX]; simpa using hg7); grind)), rfl⟩
        · refine Tri.skip ?_
          refine Tri.region ?_
          refine TriL.c1 rfl (op_bin (ltb rfl) rfl rfl rfl) ?_
          refine TriL.c1 rfl (op_mv (ltb rfl) rfl) ?_
          refine TriL.kept (Kept.seti 15 rfl (inc (by omega)) (Kept.keep [.s 15, .b 12, .h, .s 2, .s 3, .b 3, .s 4, .b 4, .s 7, .s 13, .s 14] rfl (by decide) (Kept.now ?_)))
          have hN := @cnt_new m l i f (m.fields[m.ixN (l[i]'hi).num]'(Msg.at_lt hF8.1)).one hf (by omega)
          have hX : ¬ (1 < IntKind.i64.wrap (f (m.fields[m.ixN (l[i]'hi).num]'(Msg.at_lt hF8.1)).one + 1)) := by simpa using hc8
          have hQ : newOne ((l.take i).map m.oneOf) (m.oneOf (l[i]'hi)) = true := by rw [oneOf_fix (Msg.at_fix hF8.1)]; unfold newOne; rw [← hN]; simp [hX]
          exact ⟨(i + 1, _), (by dsimp only; omega), ⟨cnt_step hi hf (oneOf_fix (Msg.at_fix hF8.1)) (by omega), by grind⟩, rfl⟩
      · refine TriL.skipu rfl rfl (ltb rfl) (ltb rfl) rfl hg7 ?_
        refine TriL.skipu rfl rfl (ltb rfl) (ltb rfl) rfl hg7 ?_
        refine TriL.skipu rfl rfl (ltb rfl) (ltb rfl) rfl hg7 ?_
        refine TriL.skipu rfl rfl (ltb rfl) (ltb rfl) rfl hg7 ?_
        refine TriL.c1 rfl (op_pickf (ltb rfl) rfl hg7 rfl) ?_
        refine TriL.nil ?_
        refine Tri.condF rfl rfl ?_
        refine Tri.skip ?_
        refine Tri.region ?_
        refine TriL.c1 rfl (op_bin (ltb rfl) rfl rfl rfl) ?_
        refine TriL.c1 rfl (op_mv (ltb rfl) rfl) ?_
        refine TriL.kept (Kept.seti 15 rfl (inc (by omega)) (Kept.keep [.s 15, .b 12, .h, .s 2, .s 3, .b 3, .s 4, .b 4, .s 7, .s 13, .s 14] rfl (by decide) (Kept.now ?_)))
        have hQ : newOne ((l.take i).map m.oneOf) (m.oneOf (l[i]'hi)) = true := by rw [oneOf_fix (Msg.at_fix hF8.1)]; unfold newOne; simp at hg7; simp [hg7]
        exact ⟨(i + 1, _), (by dsimp only; omega), ⟨cnt_step hi hf (oneOf_fix (Msg.at_fix hF8.1)) (by omega), by grind⟩, rfl⟩
  · have hi := gem hc1
    have hS := @slotsAt_end s m l i hi
    refine Tri.exit ?_
    refine Tri.seq ?_
    refine Tri.region ?_
    refine TriL.c1 rfl (op_as (ltb rfl) rfl) ?_
    refine TriL.nil ?_
    refine Tri.ret ?_
    exact ⟨.inr rfl, (ResOK.r1 rfl (.tmp rfl .nil)).cast (congrArg AV.bool (by grind [])), rfl⟩
end Go.Proofs.YtnpgcmeclkncnaaGreatDoor.X
