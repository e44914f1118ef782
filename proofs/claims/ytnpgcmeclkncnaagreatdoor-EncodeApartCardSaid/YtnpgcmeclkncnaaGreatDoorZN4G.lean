/- numbers of types, in the program and in the document. -/
import Derived.Test.YtnpgcmeclkncnaaGreatDoorZN4D
import Derived.Test.YtnpgcmeclkncnaaGreatDoorZN4F
import Derived.Test.YtnpgcmeclkncnaaGreatDoorZN4E
set_option linter.unusedVariables false
set_option linter.unusedSimpArgs false
set_option linter.unusedSectionVars false
set_option maxRecDepth 100000
namespace Go.Proofs.YtnpgcmeclkncnaaGreatDoor.X
open Go Go.RowKit Go.Proofs
theorem asz264_M7 : asz Tryz.prog 264 = some (16, 3, 1) := by kernel_rfl
theorem fn173_M7 : isFn Tryz.prog 173 = true := by kernel_rfl
theorem fn203_M7 : isFn Tryz.prog 203 = true := by kernel_rfl
theorem fn213_M7 : isFn Tryz.prog 213 = true := by kernel_rfl
theorem fn214_M7 : isFn Tryz.prog 214 = true := by kernel_rfl
theorem fn215_M7 : isFn Tryz.prog 215 = true := by kernel_rfl
theorem fn222_M7 : isFn Tryz.prog 222 = true := by kernel_rfl
theorem fn223_M7 : isFn Tryz.prog 223 = true := by kernel_rfl
theorem fn224_M7 : isFn Tryz.prog 224 = true := by kernel_rfl
theorem fn228_M7 : isFn Tryz.prog 228 = true := by kernel_rfl
theorem fn229_M7 : isFn Tryz.prog 229 = true := by kernel_rfl
theorem fn230_M7 : isFn Tryz.prog 230 = true := by kernel_rfl
theorem fn231_M7 : isFn Tryz.prog 231 = true := by kernel_rfl
theorem lk3_M7 : lk Tryz.prog 3 = some (false, 1) := by kernel_rfl
theorem un2_M7 : Tryz.prog.underlying 2 = some (TypeDesc.int IntKind.i64) := Tryz.underlying2
theorem un21_M7 : Tryz.prog.underlying 21 = some (TypeDesc.int IntKind.i32) := Tryz.underlying21
theorem un235_M7 : Tryz.prog.underlying 235 = some (TypeDesc.int IntKind.u32) := Tryz.underlying235
theorem un272_M7 : Tryz.prog.underlying 272 = some (TypeDesc.int IntKind.u64) := Tryz.underlying272
theorem un84_M7 : Tryz.prog.underlying 84 = some (TypeDesc.int IntKind.u64) := Tryz.underlying84
theorem zA264_M7 : zeroA Tryz.prog 264 = some [AV.int IntKind.i64 (0), AV.int IntKind.i64 (0), AV.int IntKind.i64 (0), AV.int IntKind.i64 (0), AV.int IntKind.i64 (0), AV.int IntKind.i64 (0), AV.int IntKind.i64 (0), AV.int IntKind.i64 (0), AV.int IntKind.i64 (0), AV.int IntKind.i64 (0), AV.int IntKind.i64 (0), AV.int IntKind.i64 (0), AV.int IntKind.i64 (0), AV.int IntKind.i64 (0), AV.int IntKind.i64 (0), AV.int IntKind.i64 (0)] := by kernel_rfl
theorem p_kind (t : Int) : Pure Tryz.prog 203 [.int .i64 t] (.int .i64 (kindT t)) := by
  refine Pure.of_tri Tryz.func203 rfl rfl (ltb rfl) fun H => ?_
  refine Tri.seq ?_
  refine Tri.region ?_
  refine TriL.c1 rfl (op_as (ltb rfl) rfl) ?_
  refine TriL.nil ?_
  refine Tri.seq ?_
  refine Tri.seq ?_
  refine Tri.region ?_
  refine TriL.c1 rfl (op_mv (ltb rfl) rfl) ?_
  refine TriL.c1 rfl (op_bin (ltb rfl) rfl rfl rfl) ?_
  refine TriL.c1 rfl (op_mv (ltb rfl) rfl) ?_
  refine TriL.split (d := 5) rfl (fun hg1 => ?_) (fun hg1 => ?_)
  · refine TriL.skipu rfl rfl (ltb rfl) (ltb rfl) rfl hg1 ?_
    refine TriL.skipu rfl rfl (ltb rfl) (ltb rfl) rfl hg1 ?_
    refine TriL.c1 rfl (op_pickt (ltb rfl) rfl hg1 rfl) ?_
    refine TriL.nil ?_
    refine Tri.condT rfl rfl ?_
    refine Tri.seq ?_
    refine Tri.region ?_
    refine TriL.c1 rfl (op_as (ltb rfl) rfl) ?_
    refine TriL.nil ?_
    refine Tri.ret ?_
    exact ⟨.inr rfl, (ResOK.r1 rfl (.tmp rfl .nil)).cast (congrArg (AV.int .i64) (by grind [kindT_out])), rfl⟩
  · refine TriL.g1 rfl (ltb rfl) rfl hg1 (op_mv (ltb rfl) rfl) ?_
    refine TriL.g1 rfl (ltb rfl) rfl hg1 (op_bin (ltb rfl) rfl rfl rfl) ?_
    refine TriL.c1 rfl (op_pickf (ltb rfl) rfl hg1 rfl) ?_
    refine TriL.nil ?_
    refine Tri.cond rfl (fun hc2 => ?_) (fun hc2 => ?_)
    · refine Tri.seq ?_
      refine Tri.region ?_
      refine TriL.c1 rfl (op_as (ltb rfl) rfl) ?_
      refine TriL.nil ?_
      refine Tri.ret ?_
      exact ⟨.inr rfl, (ResOK.r1 rfl (.tmp rfl .nil)).cast (congrArg (AV.int .i64) (by grind [kindT_out])), rfl⟩
    · refine Tri.skip ?_
      refine Tri.seq ?_
      refine Tri.region ?_
      refine TriL.c1 rfl (op_blda (ltb rfl) asz264_M7 zA264_M7 rfl rfl) ?_
      refine TriL.c1 rfl (op_mv (ltb rfl) rfl) ?_
      refine TriL.c1 rfl (op_ixa (ltb rfl) asz264_M7 lk3_M7 rfl rfl (by grind) (by grind) (kind_cell (by grind) (by grind))) ?_
      refine TriL.c1 rfl (op_as (ltb rfl) rfl) ?_
      refine TriL.nil ?_
      refine Tri.ret ?_
      exact ⟨.inr rfl, (ResOK.r1 rfl (.tmp rfl .nil)).cast (congrArg (AV.int .i64) (by grind [kindT_out])), rfl⟩
theorem p_numT (t : Int) : Pure Tryz.prog 173 [.int .i64 t] (.bool (numT t)) := by
  refine Pure.of_tri Tryz.func173 rfl rfl (ltb rfl) fun H => ?_
  refine Tri.seq ?_
  refine Tri.region ?_
  refine TriL.c1 rfl (op_as (ltb rfl) rfl) ?_
  refine TriL.nil ?_
  refine Tri.seq ?_
  refine Tri.region ?_
  refine TriL.c1 rfl (op_mv (ltb rfl) rfl) ?_
  refine TriL.c1 rfl (op_call (ltb rfl) fn203_M7 rfl (p_kind _)) ?_
  refine TriL.c1 rfl (op_bin (ltb rfl) rfl rfl rfl) ?_
  refine TriL.c1 rfl (op_bin (ltb rfl) rfl rfl rfl) ?_
  refine TriL.c1 rfl (op_as (ltb rfl) rfl) ?_
  refine TriL.nil ?_
  refine Tri.ret ?_
  exact ⟨.inr rfl, (ResOK.r1 rfl (.tmp rfl .nil)).cast (congrArg AV.bool (kind_num t)), rfl⟩
theorem p_wholeT (t : Int) : Pure Tryz.prog 214 [.int .i64 t] (.bool (wholeT t)) := by
  refine Pure.of_tri Tryz.func214 rfl rfl (ltb rfl) fun H => ?_
  refine Tri.seq ?_
  refine Tri.region ?_
  refine TriL.c1 rfl (op_as (ltb rfl) rfl) ?_
  refine TriL.nil ?_
  refine Tri.seq ?_
  refine Tri.region ?_
  refine TriL.c1 rfl (op_mv (ltb rfl) rfl) ?_
  refine TriL.c1 rfl (op_call (ltb rfl) fn203_M7 rfl (p_kind _)) ?_
  refine TriL.c1 rfl (op_bin (ltb rfl) rfl rfl rfl) ?_
  refine TriL.c1 rfl (op_bin (ltb rfl) rfl rfl rfl) ?_
  refine TriL.c1 rfl (op_as (ltb rfl) rfl) ?_
  refine TriL.nil ?_
  refine Tri.ret ?_
  exact ⟨.inr rfl, (ResOK.r1 rfl (.tmp rfl .nil)).cast (congrArg AV.bool (kind_whole t)), rfl⟩
theorem p_signT (t : Int) : Pure Tryz.prog 215 [.int .i64 t] (.bool (signT t)) := by
  refine Pure.of_tri Tryz.func215 rfl rfl (ltb rfl) fun H => ?_
  refine Tri.seq ?_
  refine Tri.region ?_
  refine TriL.c1 rfl (op_as (ltb rfl) rfl) ?_
  refine TriL.nil ?_
  refine Tri.seq ?_
  refine Tri.region ?_
  refine TriL.c1 rfl (op_mv (ltb rfl) rfl) ?_
  refine TriL.c1 rfl (op_call (ltb rfl) fn203_M7 rfl (p_kind _)) ?_
  refine TriL.c1 rfl (op_bin (ltb rfl) rfl rfl rfl) ?_
  refine TriL.c1 rfl (op_bin (ltb rfl) rfl rfl rfl) ?_
  refine TriL.c1 rfl (op_as (ltb rfl) rfl) ?_
  refine TriL.nil ?_
  refine Tri.ret ?_
  exact ⟨.inr rfl, (ResOK.r1 rfl (.tmp rfl .nil)).cast (congrArg AV.bool (kind_sign t)), rfl⟩
theorem p_wideT (t : Int) : Pure Tryz.prog 213 [.int .i64 t] (.bool (wideT t)) := by
  refine Pure.of_tri Tryz.func213 rfl rfl (ltb rfl) fun H => ?_
  refine Tri.seq ?_
  refine Tri.region ?_
  refine TriL.c1 rfl (op_as (ltb rfl) rfl) ?_
  refine TriL.nil ?_
  refine Tri.seq ?_
  refine Tri.region ?_
  refine TriL.c1 rfl (op_mv (ltb rfl) rfl) ?_
  refine TriL.c1 rfl (op_call (ltb rfl) fn203_M7 rfl (p_kind _)) ?_
  refine TriL.c1 rfl (op_bin (ltb rfl) rfl rfl rfl) ?_
  refine TriL.c1 rfl (op_bin (ltb rfl) rfl rfl rfl) ?_
  refine TriL.c1 rfl (op_as (ltb rfl) rfl) ?_
  refine TriL.nil ?_
  refine Tri.ret ?_
  exact ⟨.inr rfl, (ResOK.r1 rfl (.tmp rfl .nil)).cast (congrArg AV.bool (kind_wide t)), rfl⟩
theorem p_wire (t : Int) : Pure Tryz.prog 205 [.int .i64 t] (.int .i64 (wireT t)) := by
  refine Pure.of_tri Tryz.func205 rfl rfl (ltb rfl) fun H => ?_
  refine Tri.seq ?_
  refine Tri.region ?_
  refine TriL.c1 rfl (op_as (ltb rfl) rfl) ?_
  refine TriL.nil ?_
  refine Tri.seq ?_
  refine Tri.seq ?_
  refine Tri.region ?_
  refine TriL.c1 rfl (op_mv (ltb rfl) rfl) ?_
  refine TriL.nil ?_
  refine Tri.blk ?_
  refine Tri.seq ?_
  refine Tri.seq ?_
  refine Tri.region ?_
  refine TriL.c1 rfl (op_bin (ltb rfl) rfl rfl rfl) ?_
  refine TriL.c1 rfl (op_as (ltb rfl) rfl) ?_
  refine TriL.nil ?_
  refine Tri.cond rfl (fun hc1 => ?_) (fun hc1 => ?_)
  · refine Tri.skip ?_
    refine Tri.condT rfl hc1 ?_
    refine Tri.seq ?_
    refine Tri.region ?_
    refine TriL.c1 rfl (op_as (ltb rfl) rfl) ?_
    refine TriL.nil ?_
    refine Tri.ret ?_
    exact ⟨.inr rfl, (ResOK.r1 rfl (.tmp rfl .nil)).cast (congrArg (AV.int .i64) (by grind [wireT])), rfl⟩
  · -- region 3 scalar.go:75
    refine Tri.region ?_
    refine TriL.c1 rfl (op_bin (ltb rfl) rfl rfl rfl) ?_
    refine TriL.c1 rfl (op_as (ltb rfl) rfl) ?_
    refine TriL.nil ?_
    refine Tri.cond rfl (fun hc2 => ?_) (fun hc2 => ?_)
    · refine Tri.seq ?_
      refine Tri.region ?_
      refine TriL.c1 rfl (op_as (ltb rfl) rfl) ?_
      refine TriL.nil ?_
      refine Tri.ret ?_
      exact ⟨.inr rfl, (ResOK.r1 rfl (.tmp rfl .nil)).cast (congrArg (AV.int .i64) (by grind [wireT])), rfl⟩
    · refine Tri.seq ?_
      refine Tri.seq ?_
      refine Tri.region ?_
      refine TriL.c1 rfl (op_bin (ltb rfl) rfl rfl rfl) ?_
      refine TriL.c1 rfl (op_as (ltb rfl) rfl) ?_
      refine TriL.nil ?_
      refine Tri.cond rfl (fun hc3 => ?_) (fun hc3 => ?_)
      · refine Tri.skip ?_
        refine Tri.condT rfl hc3 ?_
        refine Tri.seq ?_
        refine Tri.region ?_
        refine TriL.c1 rfl (op_as (ltb rfl) rfl) ?_
        refine TriL.nil ?_
        refine Tri.ret ?_
        exact ⟨.inr rfl, (ResOK.r1 rfl (.tmp rfl .nil)).cast (congrArg (AV.int .i64) (by grind [wireT])), rfl⟩
      · -- region 6 scalar.go:77
        refine Tri.region ?_
        refine TriL.c1 rfl (op_bin (ltb rfl) rfl rfl rfl) ?_
        refine TriL.c1 rfl (op_as (ltb rfl) rfl) ?_
        refine TriL.nil ?_
        refine Tri.cond rfl (fun hc4 => ?_) (fun hc4 => ?_)
        · refine Tri.seq ?_
          refine Tri.region ?_
          refine TriL.c1 rfl (op_as (ltb rfl) rfl) ?_
          refine TriL.nil ?_
          refine Tri.ret ?_
          exact ⟨.inr rfl, (ResOK.r1 rfl (.tmp rfl .nil)).cast (congrArg (AV.int .i64) (by grind [wireT])), rfl⟩
        · refine Tri.seq ?_
          refine Tri.seq ?_
          refine Tri.region ?_
          refine TriL.c1 rfl (op_bin (ltb rfl) rfl rfl rfl) ?_
          refine TriL.c1 rfl (op_as (ltb rfl) rfl) ?_
          refine TriL.nil ?_
          refine Tri.cond rfl (fun hc5 => ?_) (fun hc5 => ?_)
          · refine Tri.skip ?_
            refine Tri.condT rfl hc5 ?_
            refine Tri.seq ?_
            refine Tri.region ?_
            refine TriL.c1 rfl (op_as (ltb rfl) rfl) ?_
            refine TriL.nil ?_
            refine Tri.ret ?_
            exact ⟨.inr rfl, (ResOK.r1 rfl (.tmp rfl .nil)).cast (congrArg (AV.int .i64) (by grind [wireT])), rfl⟩
          · refine Tri.seq ?_
            refine Tri.region ?_
            refine TriL.c1 rfl (op_bin (ltb rfl) rfl rfl rfl) ?_
            refine TriL.c1 rfl (op_as (ltb rfl) rfl) ?_
            refine TriL.nil ?_
            refine Tri.cond rfl (fun hc6 => ?_) (fun hc6 => ?_)
            · refine Tri.skip ?_
              refine Tri.condT rfl hc6 ?_
              refine Tri.seq ?_
              refine Tri.region ?_
              refine TriL.c1 rfl (op_as (ltb rfl) rfl) ?_
              refine TriL.nil ?_
              refine Tri.ret ?_
              exact ⟨.inr rfl, (ResOK.r1 rfl (.tmp rfl .nil)).cast (congrArg (AV.int .i64) (by grind [wireT])), rfl⟩
            · -- region 10 scalar.go:79
              refine Tri.region ?_
              refine TriL.c1 rfl (op_bin (ltb rfl) rfl rfl rfl) ?_
              refine TriL.c1 rfl (op_as (ltb rfl) rfl) ?_
              refine TriL.nil ?_
              refine Tri.cond rfl (fun hc7 => ?_) (fun hc7 => ?_)
              · refine Tri.seq ?_
                refine Tri.region ?_
                refine TriL.c1 rfl (op_as (ltb rfl) rfl) ?_
                refine TriL.nil ?_
                refine Tri.ret ?_
                exact ⟨.inr rfl, (ResOK.r1 rfl (.tmp rfl .nil)).cast (congrArg (AV.int .i64) (by grind [wireT])), rfl⟩
              · refine Tri.skip ?_
                refine Tri.seq ?_
                refine Tri.region ?_
                refine TriL.c1 rfl (op_as (ltb rfl) rfl) ?_
                refine TriL.nil ?_
                refine Tri.ret ?_
                exact ⟨.inr rfl, (ResOK.r1 rfl (.tmp rfl .nil)).cast (congrArg (AV.int .i64) (by grind [wireT])), rfl⟩
theorem p_fits (z : Int) : Pure Tryz.prog 222 [.int .i64 z] (.bool (fitsT z)) := by
  refine Pure.of_tri Tryz.func222 rfl rfl (ltb rfl) fun H => ?_
  refine Tri.seq ?_
  refine Tri.region ?_
  refine TriL.c1 rfl (op_as (ltb rfl) rfl) ?_
  refine TriL.nil ?_
  refine Tri.seq ?_
  refine Tri.region ?_
  refine TriL.c1 rfl (op_mv (ltb rfl) rfl) ?_
  refine TriL.c1 rfl (op_cvi (ltb rfl) un2_M7 un21_M7 rfl) ?_
  refine TriL.c1 rfl (op_cvi (ltb rfl) un21_M7 un2_M7 rfl) ?_
  refine TriL.c1 rfl (op_mv (ltb rfl) rfl) ?_
  refine TriL.c1 rfl (op_bin (ltb rfl) rfl rfl rfl) ?_
  refine TriL.c1 rfl (op_as (ltb rfl) rfl) ?_
  refine TriL.nil ?_
  refine Tri.ret ?_
  exact ⟨.inr rfl, (ResOK.r1 rfl (.tmp rfl .nil)).cast (congrArg AV.bool (fits_wrap z)), rfl⟩
theorem p_may (t : Int) (n : Nat) : Pure Tryz.prog 201 [.int .i64 t, .int .u64 (n : Int)] (.bool (mayT t n)) := by
  refine Pure.of_tri Tryz.func201 rfl rfl (ltb rfl) fun H => ?_
  refine Tri.seq ?_
  refine Tri.region ?_
  refine TriL.c1 rfl (op_as (ltb rfl) rfl) ?_
  refine TriL.nil ?_
  refine Tri.seq ?_
  refine Tri.blk ?_
  refine Tri.seq ?_
  refine Tri.region ?_
  refine TriL.c1 rfl (op_mv (ltb rfl) rfl) ?_
  refine TriL.c1 rfl (op_bin (ltb rfl) rfl rfl rfl) ?_
  refine TriL.c1 rfl (op_mv (ltb rfl) rfl) ?_
  refine TriL.split (d := 8) rfl (fun hg1 => ?_) (fun hg1 => ?_)
  · refine TriL.skipu rfl rfl (ltb rfl) (ltb rfl) rfl hg1 ?_
    refine TriL.skipu rfl rfl (ltb rfl) (ltb rfl) rfl hg1 ?_
    refine TriL.c1 rfl (op_pickt (ltb rfl) rfl hg1 rfl) ?_
    refine TriL.c1 rfl (op_as (ltb rfl) rfl) ?_
    refine TriL.nil ?_
    refine Tri.condT rfl rfl ?_
    refine Tri.seq ?_
    refine Tri.region ?_
    refine TriL.c1 rfl (op_as (ltb rfl) rfl) ?_
    refine TriL.nil ?_
    refine Tri.ret ?_
    exact ⟨.inr rfl, (ResOK.r1 rfl (.tmp rfl .nil)).cast (congrArg AV.bool (by grind [mayT])), rfl⟩
  · refine TriL.g1 rfl (ltb rfl) rfl hg1 (op_mv (ltb rfl) rfl) ?_
    refine TriL.g1 rfl (ltb rfl) rfl hg1 (op_bin (ltb rfl) rfl rfl rfl) ?_
    refine TriL.c1 rfl (op_pickf (ltb rfl) rfl hg1 rfl) ?_
    refine TriL.c1 rfl (op_as (ltb rfl) rfl) ?_
    refine TriL.nil ?_
    refine Tri.cond rfl (fun hc2 => ?_) (fun hc2 => ?_)
    · refine Tri.seq ?_
      refine Tri.region ?_
      refine TriL.c1 rfl (op_as (ltb rfl) rfl) ?_
      refine TriL.nil ?_
      refine Tri.ret ?_
      exact ⟨.inr rfl, (ResOK.r1 rfl (.tmp rfl .nil)).cast (congrArg AV.bool (by grind [mayT])), rfl⟩
    · refine Tri.seq ?_
      refine Tri.region ?_
      refine TriL.c1 rfl (op_mv (ltb rfl) rfl) ?_
      refine TriL.c1 rfl (op_call (ltb rfl) fn213_M7 rfl (p_wideT _)) ?_
      refine TriL.c1 rfl (op_as (ltb rfl) rfl) ?_
      refine TriL.nil ?_
      refine Tri.cond rfl (fun hc3 => ?_) (fun hc3 => ?_)
      · refine Tri.seq ?_
        refine Tri.region ?_
        refine TriL.c1 rfl (op_as (ltb rfl) rfl) ?_
        refine TriL.nil ?_
        refine Tri.ret ?_
        exact ⟨.inr rfl, (ResOK.r1 rfl (.tmp rfl .nil)).cast (congrArg AV.bool (by grind [mayT])), rfl⟩
      · refine Tri.seq ?_
        refine Tri.region ?_
        refine TriL.c1 rfl (op_mv (ltb rfl) rfl) ?_
        refine TriL.c1 rfl (op_call (ltb rfl) fn215_M7 rfl (p_signT _)) ?_
        refine TriL.c1 rfl (op_as (ltb rfl) rfl) ?_
        refine TriL.nil ?_
        refine Tri.cond rfl (fun hc4 => ?_) (fun hc4 => ?_)
        · refine Tri.seq ?_
          refine Tri.region ?_
          refine TriL.c1 rfl (op_mv (ltb rfl) rfl) ?_
          refine TriL.c1 rfl (op_cvi (ltb rfl) un84_M7 un2_M7 rfl) ?_
          refine TriL.c1 rfl (op_call (ltb rfl) fn222_M7 rfl (p_fits _)) ?_
          refine TriL.c1 rfl (op_as (ltb rfl) rfl) ?_
          refine TriL.nil ?_
          refine Tri.ret ?_
          exact ⟨.inr rfl, (ResOK.r1 rfl (.tmp rfl .nil)).cast (congrArg AV.bool (by have := ty_cases t; grind [mayT, s64])), rfl⟩
        · refine Tri.seq ?_
          refine Tri.region ?_
          refine TriL.c1 rfl (op_mv (ltb rfl) rfl) ?_
          refine TriL.c1 rfl (op_call (ltb rfl) fn214_M7 rfl (p_wholeT _)) ?_
          refine TriL.c1 rfl (op_as (ltb rfl) rfl) ?_
          refine TriL.nil ?_
          refine Tri.cond rfl (fun hc5 => ?_) (fun hc5 => ?_)
          · refine Tri.seq ?_
            refine Tri.region ?_
            refine TriL.c1 rfl (op_mv (ltb rfl) rfl) ?_
            refine TriL.c1 rfl (op_shr (ltb rfl) rfl rfl (by decide)) ?_
            refine TriL.c1 rfl (op_bin (ltb rfl) rfl rfl rfl) ?_
            refine TriL.c1 rfl (op_as (ltb rfl) rfl) ?_
            refine TriL.nil ?_
            refine Tri.ret ?_
            exact ⟨.inr rfl, (ResOK.r1 rfl (.tmp rfl .nil)).cast (congrArg AV.bool (by have h2 : ((((n / 2 ^ (min ((32 : Int)).toNat IntKind.u64.bits) : Nat) : Int)) == 0) = decide (n < 4294967296) := (by rw [show 2 ^ (min ((32 : Int)).toNat IntKind.u64.bits) = 4294967296 by decide, Bool.eq_iff_iff]; simp; omega); rw [h2]; have := ty_cases t; grind [mayT, wholeT, wideT, signT])), rfl⟩
          · refine Tri.seq ?_
            refine Tri.region ?_
            refine TriL.c1 rfl (op_mv (ltb rfl) rfl) ?_
            refine TriL.c1 rfl (op_bin (ltb rfl) rfl rfl rfl) ?_
            refine TriL.c1 rfl (op_as (ltb rfl) rfl) ?_
            refine TriL.nil ?_
            refine Tri.cond rfl (fun hc6 => ?_) (fun hc6 => ?_)
            · refine Tri.seq ?_
              refine Tri.region ?_
              refine TriL.c1 rfl (op_mv (ltb rfl) rfl) ?_
              refine TriL.c1 rfl (op_bin (ltb rfl) rfl rfl rfl) ?_
              refine TriL.c1 rfl (op_as (ltb rfl) rfl) ?_
              refine TriL.nil ?_
              refine Tri.ret ?_
              exact ⟨.inr rfl, (ResOK.r1 rfl (.tmp rfl .nil)).cast (congrArg AV.bool (by have := ty_cases t; grind [mayT, wholeT, wideT, signT])), rfl⟩
            · refine Tri.skip ?_
              refine Tri.seq ?_
              refine Tri.region ?_
              refine TriL.c1 rfl (op_mv (ltb rfl) rfl) ?_
              refine TriL.c1 rfl (op_bin (ltb rfl) rfl rfl rfl) ?_
              refine TriL.c1 rfl (op_as (ltb rfl) rfl) ?_
              refine TriL.nil ?_
              refine Tri.ret ?_
              exact ⟨.inr rfl, (ResOK.r1 rfl (.tmp rfl .nil)).cast (congrArg AV.bool (by have := ty_cases t; grind [mayT, wholeT, wideT, signT])), rfl⟩
theorem p_twice (u : Int) : Pure Tryz.prog 229 [.int .u64 u] (.int .u64 (IntKind.u64.wrap (u * 2))) := by
  refine Pure.of_tri Tryz.func229 rfl rfl (ltb rfl) fun H => ?_
  refine Tri.seq ?_
  refine Tri.region ?_
  refine TriL.c1 rfl (op_as (ltb rfl) rfl) ?_
  refine TriL.nil ?_
  refine Tri.seq ?_
  refine Tri.region ?_
  refine TriL.c1 rfl (op_mv (ltb rfl) rfl) ?_
  refine TriL.c1 rfl (op_bin (ltb rfl) rfl rfl rfl) ?_
  refine TriL.c1 rfl (op_as (ltb rfl) rfl) ?_
  refine TriL.nil ?_
  refine Tri.ret ?_
  exact ⟨.inr rfl, (ResOK.r1 rfl (.tmp rfl .nil)).cast rfl, rfl⟩
theorem p_signs (u : Int) : Pure Tryz.prog 230 [.int .u64 u] (.int .u64 (IntKind.u64.wrap ((IntKind.i64.wrap u).fdiv (2 ^ 63)))) := by
  refine Pure.of_tri Tryz.func230 rfl rfl (ltb rfl) fun H => ?_
  refine Tri.seq ?_
  refine Tri.region ?_
  refine TriL.c1 rfl (op_as (ltb rfl) rfl) ?_
  refine TriL.nil ?_
  refine Tri.seq ?_
  refine Tri.region ?_
  refine TriL.c1 rfl (op_mv (ltb rfl) rfl) ?_
  refine TriL.c1 rfl (op_cvi (ltb rfl) un272_M7 un2_M7 rfl) ?_
  refine TriL.c1 rfl (op_bin (ltb rfl) rfl rfl rfl) ?_
  refine TriL.c1 rfl (op_cvi (ltb rfl) un2_M7 un272_M7 rfl) ?_
  refine TriL.c1 rfl (op_as (ltb rfl) rfl) ?_
  refine TriL.nil ?_
  refine Tri.ret ?_
  exact ⟨.inr rfl, (ResOK.r1 rfl (.tmp rfl .nil)).cast rfl, rfl⟩
theorem p_both (u : Int) : Pure Tryz.prog 228 [.int .u64 u, .fn 229 [], .fn 230 []] (.int .u64 (ibits .xor .u64 (IntKind.u64.wrap (u * 2)) (IntKind.u64.wrap ((IntKind.i64.wrap u).fdiv (2 ^ 63))))) := by
  refine Pure.of_tri Tryz.func228 rfl rfl (ltb rfl) fun H => ?_
  refine Tri.seq ?_
  refine Tri.region ?_
  refine TriL.c1 rfl (op_as (ltb rfl) rfl) ?_
  refine TriL.nil ?_
  refine Tri.seq ?_
  refine Tri.region ?_
  refine TriL.c1 rfl (op_mv (ltb rfl) rfl) ?_
  refine TriL.c1 rfl (op_mv (ltb rfl) rfl) ?_
  refine TriL.c1 rfl (op_callc (ltb rfl) fn229_M7 rfl rfl (p_twice _)) ?_
  refine TriL.c1 rfl (op_mv (ltb rfl) rfl) ?_
  refine TriL.c1 rfl (op_mv (ltb rfl) rfl) ?_
  refine TriL.c1 rfl (op_callc (ltb rfl) fn230_M7 rfl rfl (p_signs _)) ?_
  refine TriL.c1 rfl (op_bin (ltb rfl) rfl rfl rfl) ?_
  refine TriL.c1 rfl (op_as (ltb rfl) rfl) ?_
  refine TriL.nil ?_
  refine Tri.ret ?_
  exact ⟨.inr rfl, (ResOK.r1 rfl (.tmp rfl .nil)).cast rfl, rfl⟩
theorem p_zig (z : Int) (h0 : -9223372036854775808 ≤ z) (h1 : z < 9223372036854775808) : Pure Tryz.prog 223 [.int .i64 z] (.int .u64 (zigT z : Int)) := by
  refine Pure.of_tri Tryz.func223 rfl rfl (ltb rfl) fun H => ?_
  refine Tri.seq ?_
  refine Tri.region ?_
  refine TriL.c1 rfl (op_as (ltb rfl) rfl) ?_
  refine TriL.nil ?_
  refine Tri.seq ?_
  refine Tri.region ?_
  refine TriL.c1 rfl (op_mv (ltb rfl) rfl) ?_
  refine TriL.c1 rfl (op_cvi (ltb rfl) un2_M7 un272_M7 rfl) ?_
  refine TriL.c1 rfl (op_call (ltb rfl) fn228_M7 rfl (p_both _)) ?_
  refine TriL.c1 rfl (op_as (ltb rfl) rfl) ?_
  refine TriL.nil ?_
  refine Tri.ret ?_
  exact ⟨.inr rfl, (ResOK.r1 rfl (.tmp rfl .nil)).cast (congrArg (AV.int .u64) (zig_xor h0 h1)), rfl⟩
theorem p_low0 (z : Int) : Pure Tryz.prog 231 [.int .i64 z] (.int .u32 (IntKind.u32.wrap z)) := by
  refine Pure.of_tri Tryz.func231 rfl rfl (ltb rfl) fun H => ?_
  refine Tri.seq ?_
  refine Tri.region ?_
  refine TriL.c1 rfl (op_as (ltb rfl) rfl) ?_
  refine TriL.nil ?_
  refine Tri.seq ?_
  refine Tri.region ?_
  refine TriL.c1 rfl (op_mv (ltb rfl) rfl) ?_
  refine TriL.c1 rfl (op_cvi (ltb rfl) un2_M7 un235_M7 rfl) ?_
  refine TriL.c1 rfl (op_as (ltb rfl) rfl) ?_
  refine TriL.nil ?_
  refine Tri.ret ?_
  exact ⟨.inr rfl, (ResOK.r1 rfl (.tmp rfl .nil)).cast rfl, rfl⟩
theorem p_low (n : Nat) (hn : n < 18446744073709551616) : Pure Tryz.prog 224 [.int .u64 (n : Int)] (.int .u64 ((n % 4294967296 : Nat) : Int)) := by
  refine Pure.of_tri Tryz.func224 rfl rfl (ltb rfl) fun H => ?_
  refine Tri.seq ?_
  refine Tri.region ?_
  refine TriL.c1 rfl (op_as (ltb rfl) rfl) ?_
  refine TriL.nil ?_
  refine Tri.seq ?_
  refine Tri.region ?_
  refine TriL.c1 rfl (op_mv (ltb rfl) rfl) ?_
  refine TriL.c1 rfl (op_cvi (ltb rfl) un84_M7 un2_M7 rfl) ?_
  refine TriL.c1 rfl (op_call (ltb rfl) fn231_M7 rfl (p_low0 _)) ?_
  refine TriL.c1 rfl (op_cvi (ltb rfl) un235_M7 un84_M7 rfl) ?_
  refine TriL.c1 rfl (op_as (ltb rfl) rfl) ?_
  refine TriL.nil ?_
  refine Tri.ret ?_
  exact ⟨.inr rfl, (ResOK.r1 rfl (.tmp rfl .nil)).cast (congrArg (AV.int .u64) (by simp only [IntKind.wrap, IntKind.bits, IntKind.signed]; simp; omega)), rfl⟩
theorem p_to (t : Int) (n : Nat) (hn : n < 18446744073709551616) : Pure Tryz.prog 204 [.int .i64 t, .int .u64 (n : Int)] (.int .u64 (toT t n : Int)) := by
  have := s64_range hn
  refine Pure.of_tri Tryz.func204 rfl rfl (ltb rfl) fun H => ?_
  refine Tri.seq ?_
  refine Tri.region ?_
  refine TriL.c1 rfl (op_as (ltb rfl) rfl) ?_
  refine TriL.nil ?_
  refine Tri.seq ?_
  refine Tri.seq ?_
  refine Tri.region ?_
  refine TriL.c1 rfl (op_mv (ltb rfl) rfl) ?_
  refine TriL.nil ?_
  refine Tri.blk ?_
  refine Tri.seq ?_
  refine Tri.seq ?_
  refine Tri.region ?_
  refine TriL.c1 rfl (op_bin (ltb rfl) rfl rfl rfl) ?_
  refine TriL.c1 rfl (op_as (ltb rfl) rfl) ?_
  refine TriL.nil ?_
  refine Tri.cond rfl (fun hc1 => ?_) (fun hc1 => ?_)
  · refine Tri.skip ?_
    refine Tri.condT rfl hc1 ?_
    refine Tri.seq ?_
    refine Tri.region ?_
    refine TriL.c1 rfl (op_mv (ltb rfl) rfl) ?_
    refine TriL.c1 rfl (op_cvi (ltb rfl) un84_M7 un2_M7 rfl) ?_
    refine TriL.c1 rfl (op_call (ltb rfl) fn223_M7 rfl (p_zig _ this.1 this.2)) ?_
    refine TriL.c1 rfl (op_as (ltb rfl) rfl) ?_
    refine TriL.nil ?_
    refine Tri.ret ?_
    exact ⟨.inr rfl, (ResOK.r1 rfl (.tmp rfl .nil)).cast (congrArg (AV.int .u64) (by grind [toT, s64])), rfl⟩
  · -- region 3 num.go:39
    refine Tri.region ?_
    refine TriL.c1 rfl (op_bin (ltb rfl) rfl rfl rfl) ?_
    refine TriL.c1 rfl (op_as (ltb rfl) rfl) ?_
    refine TriL.nil ?_
    refine Tri.cond rfl (fun hc2 => ?_) (fun hc2 => ?_)
    · refine Tri.seq ?_
      refine Tri.region ?_
      refine TriL.c1 rfl (op_mv (ltb rfl) rfl) ?_
      refine TriL.c1 rfl (op_cvi (ltb rfl) un84_M7 un2_M7 rfl) ?_
      refine TriL.c1 rfl (op_call (ltb rfl) fn223_M7 rfl (p_zig _ this.1 this.2)) ?_
      refine TriL.c1 rfl (op_as (ltb rfl) rfl) ?_
      refine TriL.nil ?_
      refine Tri.ret ?_
      exact ⟨.inr rfl, (ResOK.r1 rfl (.tmp rfl .nil)).cast (congrArg (AV.int .u64) (by grind [toT, s64])), rfl⟩
    · refine Tri.seq ?_
      refine Tri.seq ?_
      refine Tri.region ?_
      refine TriL.c1 rfl (op_bin (ltb rfl) rfl rfl rfl) ?_
      refine TriL.c1 rfl (op_as (ltb rfl) rfl) ?_
      refine TriL.nil ?_
      refine Tri.cond rfl (fun hc3 => ?_) (fun hc3 => ?_)
      · refine Tri.skip ?_
        refine Tri.condT rfl hc3 ?_
        refine Tri.seq ?_
        refine Tri.region ?_
        refine TriL.c1 rfl (op_mv (ltb rfl) rfl) ?_
        refine TriL.c1 rfl (op_call (ltb rfl) fn224_M7 rfl (p_low _ hn)) ?_
        refine TriL.c1 rfl (op_as (ltb rfl) rfl) ?_
        refine TriL.nil ?_
        refine Tri.ret ?_
        exact ⟨.inr rfl, (ResOK.r1 rfl (.tmp rfl .nil)).cast (congrArg (AV.int .u64) (by grind [toT, s64])), rfl⟩
      · refine Tri.seq ?_
        refine Tri.region ?_
        refine TriL.c1 rfl (op_bin (ltb rfl) rfl rfl rfl) ?_
        refine TriL.c1 rfl (op_as (ltb rfl) rfl) ?_
        refine TriL.nil ?_
        refine Tri.cond rfl (fun hc4 => ?_) (fun hc4 => ?_)
        · refine Tri.skip ?_
          refine Tri.condT rfl hc4 ?_
          refine Tri.seq ?_
          refine Tri.region ?_
          refine TriL.c1 rfl (op_mv (ltb rfl) rfl) ?_
          refine TriL.c1 rfl (op_call (ltb rfl) fn224_M7 rfl (p_low _ hn)) ?_
          refine TriL.c1 rfl (op_as (ltb rfl) rfl) ?_
          refine TriL.nil ?_
          refine Tri.ret ?_
          exact ⟨.inr rfl, (ResOK.r1 rfl (.tmp rfl .nil)).cast (congrArg (AV.int .u64) (by grind [toT, s64])), rfl⟩
        · -- region 7 num.go:41
          refine Tri.region ?_
          refine TriL.c1 rfl (op_bin (ltb rfl) rfl rfl rfl) ?_
          refine TriL.c1 rfl (op_as (ltb rfl) rfl) ?_
          refine TriL.nil ?_
          refine Tri.cond rfl (fun hc5 => ?_) (fun hc5 => ?_)
          · refine Tri.seq ?_
            refine Tri.region ?_
            refine TriL.c1 rfl (op_mv (ltb rfl) rfl) ?_
            refine TriL.c1 rfl (op_call (ltb rfl) fn224_M7 rfl (p_low _ hn)) ?_
            refine TriL.c1 rfl (op_as (ltb rfl) rfl) ?_
            refine TriL.nil ?_
            refine Tri.ret ?_
            exact ⟨.inr rfl, (ResOK.r1 rfl (.tmp rfl .nil)).cast (congrArg (AV.int .u64) (by grind [toT, s64])), rfl⟩
          · refine Tri.skip ?_
            refine Tri.seq ?_
            refine Tri.seq ?_
            refine Tri.region ?_
            refine TriL.c1 rfl (op_mv (ltb rfl) rfl) ?_
            refine TriL.c1 rfl (op_call (ltb rfl) fn173_M7 rfl (p_numT _)) ?_
            refine TriL.c1 rfl (op_un (ltb rfl) rfl rfl) ?_
            refine TriL.nil ?_
            refine Tri.cond rfl (fun hc6 => ?_) (fun hc6 => ?_)
            · refine Tri.seq ?_
              refine Tri.region ?_
              refine TriL.c1 rfl (op_as (ltb rfl) rfl) ?_
              refine TriL.nil ?_
              refine Tri.ret ?_
              exact ⟨.inr rfl, (ResOK.r1 rfl (.tmp rfl .nil)).cast (congrArg (AV.int .u64) (by grind [toT, s64])), rfl⟩
            · refine Tri.skip ?_
              refine Tri.seq ?_
              refine Tri.region ?_
              refine TriL.c1 rfl (op_mv (ltb rfl) rfl) ?_
              refine TriL.c1 rfl (op_as (ltb rfl) rfl) ?_
              refine TriL.nil ?_
              refine Tri.ret ?_
              exact ⟨.inr rfl, (ResOK.r1 rfl (.tmp rfl .nil)).cast (congrArg (AV.int .u64) (by grind [toT, s64])), rfl⟩
end Go.Proofs.YtnpgcmeclkncnaaGreatDoor.X
/- fields and places, in the program and in the document. -/
set_option linter.unusedVariables false
set_option linter.unusedSimpArgs false
set_option linter.unusedSectionVars false
set_option maxRecDepth 100000
namespace Go.Proofs.YtnpgcmeclkncnaaGreatDoor.X
open Go Go.RowKit Go.Proofs
theorem fn132_M8 : isFn Tryz.prog 132 = true := by kernel_rfl
theorem fn133_M8 : isFn Tryz.prog 133 = true := by kernel_rfl
theorem fn172_M8 : isFn Tryz.prog 172 = true := by kernel_rfl
theorem fn173_M8 : isFn Tryz.prog 173 = true := by kernel_rfl
theorem fn202_M8 : isFn Tryz.prog 202 = true := by kernel_rfl
theorem fn77_M8 : isFn Tryz.prog 77 = true := by kernel_rfl
theorem fn78_M8 : isFn Tryz.prog 78 = true := by kernel_rfl
theorem fo131_0_M8 : fo Tryz.prog 131 0 = some 0 := by kernel_rfl
theorem fo131_1_M8 : fo Tryz.prog 131 1 = some 1 := by kernel_rfl
theorem fo131_2_M8 : fo Tryz.prog 131 2 = some 2 := by kernel_rfl
theorem fo131_3_M8 : fo Tryz.prog 131 3 = some 3 := by kernel_rfl
theorem fo25_1_M8 : fo Tryz.prog 25 1 = some 1 := by kernel_rfl
theorem fo78_0_M8 : fo Tryz.prog 78 0 = some 0 := by kernel_rfl
theorem fo78_1_M8 : fo Tryz.prog 78 1 = some 1 := by kernel_rfl
theorem fo98_1_M8 : fo Tryz.prog 98 1 = some 1 := by kernel_rfl
theorem fo98_2_M8 : fo Tryz.prog 98 2 = some 2 := by kernel_rfl
theorem fo98_4_M8 : fo Tryz.prog 98 4 = some 4 := by kernel_rfl
theorem fo98_5_M8 : fo Tryz.prog 98 5 = some 5 := by kernel_rfl
theorem fo98_6_M8 : fo Tryz.prog 98 6 = some 6 := by kernel_rfl
theorem ie23_M8 : ie Tryz.prog 23 = some 3 := by kernel_rfl
theorem ie76_M8 : ie Tryz.prog 76 = some 7 := by kernel_rfl
theorem lk23_M8 : lk Tryz.prog 23 = some (false, 1) := by kernel_rfl
theorem lk3_M8 : lk Tryz.prog 3 = some (false, 1) := by kernel_rfl
theorem lk4_M8 : lk Tryz.prog 4 = some (false, 1) := by kernel_rfl
theorem lk76_M8 : lk Tryz.prog 76 = some (false, 1) := by kernel_rfl
theorem lk78_M8 : lk Tryz.prog 78 = some (true, 3) := by kernel_rfl
theorem lk84_M8 : lk Tryz.prog 84 = some (false, 1) := by kernel_rfl
theorem lk9_M8 : lk Tryz.prog 9 = some (false, 1) := by kernel_rfl
theorem lk98_M8 : lk Tryz.prog 98 = some (true, 7) := by kernel_rfl
theorem un23_M8 : Tryz.prog.underlying 23 = some (TypeDesc.slice 78) := Tryz.underlying23
theorem un76_M8 : Tryz.prog.underlying 76 = some (TypeDesc.slice 98) := Tryz.underlying76
theorem p_packed (f : Fld) : Pure Tryz.prog 128 [f.av] (.bool f.packed) := by
  refine Pure.of_tri Tryz.func128 rfl rfl (ltb rfl) fun H => ?_
  refine Tri.seq ?_
  refine Tri.region ?_
  refine TriL.c2 rfl (op_box (ltb rfl) rfl rfl rfl) ?_
  refine TriL.c1 rfl (op_as (ltb rfl) rfl) ?_
  refine TriL.nil ?_
  refine Tri.seq ?_
  refine Tri.region ?_
  refine TriL.c1 rfl (op_fal (ltb rfl) fo98_4_M8 rfl) ?_
  refine TriL.c1 rfl (op_ldl (ltb rfl) lk4_M8 rfl rfl rfl) ?_
  refine TriL.c1 rfl (op_mv (ltb rfl) rfl) ?_
  refine TriL.split (d := 5) rfl (fun hg1 => ?_) (fun hg1 => ?_)
  · refine TriL.g1 rfl (ltb rfl) rfl hg1 (op_fal (ltb rfl) fo98_5_M8 rfl) ?_
    refine TriL.g1 rfl (ltb rfl) rfl hg1 (op_ldl (ltb rfl) lk4_M8 rfl rfl rfl) ?_
    refine TriL.g1 rfl (ltb rfl) rfl hg1 (op_un (ltb rfl) rfl rfl) ?_
    refine TriL.c1 rfl (op_pickt (ltb rfl) rfl hg1 rfl) ?_
    refine TriL.c1 rfl (op_mv (ltb rfl) rfl) ?_
    refine TriL.split (d := 10) rfl (fun hg2 => ?_) (fun hg2 => ?_)
    · refine TriL.g1 rfl (ltb rfl) rfl hg2 (op_fal (ltb rfl) fo98_2_M8 rfl) ?_
      refine TriL.g1 rfl (ltb rfl) rfl hg2 (op_ldl (ltb rfl) lk3_M8 rfl rfl rfl) ?_
      refine TriL.g1 rfl (ltb rfl) rfl hg2 (op_call (ltb rfl) fn173_M8 rfl (p_numT _)) ?_
      refine TriL.c1 rfl (op_pickt (ltb rfl) rfl hg2 rfl) ?_
      refine TriL.c1 rfl (op_as (ltb rfl) rfl) ?_
      refine TriL.nil ?_
      refine Tri.ret ?_
      exact ⟨.inr rfl, (ResOK.r1 rfl (.tmp rfl .nil)).cast (congrArg AV.bool (by grind [Fld.packed])), rfl⟩
    · refine TriL.skipu rfl rfl (ltb rfl) (ltb rfl) rfl hg2 ?_
      refine TriL.skipu rfl rfl (ltb rfl) (ltb rfl) rfl hg2 ?_
      refine TriL.skipu rfl rfl (ltb rfl) (ltb rfl) rfl hg2 ?_
      refine TriL.c1 rfl (op_pickf (ltb rfl) rfl hg2 rfl) ?_
      refine TriL.c1 rfl (op_as (ltb rfl) rfl) ?_
      refine TriL.nil ?_
      refine Tri.ret ?_
      exact ⟨.inr rfl, (ResOK.r1 rfl (.tmp rfl .nil)).cast (congrArg AV.bool (by grind [Fld.packed])), rfl⟩
  · refine TriL.skipu rfl rfl (ltb rfl) (ltb rfl) rfl hg1 ?_
    refine TriL.skipu rfl rfl (ltb rfl) (ltb rfl) rfl hg1 ?_
    refine TriL.skipu rfl rfl (ltb rfl) (ltb rfl) rfl hg1 ?_
    refine TriL.c1 rfl (op_pickf (ltb rfl) rfl hg1 rfl) ?_
    refine TriL.c1 rfl (op_mv (ltb rfl) rfl) ?_
    refine TriL.skipu rfl rfl (ltb rfl) (ltb rfl) rfl rfl ?_
    refine TriL.skipu rfl rfl (ltb rfl) (ltb rfl) rfl rfl ?_
    refine TriL.skipu rfl rfl (ltb rfl) (ltb rfl) rfl rfl ?_
    refine TriL.c1 rfl (op_pickf (ltb rfl) rfl rfl rfl) ?_
    refine TriL.c1 rfl (op_as (ltb rfl) rfl) ?_
    refine TriL.nil ?_
    refine Tri.ret ?_
    exact ⟨.inr rfl, (ResOK.r1 rfl (.tmp rfl .nil)).cast (congrArg AV.bool (by grind [Fld.packed])), rfl⟩
theorem p_hidden (f : Fld) : Pure Tryz.prog 171 [f.av] (.bool f.hidden) := by
  refine Pure.of_tri Tryz.func171 rfl rfl (ltb rfl) fun H => ?_
  refine Tri.seq ?_
  refine Tri.region ?_
  refine TriL.c2 rfl (op_box (ltb rfl) rfl rfl rfl) ?_
  refine TriL.c1 rfl (op_as (ltb rfl) rfl) ?_
  refine TriL.nil ?_
  refine Tri.seq ?_
  refine Tri.region ?_
  refine TriL.c1 rfl (op_fal (ltb rfl) fo98_4_M8 rfl) ?_
  refine TriL.c1 rfl (op_ldl (ltb rfl) lk4_M8 rfl rfl rfl) ?_
  refine TriL.c1 rfl (op_un (ltb rfl) rfl rfl) ?_
  refine TriL.c1 rfl (op_mv (ltb rfl) rfl) ?_
  refine TriL.split (d := 6) rfl (fun hg1 => ?_) (fun hg1 => ?_)
  · refine TriL.g1 rfl (ltb rfl) rfl hg1 (op_fal (ltb rfl) fo98_6_M8 rfl) ?_
    refine TriL.g1 rfl (ltb rfl) rfl hg1 (op_ldl (ltb rfl) lk9_M8 rfl rfl rfl) ?_
    refine TriL.g1 rfl (ltb rfl) rfl hg1 (op_bin (ltb rfl) rfl rfl rfl) ?_
    refine TriL.c1 rfl (op_pickt (ltb rfl) rfl hg1 rfl) ?_
    refine TriL.c1 rfl (op_mv (ltb rfl) rfl) ?_
    refine TriL.split (d := 11) rfl (fun hg2 => ?_) (fun hg2 => ?_)
    · refine TriL.g1 rfl (ltb rfl) rfl hg2 (op_fal (ltb rfl) fo98_2_M8 rfl) ?_
      refine TriL.g1 rfl (ltb rfl) rfl hg2 (op_ldl (ltb rfl) lk3_M8 rfl rfl rfl) ?_
      refine TriL.g1 rfl (ltb rfl) rfl hg2 (op_bin (ltb rfl) rfl rfl rfl) ?_
      refine TriL.c1 rfl (op_pickt (ltb rfl) rfl hg2 rfl) ?_
      refine TriL.c1 rfl (op_as (ltb rfl) rfl) ?_
      refine TriL.nil ?_
      refine Tri.ret ?_
      exact ⟨.inr rfl, (ResOK.r1 rfl (.tmp rfl .nil)).cast (congrArg AV.bool (by grind [Fld.hidden])), rfl⟩
    · refine TriL.skipu rfl rfl (ltb rfl) (ltb rfl) rfl hg2 ?_
      refine TriL.skipu rfl rfl (ltb rfl) (ltb rfl) rfl hg2 ?_
      refine TriL.skipu rfl rfl (ltb rfl) (ltb rfl) rfl hg2 ?_
      refine TriL.c1 rfl (op_pickf (ltb rfl) rfl hg2 rfl) ?_
      refine TriL.c1 rfl (op_as (ltb rfl) rfl) ?_
      refine TriL.nil ?_
      refine Tri.ret ?_
      exact ⟨.inr rfl, (ResOK.r1 rfl (.tmp rfl .nil)).cast (congrArg AV.bool (by grind [Fld.hidden])), rfl⟩
  · refine TriL.skipu rfl rfl (ltb rfl) (ltb rfl) rfl hg1 ?_
    refine TriL.skipu rfl rfl (ltb rfl) (ltb rfl) rfl hg1 ?_
    refine TriL.skipu rfl rfl (ltb rfl) (ltb rfl) rfl hg1 ?_
    refine TriL.c1 rfl (op_pickf (ltb rfl) rfl hg1 rfl) ?_
    refine TriL.c1 rfl (op_mv (ltb rfl) rfl) ?_
    refine TriL.skipu rfl rfl (ltb rfl) (ltb rfl) rfl rfl ?_
    refine TriL.skipu rfl rfl (ltb rfl) (ltb rfl) rfl rfl ?_
    refine TriL.skipu rfl rfl (ltb rfl) (ltb rfl) rfl rfl ?_
    refine TriL.c1 rfl (op_pickf (ltb rfl) rfl rfl rfl) ?_
    refine TriL.c1 rfl (op_as (ltb rfl) rfl) ?_
    refine TriL.nil ?_
    refine Tri.ret ?_
    exact ⟨.inr rfl, (ResOK.r1 rfl (.tmp rfl .nil)).cast (congrArg AV.bool (by grind [Fld.hidden])), rfl⟩
theorem p_tnum (n : Int) : Pure Tryz.prog 202 [.int .i64 n] (.bool (decide (1 ≤ n) && decide (n ≤ 536870911))) := by
  refine Pure.of_tri Tryz.func202 rfl rfl (ltb rfl) fun H => ?_
  refine Tri.seq ?_
  refine Tri.region ?_
  refine TriL.c1 rfl (op_as (ltb rfl) rfl) ?_
  refine TriL.nil ?_
  refine Tri.seq ?_
  refine Tri.region ?_
  refine TriL.c1 rfl (op_mv (ltb rfl) rfl) ?_
  refine TriL.c1 rfl (op_bin (ltb rfl) rfl rfl rfl) ?_
  refine TriL.c1 rfl (op_mv (ltb rfl) rfl) ?_
  refine TriL.split (d := 5) rfl (fun hg1 => ?_) (fun hg1 => ?_)
  · refine TriL.g1 rfl (ltb rfl) rfl hg1 (op_mv (ltb rfl) rfl) ?_
    refine TriL.g1 rfl (ltb rfl) rfl hg1 (op_bin (ltb rfl) rfl rfl rfl) ?_
    refine TriL.c1 rfl (op_pickt (ltb rfl) rfl hg1 rfl) ?_
    refine TriL.c1 rfl (op_as (ltb rfl) rfl) ?_
    refine TriL.nil ?_
    refine Tri.ret ?_
    exact ⟨.inr rfl, (ResOK.r1 rfl (.tmp rfl .nil)).cast (congrArg AV.bool (by grind [])), rfl⟩
  · refine TriL.skipu rfl rfl (ltb rfl) (ltb rfl) rfl hg1 ?_
    refine TriL.skipu rfl rfl (ltb rfl) (ltb rfl) rfl hg1 ?_
    refine TriL.c1 rfl (op_pickf (ltb rfl) rfl hg1 rfl) ?_
    refine TriL.c1 rfl (op_as (ltb rfl) rfl) ?_
    refine TriL.nil ?_
    refine Tri.ret ?_
    exact ⟨.inr rfl, (ResOK.r1 rfl (.tmp rfl .nil)).cast (congrArg AV.bool (by grind [])), rfl⟩
theorem p_tagOK (n w : Int) : Pure Tryz.prog 172 [.int .i64 n, .int .i64 w] (.bool (tagOK n w)) := by
  refine Pure.of_tri Tryz.func172 rfl rfl (ltb rfl) fun H => ?_
  refine Tri.seq ?_
  refine Tri.region ?_
  refine TriL.c1 rfl (op_as (ltb rfl) rfl) ?_
  refine TriL.nil ?_
  refine Tri.seq ?_
  refine Tri.region ?_
  refine TriL.c1 rfl (op_as (ltb rfl) rfl) ?_
  refine TriL.nil ?_
  refine Tri.seq ?_
  refine Tri.seq ?_
  refine Tri.region ?_
  refine TriL.c1 rfl (op_mv (ltb rfl) rfl) ?_
  refine TriL.nil ?_
  refine Tri.blk ?_
  refine Tri.seq ?_
  refine Tri.blk ?_
  refine Tri.blk ?_
  refine Tri.blk ?_
  refine Tri.seq ?_
  refine Tri.seq ?_
  refine Tri.seq ?_
  refine Tri.seq ?_
  refine Tri.region ?_
  refine TriL.c1 rfl (op_bin (ltb rfl) rfl rfl rfl) ?_
  refine TriL.c1 rfl (op_as (ltb rfl) rfl) ?_
  refine TriL.nil ?_
  refine Tri.cond rfl (fun hc1 => ?_) (fun hc1 => ?_)
  · refine Tri.skip ?_
    refine Tri.condT rfl hc1 ?_
    refine Tri.exit ?_
    refine Tri.seq ?_
    refine Tri.region ?_
    refine TriL.c1 rfl (op_as (ltb rfl) rfl) ?_
    refine TriL.nil ?_
    refine Tri.exit ?_
    refine Tri.seq ?_
    refine Tri.region ?_
    refine TriL.c1 rfl (op_mv (ltb rfl) rfl) ?_
    refine TriL.c1 rfl (op_mv (ltb rfl) rfl) ?_
    refine TriL.g1 rfl (ltb rfl) rfl rfl (op_mv (ltb rfl) rfl) ?_
    refine TriL.g1 rfl (ltb rfl) rfl rfl (op_call (ltb rfl) fn202_M8 rfl (p_tnum _)) ?_
    refine TriL.c1 rfl (op_pickt (ltb rfl) rfl rfl rfl) ?_
    refine TriL.c1 rfl (op_as (ltb rfl) rfl) ?_
    refine TriL.nil ?_
    refine Tri.ret ?_
    exact ⟨.inr rfl, (ResOK.r1 rfl (.tmp rfl .nil)).cast (congrArg AV.bool (by grind [tagOK])), rfl⟩
  · -- region 4 tag.go:20
    refine Tri.region ?_
    refine TriL.c1 rfl (op_bin (ltb rfl) rfl rfl rfl) ?_
    refine TriL.c1 rfl (op_as (ltb rfl) rfl) ?_
    refine TriL.nil ?_
    refine Tri.cond rfl (fun hc2 => ?_) (fun hc2 => ?_)
    · refine Tri.exit ?_
      refine Tri.seq ?_
      refine Tri.region ?_
      refine TriL.c1 rfl (op_as (ltb rfl) rfl) ?_
      refine TriL.nil ?_
      refine Tri.exit ?_
      refine Tri.seq ?_
      refine Tri.region ?_
      refine TriL.c1 rfl (op_mv (ltb rfl) rfl) ?_
      refine TriL.c1 rfl (op_mv (ltb rfl) rfl) ?_
      refine TriL.g1 rfl (ltb rfl) rfl rfl (op_mv (ltb rfl) rfl) ?_
      refine TriL.g1 rfl (ltb rfl) rfl rfl (op_call (ltb rfl) fn202_M8 rfl (p_tnum _)) ?_
      refine TriL.c1 rfl (op_pickt (ltb rfl) rfl rfl rfl) ?_
      refine TriL.c1 rfl (op_as (ltb rfl) rfl) ?_
      refine TriL.nil ?_
      refine Tri.ret ?_
      exact ⟨.inr rfl, (ResOK.r1 rfl (.tmp rfl .nil)).cast (congrArg AV.bool (by grind [tagOK])), rfl⟩
    · refine Tri.skip ?_
      refine Tri.seq ?_
      refine Tri.seq ?_
      refine Tri.region ?_
      refine TriL.c1 rfl (op_bin (ltb rfl) rfl rfl rfl) ?_
      refine TriL.c1 rfl (op_as (ltb rfl) rfl) ?_
      refine TriL.nil ?_
      refine Tri.cond rfl (fun hc3 => ?_) (fun hc3 => ?_)
      · refine Tri.exit ?_
        refine Tri.seq ?_
        refine Tri.region ?_
        refine TriL.c1 rfl (op_as (ltb rfl) rfl) ?_
        refine TriL.nil ?_
        refine Tri.exit ?_
        refine Tri.seq ?_
        refine Tri.region ?_
        refine TriL.c1 rfl (op_mv (ltb rfl) rfl) ?_
        refine TriL.c1 rfl (op_mv (ltb rfl) rfl) ?_
        refine TriL.g1 rfl (ltb rfl) rfl rfl (op_mv (ltb rfl) rfl) ?_
        refine TriL.g1 rfl (ltb rfl) rfl rfl (op_call (ltb rfl) fn202_M8 rfl (p_tnum _)) ?_
        refine TriL.c1 rfl (op_pickt (ltb rfl) rfl rfl rfl) ?_
        refine TriL.c1 rfl (op_as (ltb rfl) rfl) ?_
        refine TriL.nil ?_
        refine Tri.ret ?_
        exact ⟨.inr rfl, (ResOK.r1 rfl (.tmp rfl .nil)).cast (congrArg AV.bool (by grind [tagOK])), rfl⟩
      · refine Tri.skip ?_
        refine Tri.seq ?_
        refine Tri.region ?_
        refine TriL.c1 rfl (op_bin (ltb rfl) rfl rfl rfl) ?_
        refine TriL.c1 rfl (op_as (ltb rfl) rfl) ?_
        refine TriL.nil ?_
        refine Tri.cond rfl (fun hc4 => ?_) (fun hc4 => ?_)
        · refine Tri.exit ?_
          refine Tri.seq ?_
          refine Tri.region ?_
          refine TriL.c1 rfl (op_as (ltb rfl) rfl) ?_
          refine TriL.nil ?_
          refine Tri.exit ?_
          refine Tri.seq ?_
          refine Tri.region ?_
          refine TriL.c1 rfl (op_mv (ltb rfl) rfl) ?_
          refine TriL.c1 rfl (op_mv (ltb rfl) rfl) ?_
          refine TriL.g1 rfl (ltb rfl) rfl rfl (op_mv (ltb rfl) rfl) ?_
          refine TriL.g1 rfl (ltb rfl) rfl rfl (op_call (ltb rfl) fn202_M8 rfl (p_tnum _)) ?_
          refine TriL.c1 rfl (op_pickt (ltb rfl) rfl rfl rfl) ?_
          refine TriL.c1 rfl (op_as (ltb rfl) rfl) ?_
          refine TriL.nil ?_
          refine Tri.ret ?_
          exact ⟨.inr rfl, (ResOK.r1 rfl (.tmp rfl .nil)).cast (congrArg AV.bool (by grind [tagOK])), rfl⟩
        · refine Tri.skip ?_
          refine Tri.exit ?_
          refine Tri.seq ?_
          refine Tri.region ?_
          refine TriL.c1 rfl (op_mv (ltb rfl) rfl) ?_
          refine TriL.c1 rfl (op_mv (ltb rfl) rfl) ?_
          refine TriL.skipu rfl rfl (ltb rfl) (ltb rfl) rfl rfl ?_
          refine TriL.skipu rfl rfl (ltb rfl) (ltb rfl) rfl rfl ?_
          refine TriL.c1 rfl (op_pickf (ltb rfl) rfl rfl rfl) ?_
          refine TriL.c1 rfl (op_as (ltb rfl) rfl) ?_
          refine TriL.nil ?_
          refine Tri.ret ?_
          exact ⟨.inr rfl, (ResOK.r1 rfl (.tmp rfl .nil)).cast (congrArg AV.bool (by grind [tagOK])), rfl⟩
theorem p_rright (r : Rw) : Pure Tryz.prog 127 [r.av] (.bool r.right) := by
  have h2 : ((((r.n / 2 ^ (min ((32 : Int)).toNat IntKind.u64.bits) : Nat) : Int)) == 0) = decide (r.n < 4294967296) := (by rw [show 2 ^ (min ((32 : Int)).toNat IntKind.u64.bits) = 4294967296 by decide, Bool.eq_iff_iff]; simp; omega)
  refine Pure.of_tri Tryz.func127 rfl rfl (ltb rfl) fun H => ?_
  refine Tri.seq ?_
  refine Tri.region ?_
  refine TriL.c2 rfl (op_box (ltb rfl) rfl rfl rfl) ?_
  refine TriL.c1 rfl (op_as (ltb rfl) rfl) ?_
  refine TriL.nil ?_
  refine Tri.seq ?_
  refine Tri.blk ?_
  refine Tri.seq ?_
  refine Tri.region ?_
  refine TriL.c1 rfl (op_fal (ltb rfl) fo131_0_M8 rfl) ?_
  refine TriL.c1 rfl (op_ldl (ltb rfl) lk3_M8 rfl rfl rfl) ?_
  refine TriL.c1 rfl (op_fal (ltb rfl) fo131_1_M8 rfl) ?_
  refine TriL.c1 rfl (op_ldl (ltb rfl) lk3_M8 rfl rfl rfl) ?_
  refine TriL.c1 rfl (op_call (ltb rfl) fn172_M8 rfl (p_tagOK _ _)) ?_
  refine TriL.c1 rfl (op_un (ltb rfl) rfl rfl) ?_
  refine TriL.c1 rfl (op_as (ltb rfl) rfl) ?_
  refine TriL.nil ?_
  refine Tri.cond rfl (fun hc1 => ?_) (fun hc1 => ?_)
  · refine Tri.seq ?_
    refine Tri.region ?_
    refine TriL.c1 rfl (op_as (ltb rfl) rfl) ?_
    refine TriL.nil ?_
    refine Tri.ret ?_
    exact ⟨.inr rfl, (ResOK.r1 rfl (.tmp rfl .nil)).cast (congrArg AV.bool (by grind [Rw.right])), rfl⟩
  · refine Tri.seq ?_
    refine Tri.region ?_
    refine TriL.c1 rfl (op_fal (ltb rfl) fo131_1_M8 rfl) ?_
    refine TriL.c1 rfl (op_ldl (ltb rfl) lk3_M8 rfl rfl rfl) ?_
    refine TriL.c1 rfl (op_bin (ltb rfl) rfl rfl rfl) ?_
    refine TriL.c1 rfl (op_as (ltb rfl) rfl) ?_
    refine TriL.nil ?_
    refine Tri.cond rfl (fun hc2 => ?_) (fun hc2 => ?_)
    · refine Tri.seq ?_
      refine Tri.region ?_
      refine TriL.c1 rfl (op_fal (ltb rfl) fo131_2_M8 rfl) ?_
      refine TriL.c1 rfl (op_ldl (ltb rfl) lk84_M8 rfl rfl rfl) ?_
      refine TriL.c1 rfl (op_bin (ltb rfl) rfl rfl rfl) ?_
      refine TriL.c1 rfl (op_as (ltb rfl) rfl) ?_
      refine TriL.nil ?_
      refine Tri.ret ?_
      exact ⟨.inr rfl, (ResOK.r1 rfl (.tmp rfl .nil)).cast (congrArg AV.bool (by grind [Rw.right])), rfl⟩
    · refine Tri.seq ?_
      refine Tri.region ?_
      refine TriL.c1 rfl (op_fal (ltb rfl) fo131_1_M8 rfl) ?_
      refine TriL.c1 rfl (op_ldl (ltb rfl) lk3_M8 rfl rfl rfl) ?_
      refine TriL.c1 rfl (op_bin (ltb rfl) rfl rfl rfl) ?_
      refine TriL.c1 rfl (op_mv (ltb rfl) rfl) ?_
      refine TriL.split (d := 21) rfl (fun hg3 => ?_) (fun hg3 => ?_)
      · refine TriL.g1 rfl (ltb rfl) rfl hg3 (op_fal (ltb rfl) fo131_2_M8 rfl) ?_
        refine TriL.g1 rfl (ltb rfl) rfl hg3 (op_ldl (ltb rfl) lk84_M8 rfl rfl rfl) ?_
        refine TriL.g1 rfl (ltb rfl) rfl hg3 (op_shr (ltb rfl) rfl rfl (by decide)) ?_
        refine TriL.g1 rfl (ltb rfl) rfl hg3 (op_bin (ltb rfl) rfl rfl rfl) ?_
        refine TriL.c1 rfl (op_pickt (ltb rfl) rfl hg3 rfl) ?_
        refine TriL.c1 rfl (op_as (ltb rfl) rfl) ?_
        refine TriL.nil ?_
        refine Tri.cond rfl (fun hc4 => ?_) (fun hc4 => ?_)
        · refine Tri.seq ?_
          refine Tri.region ?_
          refine TriL.c1 rfl (op_as (ltb rfl) rfl) ?_
          refine TriL.nil ?_
          refine Tri.ret ?_
          exact ⟨.inr rfl, (ResOK.r1 rfl (.tmp rfl .nil)).cast (congrArg AV.bool (by grind [Rw.right])), rfl⟩
        · refine Tri.skip ?_
          refine Tri.seq ?_
          refine Tri.region ?_
          refine TriL.c1 rfl (op_fal (ltb rfl) fo131_3_M8 rfl) ?_
          refine TriL.c1 rfl (op_ldl (ltb rfl) lk9_M8 rfl rfl rfl) ?_
          refine TriL.c1 rfl (op_bin (ltb rfl) rfl rfl rfl) ?_
          refine TriL.c1 rfl (op_as (ltb rfl) rfl) ?_
          refine TriL.nil ?_
          refine Tri.ret ?_
          exact ⟨.inr rfl, (ResOK.r1 rfl (.tmp rfl .nil)).cast (congrArg AV.bool (by grind [Rw.right])), rfl⟩
      · refine TriL.skipu rfl rfl (ltb rfl) (ltb rfl) rfl hg3 ?_
        refine TriL.skipu rfl rfl (ltb rfl) (ltb rfl) rfl hg3 ?_
        refine TriL.skipu rfl rfl (ltb rfl) (ltb rfl) rfl hg3 ?_
        refine TriL.skipu rfl rfl (ltb rfl) (ltb rfl) rfl hg3 ?_
        refine TriL.c1 rfl (op_pickf (ltb rfl) rfl hg3 rfl) ?_
        refine TriL.c1 rfl (op_as (ltb rfl) rfl) ?_
        refine TriL.nil ?_
        refine Tri.condF rfl rfl ?_
        refine Tri.skip ?_
        refine Tri.seq ?_
        refine Tri.region ?_
        refine TriL.c1 rfl (op_fal (ltb rfl) fo131_3_M8 rfl) ?_
        refine TriL.c1 rfl (op_ldl (ltb rfl) lk9_M8 rfl rfl rfl) ?_
        refine TriL.c1 rfl (op_bin (ltb rfl) rfl rfl rfl) ?_
        refine TriL.c1 rfl (op_as (ltb rfl) rfl) ?_
        refine TriL.nil ?_
        refine Tri.ret ?_
        exact ⟨.inr rfl, (ResOK.r1 rfl (.tmp rfl .nil)).cast (congrArg AV.bool (by grind [Rw.right])), rfl⟩
theorem p_ixfM (l : List Msg) (hl : l.length ≤ 9223372036854775807) (F : FuncId) (caps : List AV) (p : Msg → Bool) (hF : isFn Tryz.prog F = true) (hp : ∀ x ∈ l, Pure Tryz.prog F ([x.av] ++ caps) (.bool (p x))) : Pure Tryz.prog 77 [.sl (l.map Msg.av), .fn F caps] (.int .i64 (ixFrom p l 0)) := by
  refine Pure.of_tri Tryz.func77 rfl rfl (ltb rfl) fun H => ?_
  refine Tri.seq ?_
  refine Tri.region ?_
  refine TriL.c1 rfl (op_as (ltb rfl) rfl) ?_
  refine TriL.nil ?_
  refine Tri.seq ?_
  refine Tri.seq ?_
  refine Tri.region ?_
  refine TriL.c1 rfl (op_mv (ltb rfl) rfl) ?_
  refine TriL.c1 rfl (op_lenl (ltb rfl) un23_M8 rfl) ?_
  refine TriL.c1 rfl (op_mv (ltb rfl) rfl) ?_
  refine TriL.nil ?_
  refine Tri.blk ?_
  refine Tri.ofKept (Kept.keep [.s 8, .h, .s 0, .s 1, .s 7] rfl (by decide) (Kept.now ?_))
  -- LOOP 1
  refine Tri.loopk (fun (i : Nat) => [(.s 8, .sv (.v (.int .i64 (i : Int))))]) _ (fun (i : Nat) => ixFrom p (l.drop i) i = ixFrom p l 0) (fun (i : Nat) => l.length - i) 0 rfl (by simp) ?_
  rintro i hI
  refine Tri.seq ?_
  refine Tri.region ?_
  refine TriL.c1 rfl (op_bin (ltb rfl) rfl rfl rfl) ?_
  refine TriL.nil ?_
  refine Tri.seq ?_
  refine Tri.cond rfl (fun hc1 => ?_) (fun hc1 => ?_)
  · have hi := ltm hc1
    have hS := ixFrom_step (p := p) hi
    refine Tri.skip ?_
    refine Tri.seq ?_
    refine Tri.blk ?_
    refine Tri.seq ?_
    refine Tri.region ?_
    refine TriL.c1 rfl (op_mv (ltb rfl) rfl) ?_
    refine TriL.c1 rfl (op_as (ltb rfl) rfl) ?_
    refine TriL.nil ?_
    refine Tri.seq ?_
    refine Tri.region ?_
    refine TriL.c1 rfl (op_mv (ltb rfl) rfl) ?_
    refine TriL.c1 rfl (op_mv (ltb rfl) rfl) ?_
    refine TriL.c1 rfl (op_mv (ltb rfl) rfl) ?_
    refine TriL.c1 rfl (op_iak (ltb rfl) ie23_M8 rfl rfl (Int.natCast_nonneg _) (ixm hi) rfl) ?_
    refine TriL.c1 rfl (op_ldk (ltb rfl) lk78_M8 rfl rfl) ?_
    refine TriL.c1 rfl (op_callc (ltb rfl) hF rfl rfl (hp _ (List.getElem_mem hi))) ?_
    refine TriL.nil ?_
    refine Tri.cond rfl (fun hc2 => ?_) (fun hc2 => ?_)
    · refine Tri.seq ?_
      refine Tri.region ?_
      refine TriL.c1 rfl (op_mv (ltb rfl) rfl) ?_
      refine TriL.c1 rfl (op_as (ltb rfl) rfl) ?_
      refine TriL.nil ?_
      refine Tri.ret ?_
      exact ⟨.inr rfl, (ResOK.r1 rfl (.tmp rfl .nil)).cast (congrArg (AV.int .i64) (by grind [])), rfl⟩
    · refine Tri.skip ?_
      refine Tri.region ?_
      refine TriL.c1 rfl (op_bin (ltb rfl) rfl rfl rfl) ?_
      refine TriL.c1 rfl (op_mv (ltb rfl) rfl) ?_
      refine TriL.kept (Kept.seti 8 rfl (inc (by omega)) (Kept.keep [.s 8, .h, .s 0, .s 1, .s 7] rfl (by decide) (Kept.now ?_)))
      exact ⟨i + 1, by omega, by grind, rfl⟩
  · have hi := gem hc1
    have hS := ixFrom_end (p := p) hi
    refine Tri.exit ?_
    refine Tri.seq ?_
    refine Tri.region ?_
    refine TriL.c1 rfl (op_as (ltb rfl) rfl) ?_
    refine TriL.nil ?_
    refine Tri.ret ?_
    exact ⟨.inr rfl, (ResOK.r1 rfl (.tmp rfl .nil)).cast (congrArg (AV.int .i64) (by grind [])), rfl⟩
theorem p_ixfF (l : List Fld) (hl : l.length ≤ 9223372036854775807) (F : FuncId) (caps : List AV) (p : Fld → Bool) (hF : isFn Tryz.prog F = true) (hp : ∀ x ∈ l, Pure Tryz.prog F ([x.av] ++ caps) (.bool (p x))) : Pure Tryz.prog 132 [.sl (l.map Fld.av), .fn F caps] (.int .i64 (ixFrom p l 0)) := by
  refine Pure.of_tri Tryz.func132 rfl rfl (ltb rfl) fun H => ?_
  refine Tri.seq ?_
  refine Tri.region ?_
  refine TriL.c1 rfl (op_as (ltb rfl) rfl) ?_
  refine TriL.nil ?_
  refine Tri.seq ?_
  refine Tri.seq ?_
  refine Tri.region ?_
  refine TriL.c1 rfl (op_mv (ltb rfl) rfl) ?_
  refine TriL.c1 rfl (op_lenl (ltb rfl) un76_M8 rfl) ?_
  refine TriL.c1 rfl (op_mv (ltb rfl) rfl) ?_
  refine TriL.nil ?_
  refine Tri.blk ?_
  refine Tri.ofKept (Kept.keep [.s 8, .h, .s 0, .s 1, .s 7] rfl (by decide) (Kept.now ?_))
  -- LOOP 1
  refine Tri.loopk (fun (i : Nat) => [(.s 8, .sv (.v (.int .i64 (i : Int))))]) _ (fun (i : Nat) => ixFrom p (l.drop i) i = ixFrom p l 0) (fun (i : Nat) => l.length - i) 0 rfl (by simp) ?_
  rintro i hI
  refine Tri.seq ?_
  refine Tri.region ?_
  refine TriL.c1 rfl (op_bin (ltb rfl) rfl rfl rfl) ?_
  refine TriL.nil ?_
  refine Tri.seq ?_
  refine Tri.cond rfl (fun hc1 => ?_) (fun hc1 => ?_)
  · have hi := ltm hc1
    have hS := ixFrom_step (p := p) hi
    refine Tri.skip ?_
    refine Tri.seq ?_
    refine Tri.blk ?_
    refine Tri.seq ?_
    refine Tri.region ?_
    refine TriL.c1 rfl (op_mv (ltb rfl) rfl) ?_
    refine TriL.c1 rfl (op_as (ltb rfl) rfl) ?_
    refine TriL.nil ?_
    refine Tri.seq ?_
    refine Tri.region ?_
    refine TriL.c1 rfl (op_mv (ltb rfl) rfl) ?_
    refine TriL.c1 rfl (op_mv (ltb rfl) rfl) ?_
    refine TriL.c1 rfl (op_mv (ltb rfl) rfl) ?_
    refine TriL.c1 rfl (op_iak (ltb rfl) ie76_M8 rfl rfl (Int.natCast_nonneg _) (ixm hi) rfl) ?_
    refine TriL.c1 rfl (op_ldk (ltb rfl) lk98_M8 rfl rfl) ?_
    refine TriL.c1 rfl (op_callc (ltb rfl) hF rfl rfl (hp _ (List.getElem_mem hi))) ?_
    refine TriL.nil ?_
    refine Tri.cond rfl (fun hc2 => ?_) (fun hc2 => ?_)
    · refine Tri.seq ?_
      refine Tri.region ?_
      refine TriL.c1 rfl (op_mv (ltb rfl) rfl) ?_
      refine TriL.c1 rfl (op_as (ltb rfl) rfl) ?_
      refine TriL.nil ?_
      refine Tri.ret ?_
      exact ⟨.inr rfl, (ResOK.r1 rfl (.tmp rfl .nil)).cast (congrArg (AV.int .i64) (by grind [])), rfl⟩
    · refine Tri.skip ?_
      refine Tri.region ?_
      refine TriL.c1 rfl (op_bin (ltb rfl) rfl rfl rfl) ?_
      refine TriL.c1 rfl (op_mv (ltb rfl) rfl) ?_
      refine TriL.kept (Kept.seti 8 rfl (inc (by omega)) (Kept.keep [.s 8, .h, .s 0, .s 1, .s 7] rfl (by decide) (Kept.now ?_)))
      exact ⟨i + 1, by omega, by grind, rfl⟩
  · have hi := gem hc1
    have hS := ixFrom_end (p := p) hi
    refine Tri.exit ?_
    refine Tri.seq ?_
    refine Tri.region ?_
    refine TriL.c1 rfl (op_as (ltb rfl) rfl) ?_
    refine TriL.nil ?_
    refine Tri.ret ?_
    exact ⟨.inr rfl, (ResOK.r1 rfl (.tmp rfl .nil)).cast (congrArg (AV.int .i64) (by grind [])), rfl⟩
theorem p_fm1 (m : Msg) (name : Str) : Pure Tryz.prog 78 ([m.av] ++ [.kp [.str name]]) (.bool (m.name == name)) := by
  refine Pure.of_tri Tryz.func78 rfl rfl (ltb rfl) fun H => ?_
  refine Tri.seq ?_
  refine Tri.region ?_
  refine TriL.c2 rfl (op_box (ltb rfl) rfl rfl rfl) ?_
  refine TriL.c1 rfl (op_as (ltb rfl) rfl) ?_
  refine TriL.nil ?_
  refine Tri.seq ?_
  refine Tri.region ?_
  refine TriL.c1 rfl (op_fal (ltb rfl) fo78_0_M8 rfl) ?_
  refine TriL.c1 rfl (op_ldl (ltb rfl) lk9_M8 rfl rfl rfl) ?_
  refine TriL.c1 rfl (op_ldk (ltb rfl) lk9_M8 rfl rfl) ?_
  refine TriL.c1 rfl (op_bin (ltb rfl) rfl rfl rfl) ?_
  refine TriL.c1 rfl (op_as (ltb rfl) rfl) ?_
  refine TriL.nil ?_
  refine Tri.ret ?_
  exact ⟨.inr rfl, (ResOK.r1 rfl (.tmp rfl .nil)).cast rfl, rfl⟩
theorem p_fn1 (f : Fld) (num : Int) : Pure Tryz.prog 133 ([f.av] ++ [.kp [.int .i64 num]]) (.bool (f.num == num)) := by
  refine Pure.of_tri Tryz.func133 rfl rfl (ltb rfl) fun H => ?_
  refine Tri.seq ?_
  refine Tri.region ?_
  refine TriL.c2 rfl (op_box (ltb rfl) rfl rfl rfl) ?_
  refine TriL.c1 rfl (op_as (ltb rfl) rfl) ?_
  refine TriL.nil ?_
  refine Tri.seq ?_
  refine Tri.region ?_
  refine TriL.c1 rfl (op_fal (ltb rfl) fo98_1_M8 rfl) ?_
  refine TriL.c1 rfl (op_ldl (ltb rfl) lk3_M8 rfl rfl rfl) ?_
  refine TriL.c1 rfl (op_ldk (ltb rfl) lk3_M8 rfl rfl) ?_
  refine TriL.c1 rfl (op_bin (ltb rfl) rfl rfl rfl) ?_
  refine TriL.c1 rfl (op_as (ltb rfl) rfl) ?_
  refine TriL.nil ?_
  refine Tri.ret ?_
  exact ⟨.inr rfl, (ResOK.r1 rfl (.tmp rfl .nil)).cast rfl, rfl⟩
theorem p_msgIx (s : Sch) (name : Str) (hl : s.msgs.length ≤ 9223372036854775807) : Pure Tryz.prog 45 [s.av, .str name] (.int .i64 (s.msgIx name)) := by
  refine Pure.of_tri Tryz.func45 rfl rfl (ltb rfl) fun H => ?_
  refine Tri.seq ?_
  refine Tri.region ?_
  refine TriL.c2 rfl (op_box (ltb rfl) rfl rfl rfl) ?_
  refine TriL.c2 rfl (op_box (ltb rfl) rfl rfl rfl) ?_
  refine TriL.c1 rfl (op_as (ltb rfl) rfl) ?_
  refine TriL.nil ?_
  refine Tri.seq ?_
  refine Tri.ofKept (Kept.fzb 3 rfl rfl (Kept.now ?_))
  refine Tri.region ?_
  refine TriL.c1 rfl (op_fal (ltb rfl) fo25_1_M8 rfl) ?_
  refine TriL.c1 rfl (op_ldl (ltb rfl) lk23_M8 rfl rfl rfl) ?_
  refine TriL.c1 rfl (op_mkf (ltb rfl) rfl) ?_
  refine TriL.c1 rfl (op_call (ltb rfl) fn77_M8 rfl (p_ixfM s.msgs hl _ _ (fun m => m.name == name) fn78_M8 (fun x _ => p_fm1 x name))) ?_
  refine TriL.c1 rfl (op_as (ltb rfl) rfl) ?_
  refine TriL.nil ?_
  refine Tri.ret ?_
  exact ⟨.inr rfl, (ResOK.r1 rfl (.tmp rfl .nil)).cast rfl, rfl⟩
theorem p_number (m : Msg) (num : Int) (hl : m.fields.length ≤ 1000) : Pure Tryz.prog 84 [m.av, .int .i64 num] (.int .i64 (m.at num)) := by
  refine Pure.of_tri Tryz.func84 rfl rfl (ltb rfl) fun H => ?_
  refine Tri.seq ?_
  refine Tri.region ?_
  refine TriL.c2 rfl (op_box (ltb rfl) rfl rfl rfl) ?_
  refine TriL.c2 rfl (op_box (ltb rfl) rfl rfl rfl) ?_
  refine TriL.c1 rfl (op_as (ltb rfl) rfl) ?_
  refine TriL.nil ?_
  refine Tri.seq ?_
  refine Tri.ofKept (Kept.fzb 3 rfl rfl (Kept.now ?_))
  refine Tri.region ?_
  refine TriL.c1 rfl (op_fal (ltb rfl) fo78_1_M8 rfl) ?_
  refine TriL.c1 rfl (op_ldl (ltb rfl) lk76_M8 rfl rfl rfl) ?_
  refine TriL.c1 rfl (op_mkf (ltb rfl) rfl) ?_
  refine TriL.c1 rfl (op_call (ltb rfl) fn132_M8 rfl (p_ixfF m.fields (by omega) _ _ (fun f => f.num == num) fn133_M8 (fun x _ => p_fn1 x num))) ?_
  refine TriL.c1 rfl (op_as (ltb rfl) rfl) ?_
  refine TriL.nil ?_
  refine Tri.ret ?_
  exact ⟨.inr rfl, (ResOK.r1 rfl (.tmp rfl .nil)).cast rfl, rfl⟩
end Go.Proofs.YtnpgcmeclkncnaaGreatDoor.X
/- which values are values of a message of a schema, in the program. -/
set_option linter.unusedVariables false
set_option linter.unusedSimpArgs false
set_option linter.unusedSectionVars false
set_option maxRecDepth 100000
namespace Go.Proofs.YtnpgcmeclkncnaaGreatDoor.X
open Go Go.RowKit Go.Proofs
theorem fn125_M9 : isFn Tryz.prog 125 = true := by kernel_rfl
theorem fn126_M9 : isFn Tryz.prog 126 = true := by kernel_rfl
theorem fn127_M9 : isFn Tryz.prog 127 = true := by kernel_rfl
theorem fn162_M9 : isFn Tryz.prog 162 = true := by kernel_rfl
theorem fn170_M9 : isFn Tryz.prog 170 = true := by kernel_rfl
theorem fn171_M9 : isFn Tryz.prog 171 = true := by kernel_rfl
theorem fn173_M9 : isFn Tryz.prog 173 = true := by kernel_rfl
theorem fn201_M9 : isFn Tryz.prog 201 = true := by kernel_rfl
theorem fn46_M9 : isFn Tryz.prog 46 = true := by kernel_rfl
theorem fn84_M9 : isFn Tryz.prog 84 = true := by kernel_rfl
theorem fo131_0_M9 : fo Tryz.prog 131 0 = some 0 := by kernel_rfl
theorem fo78_1_M9 : fo Tryz.prog 78 1 = some 1 := by kernel_rfl
theorem fo83_0_M9 : fo Tryz.prog 83 0 = some 0 := by kernel_rfl
theorem fo83_1_M9 : fo Tryz.prog 83 1 = some 1 := by kernel_rfl
theorem fo86_0_M9 : fo Tryz.prog 86 0 = some 0 := by kernel_rfl
theorem fo86_1_M9 : fo Tryz.prog 86 1 = some 1 := by kernel_rfl
theorem fo86_2_M9 : fo Tryz.prog 86 2 = some 2 := by kernel_rfl
theorem fo98_2_M9 : fo Tryz.prog 98 2 = some 2 := by kernel_rfl
theorem fo98_3_M9 : fo Tryz.prog 98 3 = some 3 := by kernel_rfl
theorem fo98_4_M9 : fo Tryz.prog 98 4 = some 4 := by kernel_rfl
theorem fo98_6_M9 : fo Tryz.prog 98 6 = some 6 := by kernel_rfl
theorem ie29_M9 : ie Tryz.prog 29 = some 2 := by kernel_rfl
theorem ie30_M9 : ie Tryz.prog 30 = some 4 := by kernel_rfl
theorem ie63_M9 : ie Tryz.prog 63 = some 2 := by kernel_rfl
theorem ie76_M9 : ie Tryz.prog 76 = some 7 := by kernel_rfl
theorem ie81_M9 : ie Tryz.prog 81 = some 3 := by kernel_rfl
theorem lk131_M9 : lk Tryz.prog 131 = some (true, 4) := by kernel_rfl
theorem lk25_M9 : lk Tryz.prog 25 = some (true, 2) := by kernel_rfl
theorem lk3_M9 : lk Tryz.prog 3 = some (false, 1) := by kernel_rfl
theorem lk32_M9 : lk Tryz.prog 32 = some (true, 2) := by kernel_rfl
theorem lk4_M9 : lk Tryz.prog 4 = some (false, 1) := by kernel_rfl
theorem lk63_M9 : lk Tryz.prog 63 = some (false, 1) := by kernel_rfl
theorem lk76_M9 : lk Tryz.prog 76 = some (false, 1) := by kernel_rfl
theorem lk78_M9 : lk Tryz.prog 78 = some (true, 3) := by kernel_rfl
theorem lk81_M9 : lk Tryz.prog 81 = some (false, 1) := by kernel_rfl
theorem lk83_M9 : lk Tryz.prog 83 = some (true, 2) := by kernel_rfl
theorem lk84_M9 : lk Tryz.prog 84 = some (false, 1) := by kernel_rfl
theorem lk86_M9 : lk Tryz.prog 86 = some (true, 3) := by kernel_rfl
theorem lk9_M9 : lk Tryz.prog 9 = some (false, 1) := by kernel_rfl
theorem lk98_M9 : lk Tryz.prog 98 = some (true, 7) := by kernel_rfl
theorem un186_M9 : Tryz.prog.underlying 186 = some (TypeDesc.map 9 3) := Tryz.underlying186
theorem un29_M9 : Tryz.prog.underlying 29 = some (TypeDesc.slice 83) := Tryz.underlying29
theorem un3_M9 : Tryz.prog.underlying 3 = some (TypeDesc.int IntKind.i64) := Tryz.underlying3
theorem un30_M9 : Tryz.prog.underlying 30 = some (TypeDesc.slice 131) := Tryz.underlying30
theorem un63_M9 : Tryz.prog.underlying 63 = some (TypeDesc.slice 32) := Tryz.underlying63
theorem un81_M9 : Tryz.prog.underlying 81 = some (TypeDesc.slice 86) := Tryz.underlying81
theorem un9_M9 : Tryz.prog.underlying 9 = some TypeDesc.string := Tryz.underlying9
theorem zA131_M9 : zeroA Tryz.prog 131 = some [AV.int IntKind.i64 (0), AV.int IntKind.i64 (0), AV.int IntKind.u64 (0), AV.str []] := by kernel_rfl
theorem zA83_M9 : zeroA Tryz.prog 83 = some [AV.int IntKind.i64 (0), AV.sl []] := by kernel_rfl
theorem zA86_M9 : zeroA Tryz.prog 86 = some [AV.int IntKind.u64 (0), AV.str [], AV.sl []] := by kernel_rfl
theorem zv3_M9 : ∀ w, (zeroValue 3).run Tryz.prog w = .ok (.int .i64 0) w := fun w => by kernel_rfl
theorem p_val (s : Sch) (f : Fld) (v : Val) (hvs : v.s.length ≤ 9223372036854775807) (ih : ∀ u ∈ v.m, ∀ name : Str, Pure Tryz.prog 46 [s.av, .str name, .agg u.cells] (.bool (u.ok s name))) : Pure Tryz.prog 170 [s.av, f.av, .agg v.cells] (.bool (v.ok s f)) := by
  have hE := Val.ok_eq s f v
  have hT1 := @treeOk1_one s f.ref v.m
  have hT0 := @treeOk1_no s f.ref v.m
  refine Pure.of_tri Tryz.func170 rfl rfl (ltb rfl) fun H => ?_
  refine Tri.seq ?_
  refine Tri.region ?_
  refine TriL.c2 rfl (op_box (ltb rfl) rfl rfl rfl) ?_
  refine TriL.c2 rfl (op_box (ltb rfl) rfl rfl rfl) ?_
  refine TriL.c2 rfl (op_box (ltb rfl) rfl rfl rfl) ?_
  refine TriL.c1 rfl (op_as (ltb rfl) rfl) ?_
  refine TriL.nil ?_
  refine Tri.joinu [.h, .s 3, .b 3, .s 4, .b 4, .s 5, .b 5] (fun (pl : Bool) => [(.s 7, .sv (.v (.bool pl)))]) (fun (pl : Bool) => pl = (decide (v.n = 0) && decide (v.m.length = 0))) rfl ?_ ?_
  · -- region 1 valid.go:16
    refine Tri.region ?_
    refine TriL.c1 rfl (op_fal (ltb rfl) fo86_0_M9 rfl) ?_
    refine TriL.c1 rfl (op_ldl (ltb rfl) lk84_M9 rfl rfl rfl) ?_
    refine TriL.c1 rfl (op_bin (ltb rfl) rfl rfl rfl) ?_
    refine TriL.c1 rfl (op_mv (ltb rfl) rfl) ?_
    refine TriL.split (d := 11) rfl (fun hg1 => ?_) (fun hg1 => ?_)
    · refine TriL.g1 rfl (ltb rfl) rfl hg1 (op_fal (ltb rfl) fo86_2_M9 rfl) ?_
      refine TriL.g1 rfl (ltb rfl) rfl hg1 (op_ldl (ltb rfl) lk63_M9 rfl rfl rfl) ?_
      refine TriL.g1 rfl (ltb rfl) rfl hg1 (op_lenl (ltb rfl) un63_M9 rfl) ?_
      refine TriL.g1 rfl (ltb rfl) rfl hg1 (op_bin (ltb rfl) rfl rfl rfl) ?_
      refine TriL.c1 rfl (op_pickt (ltb rfl) rfl hg1 rfl) ?_
      refine TriL.c1 rfl (op_as (ltb rfl) rfl) ?_
      refine TriL.kept (Kept.keep [.s 7, .h, .s 3, .b 3, .s 4, .b 4, .s 5, .b 5] rfl (by decide) (Kept.now ?_))
      exact ⟨_, by grind, rfl⟩
    · refine TriL.skipu rfl rfl (ltb rfl) (ltb rfl) rfl hg1 ?_
      refine TriL.skipu rfl rfl (ltb rfl) (ltb rfl) rfl hg1 ?_
      refine TriL.skipu rfl rfl (ltb rfl) (ltb rfl) rfl hg1 ?_
      refine TriL.skipu rfl rfl (ltb rfl) (ltb rfl) rfl hg1 ?_
      refine TriL.c1 rfl (op_pickf (ltb rfl) rfl hg1 rfl) ?_
      refine TriL.c1 rfl (op_as (ltb rfl) rfl) ?_
      refine TriL.kept (Kept.keep [.s 7, .h, .s 3, .b 3, .s 4, .b 4, .s 5, .b 5] rfl (by decide) (Kept.now ?_))
      exact ⟨_, by grind, rfl⟩
  · rintro pl hF2
    refine Tri.seq ?_
    refine Tri.blk ?_
    refine Tri.seq ?_
    refine Tri.region ?_
    refine TriL.c1 rfl (op_fal (ltb rfl) fo98_2_M9 rfl) ?_
    refine TriL.c1 rfl (op_ldl (ltb rfl) lk3_M9 rfl rfl rfl) ?_
    refine TriL.c1 rfl (op_call (ltb rfl) fn173_M9 rfl (p_numT _)) ?_
    refine TriL.c1 rfl (op_as (ltb rfl) rfl) ?_
    refine TriL.nil ?_
    refine Tri.cond rfl (fun hc2 => ?_) (fun hc2 => ?_)
    · refine Tri.seq ?_
      refine Tri.region ?_
      refine TriL.c1 rfl (op_fal (ltb rfl) fo98_2_M9 rfl) ?_
      refine TriL.c1 rfl (op_ldl (ltb rfl) lk3_M9 rfl rfl rfl) ?_
      refine TriL.c1 rfl (op_fal (ltb rfl) fo86_0_M9 rfl) ?_
      refine TriL.c1 rfl (op_ldl (ltb rfl) lk84_M9 rfl rfl rfl) ?_
      refine TriL.c1 rfl (op_call (ltb rfl) fn201_M9 rfl (p_may _ _)) ?_
      refine TriL.c1 rfl (op_mv (ltb rfl) rfl) ?_
      refine TriL.split (d := 26) rfl (fun hg3 => ?_) (fun hg3 => ?_)
      · refine TriL.g1 rfl (ltb rfl) rfl hg3 (op_fal (ltb rfl) fo86_1_M9 rfl) ?_
        refine TriL.g1 rfl (ltb rfl) rfl hg3 (op_ldl (ltb rfl) lk9_M9 rfl rfl rfl) ?_
        refine TriL.g1 rfl (ltb rfl) rfl hg3 (op_bin (ltb rfl) rfl rfl rfl) ?_
        refine TriL.c1 rfl (op_pickt (ltb rfl) rfl hg3 rfl) ?_
        refine TriL.c1 rfl (op_mv (ltb rfl) rfl) ?_
        refine TriL.split (d := 31) rfl (fun hg4 => ?_) (fun hg4 => ?_)
        · refine TriL.g1 rfl (ltb rfl) rfl hg4 (op_fal (ltb rfl) fo86_2_M9 rfl) ?_
          refine TriL.g1 rfl (ltb rfl) rfl hg4 (op_ldl (ltb rfl) lk63_M9 rfl rfl rfl) ?_
          refine TriL.g1 rfl (ltb rfl) rfl hg4 (op_lenl (ltb rfl) un63_M9 rfl) ?_
          refine TriL.g1 rfl (ltb rfl) rfl hg4 (op_bin (ltb rfl) rfl rfl rfl) ?_
          refine TriL.c1 rfl (op_pickt (ltb rfl) rfl hg4 rfl) ?_
          refine TriL.c1 rfl (op_as (ltb rfl) rfl) ?_
          refine TriL.nil ?_
          refine Tri.ret ?_
          exact ⟨.inr rfl, (ResOK.r1 rfl (.tmp rfl .nil)).cast (congrArg AV.bool (by grind [])), rfl⟩
        · refine TriL.skipu rfl rfl (ltb rfl) (ltb rfl) rfl hg4 ?_
          refine TriL.skipu rfl rfl (ltb rfl) (ltb rfl) rfl hg4 ?_
          refine TriL.skipu rfl rfl (ltb rfl) (ltb rfl) rfl hg4 ?_
          refine TriL.skipu rfl rfl (ltb rfl) (ltb rfl) rfl hg4 ?_
          refine TriL.c1 rfl (op_pickf (ltb rfl) rfl hg4 rfl) ?_
          refine TriL.c1 rfl (op_as (ltb rfl) rfl) ?_
          refine TriL.nil ?_
          refine Tri.ret ?_
          exact ⟨.inr rfl, (ResOK.r1 rfl (.tmp rfl .nil)).cast (congrArg AV.bool (by grind [])), rfl⟩
      · refine TriL.skipu rfl rfl (ltb rfl) (ltb rfl) rfl hg3 ?_
        refine TriL.skipu rfl rfl (ltb rfl) (ltb rfl) rfl hg3 ?_
        refine TriL.skipu rfl rfl (ltb rfl) (ltb rfl) rfl hg3 ?_
        refine TriL.c1 rfl (op_pickf (ltb rfl) rfl hg3 rfl) ?_
        refine TriL.c1 rfl (op_mv (ltb rfl) rfl) ?_
        refine TriL.skipu rfl rfl (ltb rfl) (ltb rfl) rfl rfl ?_
        refine TriL.skipu rfl rfl (ltb rfl) (ltb rfl) rfl rfl ?_
        refine TriL.skipu rfl rfl (ltb rfl) (ltb rfl) rfl rfl ?_
        refine TriL.skipu rfl rfl (ltb rfl) (ltb rfl) rfl rfl ?_
        refine TriL.c1 rfl (op_pickf (ltb rfl) rfl rfl rfl) ?_
        refine TriL.c1 rfl (op_as (ltb rfl) rfl) ?_
        refine TriL.nil ?_
        refine Tri.ret ?_
        exact ⟨.inr rfl, (ResOK.r1 rfl (.tmp rfl .nil)).cast (congrArg AV.bool (by grind [])), rfl⟩
    · refine Tri.seq ?_
      refine Tri.region ?_
      refine TriL.c1 rfl (op_fal (ltb rfl) fo98_2_M9 rfl) ?_
      refine TriL.c1 rfl (op_ldl (ltb rfl) lk3_M9 rfl rfl rfl) ?_
      refine TriL.c1 rfl (op_bin (ltb rfl) rfl rfl rfl) ?_
      refine TriL.c1 rfl (op_as (ltb rfl) rfl) ?_
      refine TriL.nil ?_
      refine Tri.cond rfl (fun hc5 => ?_) (fun hc5 => ?_)
      · refine Tri.seq ?_
        refine Tri.region ?_
        refine TriL.c1 rfl (op_mv (ltb rfl) rfl) ?_
        refine TriL.c1 rfl (op_mv (ltb rfl) rfl) ?_
        refine TriL.split (d := 42) rfl (fun hg6 => ?_) (fun hg6 => ?_)
        · refine TriL.g1 rfl (ltb rfl) rfl hg6 (op_fal (ltb rfl) fo86_1_M9 rfl) ?_
          refine TriL.g1 rfl (ltb rfl) rfl hg6 (op_ldl (ltb rfl) lk9_M9 rfl rfl rfl) ?_
          refine TriL.g1 rfl (ltb rfl) rfl hg6 (op_call (ltb rfl) fn162_M9 rfl (p_validS _ hvs)) ?_
          refine TriL.c1 rfl (op_pickt (ltb rfl) rfl hg6 rfl) ?_
          refine TriL.c1 rfl (op_as (ltb rfl) rfl) ?_
          refine TriL.nil ?_
          refine Tri.ret ?_
          exact ⟨.inr rfl, (ResOK.r1 rfl (.tmp rfl .nil)).cast (congrArg AV.bool (by grind [])), rfl⟩
        · refine TriL.skipu rfl rfl (ltb rfl) (ltb rfl) rfl hg6 ?_
          refine TriL.skipu rfl rfl (ltb rfl) (ltb rfl) rfl hg6 ?_
          refine TriL.skipu rfl rfl (ltb rfl) (ltb rfl) rfl hg6 ?_
          refine TriL.c1 rfl (op_pickf (ltb rfl) rfl hg6 rfl) ?_
          refine TriL.c1 rfl (op_as (ltb rfl) rfl) ?_
          refine TriL.nil ?_
          refine Tri.ret ?_
          exact ⟨.inr rfl, (ResOK.r1 rfl (.tmp rfl .nil)).cast (congrArg AV.bool (by grind [])), rfl⟩
      · refine Tri.seq ?_
        refine Tri.region ?_
        refine TriL.c1 rfl (op_fal (ltb rfl) fo98_2_M9 rfl) ?_
        refine TriL.c1 rfl (op_ldl (ltb rfl) lk3_M9 rfl rfl rfl) ?_
        refine TriL.c1 rfl (op_bin (ltb rfl) rfl rfl rfl) ?_
        refine TriL.c1 rfl (op_as (ltb rfl) rfl) ?_
        refine TriL.nil ?_
        refine Tri.cond rfl (fun hc7 => ?_) (fun hc7 => ?_)
        · refine Tri.seq ?_
          refine Tri.region ?_
          refine TriL.c1 rfl (op_mv (ltb rfl) rfl) ?_
          refine TriL.c1 rfl (op_as (ltb rfl) rfl) ?_
          refine TriL.nil ?_
          refine Tri.ret ?_
          exact ⟨.inr rfl, (ResOK.r1 rfl (.tmp rfl .nil)).cast (congrArg AV.bool (by grind [])), rfl⟩
        · refine Tri.seq ?_
          refine Tri.region ?_
          refine TriL.c1 rfl (op_fal (ltb rfl) fo98_2_M9 rfl) ?_
          refine TriL.c1 rfl (op_ldl (ltb rfl) lk3_M9 rfl rfl rfl) ?_
          refine TriL.c1 rfl (op_bin (ltb rfl) rfl rfl rfl) ?_
          refine TriL.c1 rfl (op_as (ltb rfl) rfl) ?_
          refine TriL.nil ?_
          refine Tri.cond rfl (fun hc8 => ?_) (fun hc8 => ?_)
          · refine Tri.seq ?_
            refine Tri.drawn mixed rfl ?_
            refine TriD.c1 rfl (op_fal (ltb rfl) fo86_0_M9 rfl) ?_
            refine TriD.c1 rfl (op_ldl (ltb rfl) lk84_M9 rfl rfl rfl) ?_
            refine TriD.c1 rfl (op_bin (ltb rfl) rfl rfl rfl) ?_
            refine TriD.c1 rfl (op_mv (ltb rfl) rfl) ?_
            refine TriD.split (d := 59) rfl (fun hg9 => ?_) (fun hg9 => ?_)
            · refine TriD.g1 rfl (ltb rfl) rfl hg9 (op_fal (ltb rfl) fo86_1_M9 rfl) ?_
              refine TriD.g1 rfl (ltb rfl) rfl hg9 (op_ldl (ltb rfl) lk9_M9 rfl rfl rfl) ?_
              refine TriD.g1 rfl (ltb rfl) rfl hg9 (op_bin (ltb rfl) rfl rfl rfl) ?_
              refine TriD.c1 rfl (op_pickt (ltb rfl) rfl hg9 rfl) ?_
              refine TriD.c1 rfl (op_mv (ltb rfl) rfl) ?_
              refine TriD.split (d := 64) rfl (fun hg10 => ?_) (fun hg10 => ?_)
              · refine TriD.g1 rfl (ltb rfl) rfl hg10 (op_fal (ltb rfl) fo86_2_M9 rfl) ?_
                refine TriD.g1 rfl (ltb rfl) rfl hg10 (op_ldl (ltb rfl) lk63_M9 rfl rfl rfl) ?_
                refine TriD.g1 rfl (ltb rfl) rfl hg10 (op_lenl (ltb rfl) un63_M9 rfl) ?_
                refine TriD.g1 rfl (ltb rfl) rfl hg10 (op_bin (ltb rfl) rfl rfl rfl) ?_
                refine TriD.c1 rfl (op_pickt (ltb rfl) rfl hg10 rfl) ?_
                refine TriD.c1 rfl (op_mv (ltb rfl) rfl) ?_
                refine TriD.split (d := 70) rfl (fun hg11 => ?_) (fun hg11 => ?_)
                · refine TriD.g1 rfl (ltb rfl) rfl hg11 (op_ldl (ltb rfl) lk25_M9 rfl rfl rfl) ?_
                  refine TriD.g1 rfl (ltb rfl) rfl hg11 (op_fal (ltb rfl) fo98_3_M9 rfl) ?_
                  refine TriD.g1 rfl (ltb rfl) rfl hg11 (op_ldl (ltb rfl) lk9_M9 rfl rfl rfl) ?_
                  refine TriD.g1 rfl (ltb rfl) rfl hg11 (op_fal (ltb rfl) fo86_2_M9 rfl) ?_
                  refine TriD.g1 rfl (ltb rfl) rfl hg11 (op_ldl (ltb rfl) lk63_M9 rfl rfl rfl) ?_
                  refine TriD.g1 rfl (ltb rfl) rfl hg11 (op_iak (ltb rfl) ie63_M9 rfl rfl (by decide) (ixmE (i := 0) Tree.av_eq (by grind)) rfl) ?_
                  refine TriD.g1 rfl (ltb rfl) rfl hg11 (op_ldk (ltb rfl) lk32_M9 rfl rfl) ?_
                  refine TriD.g1 rfl (ltb rfl) rfl hg11 (op_call (ltb rfl) fn46_M9 rfl (ih _ (List.getElem_mem (by grind)) _)) ?_
                  refine TriD.c1 rfl (op_pickt (ltb rfl) rfl hg11 rfl) ?_
                  refine TriD.c1 rfl (op_as (ltb rfl) rfl) ?_
                  refine TriD.nil (by kernel_rfl) (Kept.now ?_)
                  refine Tri.ret ?_
                  exact ⟨.inr rfl, (ResOK.r1 rfl (.tmp rfl .nil)).cast (congrArg AV.bool (by have hm1 : v.m.length = 1 := (by have h := hg11; simp at h; omega); have hq := hT1 hm1; have h0 : v.n = 0 := (by simpa using hg9); have hs0 : v.s = [] := (by simpa using hg10); have hty : f.ty = 15 := (by simpa using hc8); have hnt : numT 15 = false := (by decide); rw [hE, if_neg (by simp [hc2]), if_neg (by omega), if_neg (by omega), if_pos hty, hq, h0, hs0]; simp)), rfl⟩
                · refine TriD.skipu rfl rfl (ltb rfl) (ltb rfl) rfl hg11 ?_
                  refine TriD.skipu rfl rfl (ltb rfl) (ltb rfl) rfl hg11 ?_
                  refine TriD.skipu rfl rfl (ltb rfl) (ltb rfl) rfl hg11 ?_
                  refine TriD.skipu rfl rfl (ltb rfl) (ltb rfl) rfl hg11 ?_
                  refine TriD.skipu rfl rfl (ltb rfl) (ltb rfl) rfl hg11 ?_
                  refine TriD.skipu rfl rfl (ltb rfl) (ltb rfl) rfl hg11 ?_
                  refine TriD.skipu rfl rfl (ltb rfl) (ltb rfl) rfl hg11 ?_
                  refine TriD.skipu rfl rfl (ltb rfl) (ltb rfl) rfl hg11 ?_
                  refine TriD.c1 rfl (op_pickf (ltb rfl) rfl hg11 rfl) ?_
                  refine TriD.c1 rfl (op_as (ltb rfl) rfl) ?_
                  refine TriD.nil (by kernel_rfl) (Kept.now ?_)
                  refine Tri.ret ?_
                  exact ⟨.inr rfl, (ResOK.r1 rfl (.tmp rfl .nil)).cast (congrArg AV.bool (by grind [])), rfl⟩
              · refine TriD.skipu rfl rfl (ltb rfl) (ltb rfl) rfl hg10 ?_
                refine TriD.skipu rfl rfl (ltb rfl) (ltb rfl) rfl hg10 ?_
                refine TriD.skipu rfl rfl (ltb rfl) (ltb rfl) rfl hg10 ?_
                refine TriD.skipu rfl rfl (ltb rfl) (ltb rfl) rfl hg10 ?_
                refine TriD.c1 rfl (op_pickf (ltb rfl) rfl hg10 rfl) ?_
                refine TriD.c1 rfl (op_mv (ltb rfl) rfl) ?_
                refine TriD.skipu rfl rfl (ltb rfl) (ltb rfl) rfl rfl ?_
                refine TriD.skipu rfl rfl (ltb rfl) (ltb rfl) rfl rfl ?_
                refine TriD.skipu rfl rfl (ltb rfl) (ltb rfl) rfl rfl ?_
                refine TriD.skipu rfl rfl (ltb rfl) (ltb rfl) rfl rfl ?_
                refine TriD.skipu rfl rfl (ltb rfl) (ltb rfl) rfl rfl ?_
                refine TriD.skipu rfl rfl (ltb rfl) (ltb rfl) rfl rfl ?_
                refine TriD.skipu rfl rfl (ltb rfl) (ltb rfl) rfl rfl ?_
                refine TriD.skipu rfl rfl (ltb rfl) (ltb rfl) rfl rfl ?_
                refine TriD.c1 rfl (op_pickf (ltb rfl) rfl rfl rfl) ?_
                refine TriD.c1 rfl (op_as (ltb rfl) rfl) ?_
                refine TriD.nil (by kernel_rfl) (Kept.now ?_)
                refine Tri.ret ?_
                exact ⟨.inr rfl, (ResOK.r1 rfl (.tmp rfl .nil)).cast (congrArg AV.bool (by grind [])), rfl⟩
            · refine TriD.skipu rfl rfl (ltb rfl) (ltb rfl) rfl hg9 ?_
              refine TriD.skipu rfl rfl (ltb rfl) (ltb rfl) rfl hg9 ?_
              refine TriD.skipu rfl rfl (ltb rfl) (ltb rfl) rfl hg9 ?_
              refine TriD.c1 rfl (op_pickf (ltb rfl) rfl hg9 rfl) ?_
              refine TriD.c1 rfl (op_mv (ltb rfl) rfl) ?_
              refine TriD.skipu rfl rfl (ltb rfl) (ltb rfl) rfl rfl ?_
              refine TriD.skipu rfl rfl (ltb rfl) (ltb rfl) rfl rfl ?_
              refine TriD.skipu rfl rfl (ltb rfl) (ltb rfl) rfl rfl ?_
              refine TriD.skipu rfl rfl (ltb rfl) (ltb rfl) rfl rfl ?_
              refine TriD.c1 rfl (op_pickf (ltb rfl) rfl rfl rfl) ?_
              refine TriD.c1 rfl (op_mv (ltb rfl) rfl) ?_
              refine TriD.skipu rfl rfl (ltb rfl) (ltb rfl) rfl rfl ?_
              refine TriD.skipu rfl rfl (ltb rfl) (ltb rfl) rfl rfl ?_
              refine TriD.skipu rfl rfl (ltb rfl) (ltb rfl) rfl rfl ?_
              refine TriD.skipu rfl rfl (ltb rfl) (ltb rfl) rfl rfl ?_
              refine TriD.skipu rfl rfl (ltb rfl) (ltb rfl) rfl rfl ?_
              refine TriD.skipu rfl rfl (ltb rfl) (ltb rfl) rfl rfl ?_
              refine TriD.skipu rfl rfl (ltb rfl) (ltb rfl) rfl rfl ?_
              refine TriD.skipu rfl rfl (ltb rfl) (ltb rfl) rfl rfl ?_
              refine TriD.c1 rfl (op_pickf (ltb rfl) rfl rfl rfl) ?_
              refine TriD.c1 rfl (op_as (ltb rfl) rfl) ?_
              refine TriD.nil (by kernel_rfl) (Kept.now ?_)
              refine Tri.ret ?_
              exact ⟨.inr rfl, (ResOK.r1 rfl (.tmp rfl .nil)).cast (congrArg AV.bool (by grind [])), rfl⟩
          · refine Tri.skip ?_
            refine Tri.seq ?_
            refine Tri.region ?_
            refine TriL.c1 rfl (op_as (ltb rfl) rfl) ?_
            refine TriL.nil ?_
            refine Tri.ret ?_
            exact ⟨.inr rfl, (ResOK.r1 rfl (.tmp rfl .nil)).cast (congrArg AV.bool (by grind [])), rfl⟩
theorem p_vals (s : Sch) (f : Fld) (l : List Val) (hl : l.length ≤ 9223372036854775807) (hvs : ∀ v ∈ l, v.s.length ≤ 9223372036854775807) (ih : ∀ v ∈ l, ∀ u ∈ v.m, ∀ name : Str, Pure Tryz.prog 46 [s.av, .str name, .agg u.cells] (.bool (u.ok s name))) : Pure Tryz.prog 125 [s.av, f.av, .sl (l.map Val.av)] (.bool (decide (0 < l.length) && (f.rep || decide (l.length = 1)) && l.all fun v => v.ok s f && (!f.hidden || (!decide (v.n = 0) || !(v.s == []))))) := by
  refine Pure.of_tri Tryz.func125 rfl rfl (ltb rfl) fun H => ?_
  refine Tri.seq ?_
  refine Tri.region ?_
  refine TriL.c2 rfl (op_box (ltb rfl) rfl rfl rfl) ?_
  refine TriL.c2 rfl (op_box (ltb rfl) rfl rfl rfl) ?_
  refine TriL.c1 rfl (op_as (ltb rfl) rfl) ?_
  refine TriL.nil ?_
  refine Tri.joinu [.h, .s 2, .s 3, .b 3, .s 4, .b 4] (fun (_ : Unit) => []) (fun (_ : Unit) => 0 < l.length ∧ (f.rep = true ∨ l.length = 1)) rfl ?_ ?_
  · refine Tri.seq ?_
    refine Tri.region ?_
    refine TriL.c1 rfl (op_mv (ltb rfl) rfl) ?_
    refine TriL.c1 rfl (op_lenl (ltb rfl) un81_M9 rfl) ?_
    refine TriL.c1 rfl (op_bin (ltb rfl) rfl rfl rfl) ?_
    refine TriL.c1 rfl (op_mv (ltb rfl) rfl) ?_
    refine TriL.split (d := 12) rfl (fun hg1 => ?_) (fun hg1 => ?_)
    · refine TriL.skipu rfl rfl (ltb rfl) (ltb rfl) rfl hg1 ?_
      refine TriL.skipu rfl rfl (ltb rfl) (ltb rfl) rfl hg1 ?_
      refine TriL.skipu rfl rfl (ltb rfl) (ltb rfl) rfl hg1 ?_
      refine TriL.skipu rfl rfl (ltb rfl) (ltb rfl) rfl hg1 ?_
      refine TriL.skipg rfl rfl (ltb rfl) (ltb rfl) rfl ?_
      refine TriL.skipg rfl rfl (ltb rfl) (ltb rfl) rfl ?_
      refine TriL.skipg rfl rfl (ltb rfl) (ltb rfl) rfl ?_
      refine TriL.skipu rfl rfl (ltb rfl) (ltb rfl) rfl hg1 ?_
      refine TriL.c1 rfl (op_pickt (ltb rfl) rfl hg1 rfl) ?_
      refine TriL.nil ?_
      refine Tri.condT rfl rfl ?_
      refine Tri.seq ?_
      refine Tri.region ?_
      refine TriL.c1 rfl (op_as (ltb rfl) rfl) ?_
      refine TriL.nil ?_
      refine Tri.ret ?_
      exact ⟨.inr rfl, (ResOK.r1 rfl (.tmp rfl .nil)).cast (congrArg AV.bool (by grind [])), rfl⟩
    · refine TriL.g1 rfl (ltb rfl) rfl hg1 (op_fal (ltb rfl) fo98_4_M9 rfl) ?_
      refine TriL.g1 rfl (ltb rfl) rfl hg1 (op_ldl (ltb rfl) lk4_M9 rfl rfl rfl) ?_
      refine TriL.g1 rfl (ltb rfl) rfl hg1 (op_un (ltb rfl) rfl rfl) ?_
      refine TriL.g1 rfl (ltb rfl) rfl hg1 (op_mv (ltb rfl) rfl) ?_
      refine TriL.split (d := 16) rfl (fun hg2 => ?_) (fun hg2 => ?_)
      · refine TriL.g1 rfl (ltb rfl) rfl hg2 (op_mv (ltb rfl) rfl) ?_
        refine TriL.g1 rfl (ltb rfl) rfl hg2 (op_lenl (ltb rfl) un81_M9 rfl) ?_
        refine TriL.g1 rfl (ltb rfl) rfl hg2 (op_bin (ltb rfl) rfl rfl rfl) ?_
        refine TriL.g1 rfl (ltb rfl) rfl hg1 (op_pickt (ltb rfl) rfl hg2 rfl) ?_
        refine TriL.c1 rfl (op_pickf (ltb rfl) rfl hg1 rfl) ?_
        refine TriL.nil ?_
        refine Tri.cond rfl (fun hc3 => ?_) (fun hc3 => ?_)
        · refine Tri.seq ?_
          refine Tri.region ?_
          refine TriL.c1 rfl (op_as (ltb rfl) rfl) ?_
          refine TriL.nil ?_
          refine Tri.ret ?_
          exact ⟨.inr rfl, (ResOK.r1 rfl (.tmp rfl .nil)).cast (congrArg AV.bool (by grind [])), rfl⟩
        · refine Tri.ofKept (Kept.keep [.h, .s 2, .s 3, .b 3, .s 4, .b 4] rfl (by decide) (Kept.now ?_))
          refine Tri.skip ?_
          exact ⟨(), by grind, rfl⟩
      · refine TriL.skipu rfl rfl (ltb rfl) (ltb rfl) rfl hg2 ?_
        refine TriL.skipu rfl rfl (ltb rfl) (ltb rfl) rfl hg2 ?_
        refine TriL.skipu rfl rfl (ltb rfl) (ltb rfl) rfl hg2 ?_
        refine TriL.g1 rfl (ltb rfl) rfl hg1 (op_pickf (ltb rfl) rfl hg2 rfl) ?_
        refine TriL.c1 rfl (op_pickf (ltb rfl) rfl hg1 rfl) ?_
        refine TriL.nil ?_
        refine Tri.condF rfl rfl ?_
        refine Tri.ofKept (Kept.keep [.h, .s 2, .s 3, .b 3, .s 4, .b 4] rfl (by decide) (Kept.now ?_))
        refine Tri.skip ?_
        exact ⟨(), by grind, rfl⟩
  · rintro _ hF3
    refine Tri.seq ?_
    refine Tri.seq ?_
    refine Tri.region ?_
    refine TriL.c1 rfl (op_mv (ltb rfl) rfl) ?_
    refine TriL.c1 rfl (op_lenl (ltb rfl) un81_M9 rfl) ?_
    refine TriL.c1 rfl (op_mv (ltb rfl) rfl) ?_
    refine TriL.nil ?_
    refine Tri.blk ?_
    refine Tri.ofKept (Kept.keep [.s 24, .h, .s 3, .b 3, .s 4, .b 4, .s 22, .s 23] rfl (by decide) (Kept.now ?_))
    -- LOOP 1
    refine Tri.loopk (fun (i : Nat) => [(.s 24, .sv (.v (.int .i64 (i : Int))))]) _ (fun (i : Nat) => (l.drop i).all (fun v => v.ok s f && (!f.hidden || (!decide (v.n = 0) || !(v.s == [])))) = l.all (fun v => v.ok s f && (!f.hidden || (!decide (v.n = 0) || !(v.s == []))))) (fun (i : Nat) => l.length - i) 0 rfl (by simp) ?_
    rintro i hI
    refine Tri.seq ?_
    refine Tri.region ?_
    refine TriL.c1 rfl (op_bin (ltb rfl) rfl rfl rfl) ?_
    refine TriL.nil ?_
    refine Tri.seq ?_
    refine Tri.cond rfl (fun hc4 => ?_) (fun hc4 => ?_)
    · have hi := ltm hc4
      have hS := all_step (p := fun v : Val => v.ok s f && (!f.hidden || (!decide (v.n = 0) || !(v.s == [])))) hi
      refine Tri.skip ?_
      refine Tri.seq ?_
      refine Tri.blk ?_
      refine Tri.seq ?_
      refine Tri.region ?_
      refine TriL.c1 rfl (op_iak (ltb rfl) ie81_M9 rfl rfl (Int.natCast_nonneg _) (ixmE Val.av_eq hi) rfl) ?_
      refine TriL.c1 rfl (op_ldk (ltb rfl) lk86_M9 rfl rfl) ?_
      refine TriL.c2 rfl (op_all (ltb rfl) zA86_M9 rfl) ?_
      refine TriL.c1 rfl (op_stl lk86_M9 rfl rfl rfl rfl rfl (leb rfl)) ?_
      refine TriL.nil ?_
      refine Tri.seq ?_
      refine Tri.region ?_
      refine TriL.c1 rfl (op_ldl (ltb rfl) lk25_M9 rfl rfl rfl) ?_
      refine TriL.c1 rfl (op_ldl (ltb rfl) lk98_M9 rfl rfl rfl) ?_
      refine TriL.c1 rfl (op_ldl (ltb rfl) lk86_M9 rfl rfl rfl) ?_
      refine TriL.c1 rfl (op_call (ltb rfl) fn170_M9 rfl (p_val _ _ _ (hvs _ (List.getElem_mem hi)) (ih _ (List.getElem_mem hi)))) ?_
      refine TriL.c1 rfl (op_un (ltb rfl) rfl rfl) ?_
      refine TriL.c1 rfl (op_mv (ltb rfl) rfl) ?_
      refine TriL.split (d := 33) rfl (fun hg5 => ?_) (fun hg5 => ?_)
      · refine TriL.skipu rfl rfl (ltb rfl) (ltb rfl) rfl hg5 ?_
        refine TriL.skipu rfl rfl (ltb rfl) (ltb rfl) rfl hg5 ?_
        refine TriL.skipu rfl rfl (ltb rfl) (ltb rfl) rfl hg5 ?_
        refine TriL.skipg rfl rfl (ltb rfl) (ltb rfl) rfl ?_
        refine TriL.skipg rfl rfl (ltb rfl) (ltb rfl) rfl ?_
        refine TriL.skipg rfl rfl (ltb rfl) (ltb rfl) rfl ?_
        refine TriL.skipu rfl rfl (ltb rfl) (ltb rfl) rfl hg5 ?_
        refine TriL.skipu rfl rfl (ltb rfl) (ltb rfl) rfl hg5 ?_
        refine TriL.skipg rfl rfl (ltb rfl) (ltb rfl) rfl ?_
        refine TriL.skipg rfl rfl (ltb rfl) (ltb rfl) rfl ?_
        refine TriL.skipg rfl rfl (ltb rfl) (ltb rfl) rfl ?_
        refine TriL.skipu rfl rfl (ltb rfl) (ltb rfl) rfl hg5 ?_
        refine TriL.c1 rfl (op_pickt (ltb rfl) rfl hg5 rfl) ?_
        refine TriL.nil ?_
        refine Tri.condT rfl rfl ?_
        refine Tri.seq ?_
        refine Tri.region ?_
        refine TriL.c1 rfl (op_as (ltb rfl) rfl) ?_
        refine TriL.nil ?_
        refine Tri.ret ?_
        exact ⟨.inr rfl, (ResOK.r1 rfl (.tmp rfl .nil)).cast (congrArg AV.bool (by grind [])), rfl⟩
      · refine TriL.g1 rfl (ltb rfl) rfl hg5 (op_ldl (ltb rfl) lk98_M9 rfl rfl rfl) ?_
        refine TriL.g1 rfl (ltb rfl) rfl hg5 (op_call (ltb rfl) fn171_M9 rfl (p_hidden _)) ?_
        refine TriL.g1 rfl (ltb rfl) rfl hg5 (op_mv (ltb rfl) rfl) ?_
        refine TriL.split (d := 36) rfl (fun hg6 => ?_) (fun hg6 => ?_)
        · refine TriL.g1 rfl (ltb rfl) rfl hg6 (op_fal (ltb rfl) fo86_0_M9 rfl) ?_
          refine TriL.g1 rfl (ltb rfl) rfl hg6 (op_ldl (ltb rfl) lk84_M9 rfl rfl rfl) ?_
          refine TriL.g1 rfl (ltb rfl) rfl hg6 (op_bin (ltb rfl) rfl rfl rfl) ?_
          refine TriL.g1 rfl (ltb rfl) rfl hg5 (op_pickt (ltb rfl) rfl hg6 rfl) ?_
          refine TriL.g1 rfl (ltb rfl) rfl hg5 (op_mv (ltb rfl) rfl) ?_
          refine TriL.split (d := 41) rfl (fun hg7 => ?_) (fun hg7 => ?_)
          · refine TriL.g1 rfl (ltb rfl) rfl hg7 (op_fal (ltb rfl) fo86_1_M9 rfl) ?_
            refine TriL.g1 rfl (ltb rfl) rfl hg7 (op_ldl (ltb rfl) lk9_M9 rfl rfl rfl) ?_
            refine TriL.g1 rfl (ltb rfl) rfl hg7 (op_bin (ltb rfl) rfl rfl rfl) ?_
            refine TriL.g1 rfl (ltb rfl) rfl hg5 (op_pickt (ltb rfl) rfl hg7 rfl) ?_
            refine TriL.c1 rfl (op_pickf (ltb rfl) rfl hg5 rfl) ?_
            refine TriL.nil ?_
            refine Tri.cond rfl (fun hc8 => ?_) (fun hc8 => ?_)
            · refine Tri.seq ?_
              refine Tri.region ?_
              refine TriL.c1 rfl (op_as (ltb rfl) rfl) ?_
              refine TriL.nil ?_
              refine Tri.ret ?_
              exact ⟨.inr rfl, (ResOK.r1 rfl (.tmp rfl .nil)).cast (congrArg AV.bool (by grind [])), rfl⟩
            · refine Tri.skip ?_
              refine Tri.region ?_
              refine TriL.c1 rfl (op_bin (ltb rfl) rfl rfl rfl) ?_
              refine TriL.c1 rfl (op_mv (ltb rfl) rfl) ?_
              refine TriL.kept (Kept.seti 24 rfl (inc (by omega)) (Kept.keep [.s 24, .h, .s 3, .b 3, .s 4, .b 4, .s 22, .s 23] rfl (by decide) (Kept.now ?_)))
              exact ⟨i + 1, by omega, by grind, rfl⟩
          · refine TriL.skipu rfl rfl (ltb rfl) (ltb rfl) rfl hg7 ?_
            refine TriL.skipu rfl rfl (ltb rfl) (ltb rfl) rfl hg7 ?_
            refine TriL.skipu rfl rfl (ltb rfl) (ltb rfl) rfl hg7 ?_
            refine TriL.g1 rfl (ltb rfl) rfl hg5 (op_pickf (ltb rfl) rfl hg7 rfl) ?_
            refine TriL.c1 rfl (op_pickf (ltb rfl) rfl hg5 rfl) ?_
            refine TriL.nil ?_
            refine Tri.condF rfl rfl ?_
            refine Tri.skip ?_
            refine Tri.region ?_
            refine TriL.c1 rfl (op_bin (ltb rfl) rfl rfl rfl) ?_
            refine TriL.c1 rfl (op_mv (ltb rfl) rfl) ?_
            refine TriL.kept (Kept.seti 24 rfl (inc (by omega)) (Kept.keep [.s 24, .h, .s 3, .b 3, .s 4, .b 4, .s 22, .s 23] rfl (by decide) (Kept.now ?_)))
            exact ⟨i + 1, by omega, by grind, rfl⟩
        · refine TriL.skipu rfl rfl (ltb rfl) (ltb rfl) rfl hg6 ?_
          refine TriL.skipu rfl rfl (ltb rfl) (ltb rfl) rfl hg6 ?_
          refine TriL.skipu rfl rfl (ltb rfl) (ltb rfl) rfl hg6 ?_
          refine TriL.g1 rfl (ltb rfl) rfl hg5 (op_pickf (ltb rfl) rfl hg6 rfl) ?_
          refine TriL.g1 rfl (ltb rfl) rfl hg5 (op_mv (ltb rfl) rfl) ?_
          refine TriL.skipu rfl rfl (ltb rfl) (ltb rfl) rfl rfl ?_
          refine TriL.skipu rfl rfl (ltb rfl) (ltb rfl) rfl rfl ?_
          refine TriL.skipu rfl rfl (ltb rfl) (ltb rfl) rfl rfl ?_
          refine TriL.g1 rfl (ltb rfl) rfl hg5 (op_pickf (ltb rfl) rfl rfl rfl) ?_
          refine TriL.c1 rfl (op_pickf (ltb rfl) rfl hg5 rfl) ?_
          refine TriL.nil ?_
          refine Tri.condF rfl rfl ?_
          refine Tri.skip ?_
          refine Tri.region ?_
          refine TriL.c1 rfl (op_bin (ltb rfl) rfl rfl rfl) ?_
          refine TriL.c1 rfl (op_mv (ltb rfl) rfl) ?_
          refine TriL.kept (Kept.seti 24 rfl (inc (by omega)) (Kept.keep [.s 24, .h, .s 3, .b 3, .s 4, .b 4, .s 22, .s 23] rfl (by decide) (Kept.now ?_)))
          exact ⟨i + 1, by omega, by grind, rfl⟩
    · have hi := gem hc4
      have hS := all_end (p := fun v : Val => v.ok s f && (!f.hidden || (!decide (v.n = 0) || !(v.s == [])))) hi
      refine Tri.exit ?_
      refine Tri.seq ?_
      refine Tri.region ?_
      refine TriL.c1 rfl (op_as (ltb rfl) rfl) ?_
      refine TriL.nil ?_
      refine Tri.ret ?_
      exact ⟨.inr rfl, (ResOK.r1 rfl (.tmp rfl .nil)).cast (congrArg AV.bool (by grind [])), rfl⟩
theorem p_restk (m : Msg) (r : Rw) (hl : m.fields.length ≤ 1000) : Pure Tryz.prog 126 ([r.av] ++ [.kp m.cells]) (.bool (decide (0 ≤ m.at r.num))) := by
  refine Pure.of_tri Tryz.func126 rfl rfl (ltb rfl) fun H => ?_
  refine Tri.seq ?_
  refine Tri.region ?_
  refine TriL.c2 rfl (op_box (ltb rfl) rfl rfl rfl) ?_
  refine TriL.c1 rfl (op_as (ltb rfl) rfl) ?_
  refine TriL.nil ?_
  refine Tri.seq ?_
  refine Tri.region ?_
  refine TriL.c1 rfl (op_ldk (ltb rfl) lk78_M9 rfl rfl) ?_
  refine TriL.c1 rfl (op_fal (ltb rfl) fo131_0_M9 rfl) ?_
  refine TriL.c1 rfl (op_ldl (ltb rfl) lk3_M9 rfl rfl rfl) ?_
  refine TriL.c1 rfl (op_call (ltb rfl) fn84_M9 rfl (p_number _ _ (by omega))) ?_
  refine TriL.c1 rfl (op_bin (ltb rfl) rfl rfl rfl) ?_
  refine TriL.c1 rfl (op_as (ltb rfl) rfl) ?_
  refine TriL.nil ?_
  refine Tri.ret ?_
  exact ⟨.inr rfl, (ResOK.r1 rfl (.tmp rfl .nil)).cast rfl, rfl⟩
theorem p_rest (m : Msg) (l : List Rw) (hl : l.length ≤ 9223372036854775807) (hm : m.fields.length ≤ 1000) : Pure Tryz.prog 80 [m.av, .sl (l.map Rw.av)] (.bool (l.all (restOK m))) := by
  refine Pure.of_tri Tryz.func80 rfl rfl (ltb rfl) fun H => ?_
  refine Tri.seq ?_
  refine Tri.region ?_
  refine TriL.c2 rfl (op_box (ltb rfl) rfl rfl rfl) ?_
  refine TriL.c1 rfl (op_as (ltb rfl) rfl) ?_
  refine TriL.nil ?_
  refine Tri.seq ?_
  refine Tri.ofKept (Kept.fzb 2 rfl rfl (Kept.now ?_))
  refine Tri.region ?_
  refine TriL.c1 rfl (op_mkf (ltb rfl) rfl) ?_
  refine TriL.c1 rfl (op_as (ltb rfl) rfl) ?_
  refine TriL.nil ?_
  refine Tri.seq ?_
  refine Tri.seq ?_
  refine Tri.region ?_
  refine TriL.c1 rfl (op_mv (ltb rfl) rfl) ?_
  refine TriL.c1 rfl (op_lenl (ltb rfl) un30_M9 rfl) ?_
  refine TriL.c1 rfl (op_mv (ltb rfl) rfl) ?_
  refine TriL.nil ?_
  refine Tri.blk ?_
  refine Tri.ofKept (Kept.keep [.s 11, .h, .s 5, .s 9, .s 10] rfl (by decide) (Kept.now ?_))
  -- LOOP 1
  refine Tri.loopk (fun (i : Nat) => [(.s 11, .sv (.v (.int .i64 (i : Int))))]) _ (fun (i : Nat) => (l.drop i).all (restOK m) = l.all (restOK m)) (fun (i : Nat) => l.length - i) 0 rfl (by simp) ?_
  rintro i hI
  refine Tri.seq ?_
  refine Tri.region ?_
  refine TriL.c1 rfl (op_bin (ltb rfl) rfl rfl rfl) ?_
  refine TriL.nil ?_
  refine Tri.seq ?_
  refine Tri.cond rfl (fun hc1 => ?_) (fun hc1 => ?_)
  · have hi := ltm hc1
    have hS := all_step (p := restOK m) hi
    have hA := m.at_cases (l[i]'hi).num
    refine Tri.skip ?_
    refine Tri.seq ?_
    refine Tri.blk ?_
    refine Tri.seq ?_
    refine Tri.region ?_
    refine TriL.c1 rfl (op_iak (ltb rfl) ie30_M9 rfl rfl (Int.natCast_nonneg _) (ixm hi) rfl) ?_
    refine TriL.c1 rfl (op_ldk (ltb rfl) lk131_M9 rfl rfl) ?_
    refine TriL.c2 rfl (op_all (ltb rfl) zA131_M9 rfl) ?_
    refine TriL.c1 rfl (op_stl lk131_M9 rfl rfl rfl rfl rfl (leb rfl)) ?_
    refine TriL.nil ?_
    refine Tri.seq ?_
    refine Tri.region ?_
    refine TriL.c1 rfl (op_ldl (ltb rfl) lk131_M9 rfl rfl rfl) ?_
    refine TriL.c1 rfl (op_call (ltb rfl) fn127_M9 rfl (p_rright _)) ?_
    refine TriL.c1 rfl (op_un (ltb rfl) rfl rfl) ?_
    refine TriL.c1 rfl (op_mv (ltb rfl) rfl) ?_
    refine TriL.split (d := 18) rfl (fun hg2 => ?_) (fun hg2 => ?_)
    · refine TriL.skipu rfl rfl (ltb rfl) (ltb rfl) rfl hg2 ?_
      refine TriL.skipu rfl rfl (ltb rfl) (ltb rfl) rfl hg2 ?_
      refine TriL.skipu rfl rfl (ltb rfl) (ltb rfl) rfl hg2 ?_
      refine TriL.c1 rfl (op_pickt (ltb rfl) rfl hg2 rfl) ?_
      refine TriL.nil ?_
      refine Tri.condT rfl rfl ?_
      refine Tri.seq ?_
      refine Tri.region ?_
      refine TriL.c1 rfl (op_as (ltb rfl) rfl) ?_
      refine TriL.nil ?_
      refine Tri.ret ?_
      exact ⟨.inr rfl, (ResOK.r1 rfl (.tmp rfl .nil)).cast (congrArg AV.bool (by grind [restOK])), rfl⟩
    · refine TriL.g1 rfl (ltb rfl) rfl hg2 (op_mv (ltb rfl) rfl) ?_
      refine TriL.g1 rfl (ltb rfl) rfl hg2 (op_ldl (ltb rfl) lk131_M9 rfl rfl rfl) ?_
      refine TriL.g1 rfl (ltb rfl) rfl hg2 (op_callc (ltb rfl) fn126_M9 rfl rfl (p_restk m (l[i]'hi) hm)) ?_
      refine TriL.c1 rfl (op_pickf (ltb rfl) rfl hg2 rfl) ?_
      refine TriL.nil ?_
      refine Tri.cond rfl (fun hc3 => ?_) (fun hc3 => ?_)
      · refine Tri.seq ?_
        refine Tri.region ?_
        refine TriL.c1 rfl (op_as (ltb rfl) rfl) ?_
        refine TriL.nil ?_
        refine Tri.ret ?_
        exact ⟨.inr rfl, (ResOK.r1 rfl (.tmp rfl .nil)).cast (congrArg AV.bool (by grind [restOK])), rfl⟩
      · refine Tri.skip ?_
        refine Tri.region ?_
        refine TriL.c1 rfl (op_bin (ltb rfl) rfl rfl rfl) ?_
        refine TriL.c1 rfl (op_mv (ltb rfl) rfl) ?_
        refine TriL.kept (Kept.seti 11 rfl (inc (by omega)) (Kept.keep [.s 11, .h, .s 5, .s 9, .s 10] rfl (by decide) (Kept.now ?_)))
        exact ⟨i + 1, by omega, by grind [restOK], rfl⟩
  · have hi := gem hc1
    have hS := all_end (p := restOK m) hi
    refine Tri.exit ?_
    refine Tri.seq ?_
    refine Tri.region ?_
    refine TriL.c1 rfl (op_as (ltb rfl) rfl) ?_
    refine TriL.nil ?_
    refine Tri.ret ?_
    exact ⟨.inr rfl, (ResOK.r1 rfl (.tmp rfl .nil)).cast (congrArg AV.bool (by grind [restOK])), rfl⟩
theorem p_slots (s : Sch) (m : Msg) (l : List Slot) (hl : l.length ≤ 9223372036854775807) (hm : m.fields.length ≤ 1000) (ho : ∀ f ∈ m.fields, f.one.length ≤ 1000) (hvals : ∀ x ∈ l, ∀ f : Fld, Pure Tryz.prog 125 [s.av, f.av, .sl (x.vals.map Val.av)] (.bool (decide (0 < x.vals.length) && (f.rep || decide (x.vals.length = 1)) && x.vals.all fun v => v.ok s f && (!f.hidden || (!decide (v.n = 0) || !(v.s == [])))))) : Pure Tryz.prog 79 [s.av, m.av, .sl (l.map Slot.av)] (.bool (slotsOk s m l none [])) := by
  refine Pure.of_tri Tryz.func79 rfl rfl (ltb rfl) fun H => ?_
  refine Tri.seq ?_
  refine Tri.region ?_
  refine TriL.c2 rfl (op_box (ltb rfl) rfl rfl rfl) ?_
  refine TriL.c2 rfl (op_box (ltb rfl) rfl rfl rfl) ?_
  refine TriL.c1 rfl (op_as (ltb rfl) rfl) ?_
  refine TriL.nil ?_
  refine Tri.seq ?_
  refine Tri.region ?_
  refine TriL.c2 rfl (op_mkm (kt := 9) (et := 3) (ltb rfl) rfl) ?_
  refine TriL.c1 rfl (op_as (ltb rfl) rfl) ?_
  refine TriL.nil ?_
  refine Tri.seq ?_
  refine Tri.seq ?_
  refine Tri.region ?_
  refine TriL.c1 rfl (op_mv (ltb rfl) rfl) ?_
  refine TriL.c1 rfl (op_lenl (ltb rfl) un29_M9 rfl) ?_
  refine TriL.c1 rfl (op_mv (ltb rfl) rfl) ?_
  refine TriL.nil ?_
  refine Tri.blk ?_
  refine Tri.ofKept (Kept.keep [.s 15, .b 12, .h, .s 2, .s 3, .b 3, .s 4, .b 4, .s 7, .s 13, .s 14] rfl (by decide) (Kept.now ?_))
  -- LOOP 1
  refine Tri.loopk (fun ((i, f) : Nat × (List UInt8 → Int)) => [(.s 15, .sv (.v (.int .i64 (i : Int)))), (.b 12, .raw (MapSI Tryz.prog 9 3 i f))]) _ (fun ((i, f) : Nat × (List UInt8 → Int)) => (∀ key, f key = ((((l.take i).map m.oneOf).count key : Nat) : Int)) ∧ slotsAt s m l i = slotsOk s m l none []) (fun ((i, f) : Nat × (List UInt8 → Int)) => l.length - i) (0, fun _ => 0) rfl ⟨by simp, slotsAt_zero s m l⟩ ?_
  rintro ⟨i, f⟩ ⟨hf, hI⟩
  refine Tri.seq ?_
  refine Tri.region ?_
  refine TriL.c1 rfl (op_bin (ltb rfl) rfl rfl rfl) ?_
  refine TriL.nil ?_
  refine Tri.seq ?_
  refine Tri.cond rfl (fun hc1 => ?_) (fun hc1 => ?_)
  · have hi := ltm hc1
    have hS := @slotsAt_step s m l i hi
    refine Tri.skip ?_
    refine Tri.seq ?_
    refine Tri.blk ?_
    refine Tri.seq ?_
    refine Tri.region ?_
    refine TriL.c1 rfl (op_mv (ltb rfl) rfl) ?_
    refine TriL.c1 rfl (op_iak (ltb rfl) ie29_M9 rfl rfl (Int.natCast_nonneg _) (ixmE Slot.av_eq hi) rfl) ?_
    refine TriL.c1 rfl (op_ldk (ltb rfl) lk83_M9 rfl rfl) ?_
    refine TriL.c2 rfl (op_all (ltb rfl) zA83_M9 rfl) ?_
    refine TriL.c1 rfl (op_as (ltb rfl) rfl) ?_
    refine TriL.c1 rfl (op_stl lk83_M9 rfl rfl rfl rfl rfl (leb rfl)) ?_
    refine TriL.nil ?_
    refine Tri.seq ?_
    refine Tri.region ?_
    refine TriL.c1 rfl (op_ldl (ltb rfl) lk78_M9 rfl rfl rfl) ?_
    refine TriL.c1 rfl (op_fal (ltb rfl) fo83_0_M9 rfl) ?_
    refine TriL.c1 rfl (op_ldl (ltb rfl) lk3_M9 rfl rfl rfl) ?_
    refine TriL.c1 rfl (op_call (ltb rfl) fn84_M9 rfl (p_number _ _ (by omega))) ?_
    refine TriL.c1 rfl (op_as (ltb rfl) rfl) ?_
    refine TriL.nil ?_
    refine Tri.joinu [.h, .s 2, .s 3, .b 3, .s 4, .b 4, .s 7, .b 12, .s 10, .s 13, .s 14, .s 15] (fun (_ : Unit) => []) (fun (_ : Unit) => decide (m.at (l[i]'hi).num < 0) = false ∧ (match lastN l i with | none => true | some n => decide (n < (l[i]'hi).num)) = true ∧ (l[i]'hi).ok s m = true) rfl ?_ ?_
    · refine Tri.seq ?_
      refine Tri.drawn mixed rfl ?_
      refine TriD.c1 rfl (op_mv (ltb rfl) rfl) ?_
      refine TriD.c1 rfl (op_bin (ltb rfl) rfl rfl rfl) ?_
      refine TriD.c1 rfl (op_mv (ltb rfl) rfl) ?_
      refine TriD.split (d := 26) rfl (fun hg2 => ?_) (fun hg2 => ?_)
      · refine TriD.skipu rfl rfl (ltb rfl) (ltb rfl) rfl hg2 ?_
        refine TriD.skipu rfl rfl (ltb rfl) (ltb rfl) rfl hg2 ?_
        refine TriD.skipu rfl rfl (ltb rfl) (ltb rfl) rfl hg2 ?_
        refine TriD.skipg rfl rfl (ltb rfl) (ltb rfl) rfl ?_
        refine TriD.skipg rfl rfl (ltb rfl) (ltb rfl) rfl ?_
        refine TriD.skipg rfl rfl (ltb rfl) (ltb rfl) rfl ?_
        refine TriD.skipg rfl rfl (ltb rfl) (ltb rfl) rfl ?_
        refine TriD.skipg rfl rfl (ltb rfl) (ltb rfl) rfl ?_
        refine TriD.skipg rfl rfl (ltb rfl) (ltb rfl) rfl ?_
        refine TriD.skipg rfl rfl (ltb rfl) (ltb rfl) rfl ?_
        refine TriD.skipg rfl rfl (ltb rfl) (ltb rfl) rfl ?_
        refine TriD.skipg rfl rfl (ltb rfl) (ltb rfl) rfl ?_
        refine TriD.skipu rfl rfl (ltb rfl) (ltb rfl) rfl hg2 ?_
        refine TriD.c1 rfl (op_pickt (ltb rfl) rfl hg2 rfl) ?_
        refine TriD.c1 rfl (op_mv (ltb rfl) rfl) ?_
        refine TriD.skipu rfl rfl (ltb rfl) (ltb rfl) rfl rfl ?_
        refine TriD.skipu rfl rfl (ltb rfl) (ltb rfl) rfl rfl ?_
        refine TriD.skipu rfl rfl (ltb rfl) (ltb rfl) rfl rfl ?_
        refine TriD.skipu rfl rfl (ltb rfl) (ltb rfl) rfl rfl ?_
        refine TriD.skipu rfl rfl (ltb rfl) (ltb rfl) rfl rfl ?_
        refine TriD.skipu rfl rfl (ltb rfl) (ltb rfl) rfl rfl ?_
        refine TriD.skipu rfl rfl (ltb rfl) (ltb rfl) rfl rfl ?_
        refine TriD.skipu rfl rfl (ltb rfl) (ltb rfl) rfl rfl ?_
        refine TriD.skipu rfl rfl (ltb rfl) (ltb rfl) rfl rfl ?_
        refine TriD.skipu rfl rfl (ltb rfl) (ltb rfl) rfl rfl ?_
        refine TriD.c1 rfl (op_pickt (ltb rfl) rfl rfl rfl) ?_
        refine TriD.nil (by kernel_rfl) (Kept.now ?_)
        refine Tri.condT rfl rfl ?_
        refine Tri.seq ?_
        refine Tri.region ?_
        refine TriL.c1 rfl (op_as (ltb rfl) rfl) ?_
        refine TriL.nil ?_
        refine Tri.ret ?_
        exact ⟨.inr rfl, (ResOK.r1 rfl (.tmp rfl .nil)).cast (congrArg AV.bool (by have hO : (l[i]'hi).ok s m = false := (by rw [Slot.ok_eq, Msg.at_no hg2]); grind)), rfl⟩
      · refine TriD.g1 rfl (ltb rfl) rfl hg2 (op_mv (ltb rfl) rfl) ?_
        refine TriD.g1 rfl (ltb rfl) rfl hg2 (op_bin (ltb rfl) rfl rfl rfl) ?_
        refine TriD.g1 rfl (ltb rfl) rfl hg2 (op_mv (ltb rfl) rfl) ?_
        refine TriD.split (d := 29) rfl (fun hg3 => ?_) (fun hg3 => ?_)
        · refine TriD.g1 rfl (ltb rfl) rfl hg3 (op_mv (ltb rfl) rfl) ?_
          refine TriD.g1 rfl (ltb rfl) rfl hg3 (op_mv (ltb rfl) rfl) ?_
          refine TriD.g1 rfl (ltb rfl) rfl hg3 (op_bin (ltb rfl) rfl rfl rfl) ?_
          refine TriD.g1 rfl (ltb rfl) rfl hg3 (op_iak (ltb rfl) ie29_M9 rfl rfl (by rw [dec1 (by have := of_decide_eq_true hg3; omega) (by omega)]; exact Int.natCast_nonneg _) (ixmE1 Slot.av_eq (dec1 (by have := of_decide_eq_true hg3; omega) (by omega)) (show i - 1 < l.length by omega)) rfl) ?_
          refine TriD.g1 rfl (ltb rfl) rfl hg3 (op_fak (ltb rfl) fo83_0_M9 rfl) ?_
          refine TriD.g1 rfl (ltb rfl) rfl hg3 (op_ldk (ltb rfl) lk3_M9 rfl rfl) ?_
          refine TriD.g1 rfl (ltb rfl) rfl hg3 (op_fal (ltb rfl) fo83_0_M9 rfl) ?_
          refine TriD.g1 rfl (ltb rfl) rfl hg3 (op_ldl (ltb rfl) lk3_M9 rfl rfl rfl) ?_
          refine TriD.g1 rfl (ltb rfl) rfl hg3 (op_bin (ltb rfl) rfl rfl rfl) ?_
          refine TriD.g1 rfl (ltb rfl) rfl hg2 (op_pickt (ltb rfl) rfl hg3 rfl) ?_
          refine TriD.c1 rfl (op_pickf (ltb rfl) rfl hg2 rfl) ?_
          refine TriD.c1 rfl (op_mv (ltb rfl) rfl) ?_
          refine TriD.split (d := 41) rfl (fun hg4 => ?_) (fun hg4 => ?_)
          · refine TriD.skipu rfl rfl (ltb rfl) (ltb rfl) rfl hg4 ?_
            refine TriD.skipu rfl rfl (ltb rfl) (ltb rfl) rfl hg4 ?_
            refine TriD.skipu rfl rfl (ltb rfl) (ltb rfl) rfl hg4 ?_
            refine TriD.skipu rfl rfl (ltb rfl) (ltb rfl) rfl hg4 ?_
            refine TriD.skipu rfl rfl (ltb rfl) (ltb rfl) rfl hg4 ?_
            refine TriD.skipu rfl rfl (ltb rfl) (ltb rfl) rfl hg4 ?_
            refine TriD.skipu rfl rfl (ltb rfl) (ltb rfl) rfl hg4 ?_
            refine TriD.skipu rfl rfl (ltb rfl) (ltb rfl) rfl hg4 ?_
            refine TriD.skipu rfl rfl (ltb rfl) (ltb rfl) rfl hg4 ?_
            refine TriD.skipu rfl rfl (ltb rfl) (ltb rfl) rfl hg4 ?_
            refine TriD.c1 rfl (op_pickt (ltb rfl) rfl hg4 rfl) ?_
            refine TriD.nil (by kernel_rfl) (Kept.now ?_)
            refine Tri.condT rfl rfl ?_
            refine Tri.seq ?_
            refine Tri.region ?_
            refine TriL.c1 rfl (op_as (ltb rfl) rfl) ?_
            refine TriL.nil ?_
            refine Tri.ret ?_
            exact ⟨.inr rfl, (ResOK.r1 rfl (.tmp rfl .nil)).cast (congrArg AV.bool (by rw [lastN_pos (by have := of_decide_eq_true hg3; omega) hi] at hS; grind)), rfl⟩
          · refine TriD.g1 rfl (ltb rfl) rfl hg4 (op_ldl (ltb rfl) lk25_M9 rfl rfl rfl) ?_
            refine TriD.g1 rfl (ltb rfl) rfl hg4 (op_fal (ltb rfl) fo78_1_M9 rfl) ?_
            refine TriD.g1 rfl (ltb rfl) rfl hg4 (op_ldl (ltb rfl) lk76_M9 rfl rfl rfl) ?_
            refine TriD.g1 rfl (ltb rfl) rfl hg4 (op_mv (ltb rfl) rfl) ?_
            refine TriD.g1 rfl (ltb rfl) rfl hg4 (op_iak (ltb rfl) ie76_M9 rfl rfl (Msg.at_nn hg2) (ixm1 (Msg.at_eq hg2) (Msg.at_lt hg2)) rfl) ?_
            refine TriD.g1 rfl (ltb rfl) rfl hg4 (op_ldk (ltb rfl) lk98_M9 rfl rfl) ?_
            refine TriD.g1 rfl (ltb rfl) rfl hg4 (op_fal (ltb rfl) fo83_1_M9 rfl) ?_
            refine TriD.g1 rfl (ltb rfl) rfl hg4 (op_ldl (ltb rfl) lk81_M9 rfl rfl rfl) ?_
            refine TriD.g1 rfl (ltb rfl) rfl hg4 (op_call (ltb rfl) fn125_M9 rfl (hvals _ (List.getElem_mem hi) _)) ?_
            refine TriD.g1 rfl (ltb rfl) rfl hg4 (op_un (ltb rfl) rfl rfl) ?_
            refine TriD.c1 rfl (op_pickf (ltb rfl) rfl hg4 rfl) ?_
            refine TriD.nil (by kernel_rfl) (Kept.now ?_)
            refine Tri.cond rfl (fun hc5 => ?_) (fun hc5 => ?_)
            · refine Tri.seq ?_
              refine Tri.region ?_
              refine TriL.c1 rfl (op_as (ltb rfl) rfl) ?_
              refine TriL.nil ?_
              refine Tri.ret ?_
              exact ⟨.inr rfl, (ResOK.r1 rfl (.tmp rfl .nil)).cast (congrArg AV.bool (by have hO : (l[i]'hi).ok s m = false := (by rw [Slot.ok_vals (Msg.at_fix hg2)]; exact ntr hc5); grind)), rfl⟩
            · refine Tri.ofKept (Kept.keep [.h, .s 2, .s 3, .b 3, .s 4, .b 4, .s 7, .b 12, .s 10, .s 13, .s 14, .s 15] rfl (by decide) (Kept.now ?_))
              refine Tri.skip ?_
              exact ⟨(), ⟨hg2, by rw [lastN_pos (by have := of_decide_eq_true hg3; omega) hi]; simpa using hg4, by rw [Slot.ok_vals (Msg.at_fix hg2)]; exact nfl hc5⟩, rfl⟩
        · refine TriD.skipu rfl rfl (ltb rfl) (ltb rfl) rfl hg3 ?_
          refine TriD.skipu rfl rfl (ltb rfl) (ltb rfl) rfl hg3 ?_
          refine TriD.skipu rfl rfl (ltb rfl) (ltb rfl) rfl hg3 ?_
          refine TriD.skipu rfl rfl (ltb rfl) (ltb rfl) rfl hg3 ?_
          refine TriD.skipu rfl rfl (ltb rfl) (ltb rfl) rfl hg3 ?_
          refine TriD.skipu rfl rfl (ltb rfl) (ltb rfl) rfl hg3 ?_
          refine TriD.skipu rfl rfl (ltb rfl) (ltb rfl) rfl hg3 ?_
          refine TriD.skipu rfl rfl (ltb rfl) (ltb rfl) rfl hg3 ?_
          refine TriD.skipu rfl rfl (ltb rfl) (ltb rfl) rfl hg3 ?_
          refine TriD.g1 rfl (ltb rfl) rfl hg2 (op_pickf (ltb rfl) rfl hg3 rfl) ?_
          refine TriD.c1 rfl (op_pickf (ltb rfl) rfl hg2 rfl) ?_
          refine TriD.c1 rfl (op_mv (ltb rfl) rfl) ?_
          refine TriD.g1 rfl (ltb rfl) rfl rfl (op_ldl (ltb rfl) lk25_M9 rfl rfl rfl) ?_
          refine TriD.g1 rfl (ltb rfl) rfl rfl (op_fal (ltb rfl) fo78_1_M9 rfl) ?_
          refine TriD.g1 rfl (ltb rfl) rfl rfl (op_ldl (ltb rfl) lk76_M9 rfl rfl rfl) ?_
          refine TriD.g1 rfl (ltb rfl) rfl rfl (op_mv (ltb rfl) rfl) ?_
          refine TriD.g1 rfl (ltb rfl) rfl rfl (op_iak (ltb rfl) ie76_M9 rfl rfl (Msg.at_nn hg2) (ixm1 (Msg.at_eq hg2) (Msg.at_lt hg2)) rfl) ?_
          refine TriD.g1 rfl (ltb rfl) rfl rfl (op_ldk (ltb rfl) lk98_M9 rfl rfl) ?_
          refine TriD.g1 rfl (ltb rfl) rfl rfl (op_fal (ltb rfl) fo83_1_M9 rfl) ?_
          refine TriD.g1 rfl (ltb rfl) rfl rfl (op_ldl (ltb rfl) lk81_M9 rfl rfl rfl) ?_
          refine TriD.g1 rfl (ltb rfl) rfl rfl (op_call (ltb rfl) fn125_M9 rfl (hvals _ (List.getElem_mem hi) _)) ?_
          refine TriD.g1 rfl (ltb rfl) rfl rfl (op_un (ltb rfl) rfl rfl) ?_
          refine TriD.c1 rfl (op_pickf (ltb rfl) rfl rfl rfl) ?_
          refine TriD.nil (by kernel_rfl) (Kept.now ?_)
          refine Tri.cond rfl (fun hc6 => ?_) (fun hc6 => ?_)
          · refine Tri.seq ?_
            refine Tri.region ?_
            refine TriL.c1 rfl (op_as (ltb rfl) rfl) ?_
            refine TriL.nil ?_
            refine Tri.ret ?_
            exact ⟨.inr rfl, (ResOK.r1 rfl (.tmp rfl .nil)).cast (congrArg AV.bool (by have hO : (l[i]'hi).ok s m = false := (by rw [Slot.ok_vals (Msg.at_fix hg2)]; exact ntr hc6); grind)), rfl⟩
          · refine Tri.ofKept (Kept.keep [.h, .s 2, .s 3, .b 3, .s 4, .b 4, .s 7, .b 12, .s 10, .s 13, .s 14, .s 15] rfl (by decide) (Kept.now ?_))
            refine Tri.skip ?_
            exact ⟨(), ⟨hg2, by have h0 : i = 0 := (by have := of_decide_eq_false hg3; omega); subst h0; rw [lastN_zero], by rw [Slot.ok_vals (Msg.at_fix hg2)]; exact nfl hc6⟩, rfl⟩
    · rintro _ hF8
      refine Tri.seq ?_
      refine Tri.region ?_
      refine TriL.c1 rfl (op_fal (ltb rfl) fo78_1_M9 rfl) ?_
      refine TriL.c1 rfl (op_ldl (ltb rfl) lk76_M9 rfl rfl rfl) ?_
      refine TriL.c1 rfl (op_mv (ltb rfl) rfl) ?_
      refine TriL.c1 rfl (op_iak (ltb rfl) ie76_M9 rfl rfl (Msg.at_nn hF8.1) (ixm1 (Msg.at_eq hF8.1) (Msg.at_lt hF8.1)) rfl) ?_
      refine TriL.c1 rfl (op_fak (ltb rfl) fo98_6_M9 rfl) ?_
      refine TriL.c1 rfl (op_ldk (ltb rfl) lk9_M9 rfl rfl) ?_
      refine TriL.c1 rfl (op_as (ltb rfl) rfl) ?_
      refine TriL.nil ?_
      refine Tri.seq ?_
      refine Tri.region ?_
      refine TriL.c1 rfl (op_mv (ltb rfl) rfl) ?_
      refine TriL.c1 rfl (op_mv (ltb rfl) rfl) ?_
      refine TriL.c1 rfl (op_lku (ltb rfl) un186_M9 un9_M9 un3_M9 zv3_M9 rfl rfl rfl (by have := ho _ (List.getElem_mem (Msg.at_lt hF8.1)); omega)) ?_
      refine TriL.c1 rfl (op_bin (ltb rfl) rfl rfl rfl) ?_
      refine TriL.c1 rfl (op_mpu un186_M9 un9_M9 un3_M9 rfl rfl rfl rfl (by have := ho _ (List.getElem_mem (Msg.at_lt hF8.1)); omega) (by omega) (wf64 _)) ?_
      refine TriL.nil ?_
      refine Tri.seq ?_
      refine Tri.region ?_
      refine TriL.c1 rfl (op_mv (ltb rfl) rfl) ?_
      refine TriL.c1 rfl (op_bin (ltb rfl) rfl rfl rfl) ?_
      refine TriL.c1 rfl (op_mv (ltb rfl) rfl) ?_
      refine TriL.split (d := 65) rfl (fun hg7 => ?_) (fun hg7 => ?_)
      · refine TriL.g1 rfl (ltb rfl) rfl hg7 (op_mv (ltb rfl) rfl) ?_
        refine TriL.g1 rfl (ltb rfl) rfl hg7 (op_mv (ltb rfl) rfl) ?_
        refine TriL.g1 rfl (ltb rfl) rfl hg7 (op_lku (ltb rfl) un186_M9 un9_M9 un3_M9 zv3_M9 rfl rfl rfl (by have := ho _ (List.getElem_mem (Msg.at_lt hF8.1)); omega)) ?_
        refine TriL.g1 rfl (ltb rfl) rfl hg7 (op_bin (ltb rfl) rfl rfl rfl) ?_
        refine TriL.c1 rfl (op_pickt (ltb rfl) rfl hg7 rfl) ?_
        refine TriL.nil ?_
        refine Tri.cond rfl (fun hc8 => ?_) (fun hc8 => ?_)
        · refine Tri.seq ?_
          refine Tri.region ?_
          refine TriL.c1 rfl (op_as (ltb rfl) rfl) ?_
          refine TriL.nil ?_
          refine Tri.ret ?_
          exact ⟨.inr rfl, (ResOK.r1 rfl (.tmp rfl .nil)).cast (congrArg AV.bool (by have hN := @cnt_new m l i f (m.fields[m.ixN (l[i]'hi).num]'(Msg.at_lt hF8.1)).one hf (by omega); have hX : (1 < IntKind.i64.wrap (f (m.fields[m.ixN (l[i]'hi).num]'(Msg.at_lt hF8.1)).one + 1)) := (by simpa using hc8); have hQ : newOne ((l.take i).map m.oneOf) (m.oneOf (l[i]'hi)) = false := (by rw [oneOf_fix (Msg.at_fix hF8.1)]; unfold newOne; rw [← hN]; simp [hX]; simpa using hg7); grind)), rfl⟩
        · refine Tri.skip ?_
          refine Tri.region ?_
          refine TriL.c1 rfl (op_bin (ltb rfl) rfl rfl rfl) ?_
          refine TriL.c1 rfl (op_mv (ltb rfl) rfl) ?_
          refine TriL.kept (Kept.seti 15 rfl (inc (by omega)) (Kept.keep [.s 15, .b 12, .h, .s 2, .s 3, .b 3, .s 4, .b 4, .s 7, .s 13, .s 14] rfl (by decide) (Kept.now ?_)))
          have hN := @cnt_new m l i f (m.fields[m.ixN (l[i]'hi).num]'(Msg.at_lt hF8.1)).one hf (by omega)
          have hX : ¬ (1 < IntKind.i64.wrap (f (m.fields[m.ixN (l[i]'hi).num]'(Msg.at_lt hF8.1)).one + 1)) := by simpa using hc8
          have hQ : newOne ((l.take i).map m.oneOf) (m.oneOf (l[i]'hi)) = true := by rw [oneOf_fix (Msg.at_fix hF8.1)]; unfold newOne; rw [← hN]; simp [hX]
          exact ⟨(i + 1, _), (by dsimp only; omega), ⟨cnt_step hi hf (oneOf_fix (Msg.at_fix hF8.1)) (by omega), by grind⟩, rfl⟩
      · refine TriL.skipu rfl rfl (ltb rfl) (ltb rfl) rfl hg7 ?_
        refine TriL.skipu rfl rfl (ltb rfl) (ltb rfl) rfl hg7 ?_
        refine TriL.skipu rfl rfl (ltb rfl) (ltb rfl) rfl hg7 ?_
        refine TriL.skipu rfl rfl (ltb rfl) (ltb rfl) rfl hg7 ?_
        refine TriL.c1 rfl (op_pickf (ltb rfl) rfl hg7 rfl) ?_
        refine TriL.nil ?_
        refine Tri.condF rfl rfl ?_
        refine Tri.skip ?_
        refine Tri.region ?_
        refine TriL.c1 rfl (op_bin (ltb rfl) rfl rfl rfl) ?_
        refine TriL.c1 rfl (op_mv (ltb rfl) rfl) ?_
        refine TriL.kept (Kept.seti 15 rfl (inc (by omega)) (Kept.keep [.s 15, .b 12, .h, .s 2, .s 3, .b 3, .s 4, .b 4, .s 7, .s 13, .s 14] rfl (by decide) (Kept.now ?_)))
        have hQ : newOne ((l.take i).map m.oneOf) (m.oneOf (l[i]'hi)) = true := by rw [oneOf_fix (Msg.at_fix hF8.1)]; unfold newOne; simp at hg7; simp [hg7]
        exact ⟨(i + 1, _), (by dsimp only; omega), ⟨cnt_step hi hf (oneOf_fix (Msg.at_fix hF8.1)) (by omega), by grind⟩, rfl⟩
  · have hi := gem hc1
    have hS := @slotsAt_end s m l i hi
    refine Tri.exit ?_
    refine Tri.seq ?_
    refine Tri.region ?_
    refine TriL.c1 rfl (op_as (ltb rfl) rfl) ?_
    refine TriL.nil ?_
    refine Tri.ret ?_
    exact ⟨.inr rfl, (ResOK.r1 rfl (.tmp rfl .nil)).cast (congrArg AV.bool (by grind [])), rfl⟩
end Go.Proofs.YtnpgcmeclkncnaaGreatDoor.X
/- which values are values of a message of a schema, in the program and in the document. -/
set_option linter.unusedVariables false
set_option linter.unusedSimpArgs false
set_option linter.unusedSectionVars false
set_option maxRecDepth 100000
namespace Go.Proofs.YtnpgcmeclkncnaaGreatDoor.X
open Go Go.RowKit Go.Proofs
theorem fn45_MA : isFn Tryz.prog 45 = true := by kernel_rfl
theorem fn79_MA : isFn Tryz.prog 79 = true := by kernel_rfl
theorem fn80_MA : isFn Tryz.prog 80 = true := by kernel_rfl
theorem fo25_1_MA : fo Tryz.prog 25 1 = some 1 := by kernel_rfl
theorem fo32_0_MA : fo Tryz.prog 32 0 = some 0 := by kernel_rfl
theorem fo32_1_MA : fo Tryz.prog 32 1 = some 1 := by kernel_rfl
theorem ie23_MA : ie Tryz.prog 23 = some 3 := by kernel_rfl
theorem lk23_MA : lk Tryz.prog 23 = some (false, 1) := by kernel_rfl
theorem lk25_MA : lk Tryz.prog 25 = some (true, 2) := by kernel_rfl
theorem lk29_MA : lk Tryz.prog 29 = some (false, 1) := by kernel_rfl
theorem lk30_MA : lk Tryz.prog 30 = some (false, 1) := by kernel_rfl
theorem lk78_MA : lk Tryz.prog 78 = some (true, 3) := by kernel_rfl
theorem p_tree1 (s : Sch) (hs : s.fine) (name : Str) (t : Tree) (hb : t.big) (ih : ∀ x ∈ t.slots, ∀ v ∈ x.vals, ∀ u ∈ v.m, ∀ name : Str, Pure Tryz.prog 46 [s.av, .str name, .agg u.cells] (.bool (u.ok s name))) : Pure Tryz.prog 46 [s.av, .str name, .agg t.cells] (.bool (t.ok s name)) := by
  have hsm := hs.m
  have hT := t.ok_eq s name
  refine Pure.of_tri Tryz.func46 rfl rfl (ltb rfl) fun H => ?_
  refine Tri.seq ?_
  refine Tri.region ?_
  refine TriL.c2 rfl (op_box (ltb rfl) rfl rfl rfl) ?_
  refine TriL.c2 rfl (op_box (ltb rfl) rfl rfl rfl) ?_
  refine TriL.c1 rfl (op_as (ltb rfl) rfl) ?_
  refine TriL.nil ?_
  refine Tri.seq ?_
  refine Tri.region ?_
  refine TriL.c1 rfl (op_ldl (ltb rfl) lk25_MA rfl rfl rfl) ?_
  refine TriL.c1 rfl (op_mv (ltb rfl) rfl) ?_
  refine TriL.c1 rfl (op_call (ltb rfl) fn45_MA rfl (p_msgIx _ _ (by omega))) ?_
  refine TriL.c1 rfl (op_as (ltb rfl) rfl) ?_
  refine TriL.nil ?_
  refine Tri.seq ?_
  refine Tri.drawn mixed rfl ?_
  refine TriD.c1 rfl (op_mv (ltb rfl) rfl) ?_
  refine TriD.c1 rfl (op_bin (ltb rfl) rfl rfl rfl) ?_
  refine TriD.c1 rfl (op_mv (ltb rfl) rfl) ?_
  refine TriD.split (d := 13) rfl (fun hg1 => ?_) (fun hg1 => ?_)
  · refine TriD.g1 rfl (ltb rfl) rfl hg1 (op_ldl (ltb rfl) lk25_MA rfl rfl rfl) ?_
    refine TriD.g1 rfl (ltb rfl) rfl hg1 (op_fal (ltb rfl) fo25_1_MA rfl) ?_
    refine TriD.g1 rfl (ltb rfl) rfl hg1 (op_ldl (ltb rfl) lk23_MA rfl rfl rfl) ?_
    refine TriD.g1 rfl (ltb rfl) rfl hg1 (op_mv (ltb rfl) rfl) ?_
    refine TriD.g1 rfl (ltb rfl) rfl hg1 (op_iak (ltb rfl) ie23_MA rfl rfl (Sch.ix_nn (dge hg1)) (ixm1 (Sch.ix_eq (dge hg1)) (Sch.ix_lt (dge hg1))) rfl) ?_
    refine TriD.g1 rfl (ltb rfl) rfl hg1 (op_ldk (ltb rfl) lk78_MA rfl rfl) ?_
    refine TriD.g1 rfl (ltb rfl) rfl hg1 (op_fal (ltb rfl) fo32_0_MA rfl) ?_
    refine TriD.g1 rfl (ltb rfl) rfl hg1 (op_ldl (ltb rfl) lk29_MA rfl rfl rfl) ?_
    refine TriD.g1 rfl (ltb rfl) rfl hg1 (op_call (ltb rfl) fn79_MA rfl (p_slots _ _ _ hb.here.s (hs.f _ (List.getElem_mem (Sch.ix_lt (dge hg1)))) (hs.o _ (List.getElem_mem (Sch.ix_lt (dge hg1)))) (fun x hx f => p_vals _ _ _ (hb.here.v _ hx) (hb.here.vs _ hx) (ih _ hx)))) ?_
    refine TriD.c1 rfl (op_pickt (ltb rfl) rfl hg1 rfl) ?_
    refine TriD.c1 rfl (op_mv (ltb rfl) rfl) ?_
    refine TriD.split (d := 24) rfl (fun hg2 => ?_) (fun hg2 => ?_)
    · refine TriD.g1 rfl (ltb rfl) rfl hg2 (op_fal (ltb rfl) fo25_1_MA rfl) ?_
      refine TriD.g1 rfl (ltb rfl) rfl hg2 (op_ldl (ltb rfl) lk23_MA rfl rfl rfl) ?_
      refine TriD.g1 rfl (ltb rfl) rfl hg2 (op_mv (ltb rfl) rfl) ?_
      refine TriD.g1 rfl (ltb rfl) rfl hg2 (op_iak (ltb rfl) ie23_MA rfl rfl (Sch.ix_nn (dge hg1)) (ixm1 (Sch.ix_eq (dge hg1)) (Sch.ix_lt (dge hg1))) rfl) ?_
      refine TriD.g1 rfl (ltb rfl) rfl hg2 (op_ldk (ltb rfl) lk78_MA rfl rfl) ?_
      refine TriD.g1 rfl (ltb rfl) rfl hg2 (op_fal (ltb rfl) fo32_1_MA rfl) ?_
      refine TriD.g1 rfl (ltb rfl) rfl hg2 (op_ldl (ltb rfl) lk30_MA rfl rfl rfl) ?_
      refine TriD.g1 rfl (ltb rfl) rfl hg2 (op_call (ltb rfl) fn80_MA rfl (p_rest _ _ hb.here.r (hs.f _ (List.getElem_mem (Sch.ix_lt (dge hg1)))))) ?_
      refine TriD.c1 rfl (op_pickt (ltb rfl) rfl hg2 rfl) ?_
      refine TriD.c1 rfl (op_as (ltb rfl) rfl) ?_
      refine TriD.nil (by kernel_rfl) (Kept.now ?_)
      refine Tri.ret ?_
      exact ⟨.inr rfl, (ResOK.r1 rfl (.tmp rfl .nil)).cast (congrArg AV.bool (by rw [hT, Sch.ix_at (dge hg1)]; grind)), rfl⟩
    · refine TriD.skipu rfl rfl (ltb rfl) (ltb rfl) rfl hg2 ?_
      refine TriD.skipu rfl rfl (ltb rfl) (ltb rfl) rfl hg2 ?_
      refine TriD.skipu rfl rfl (ltb rfl) (ltb rfl) rfl hg2 ?_
      refine TriD.skipu rfl rfl (ltb rfl) (ltb rfl) rfl hg2 ?_
      refine TriD.skipu rfl rfl (ltb rfl) (ltb rfl) rfl hg2 ?_
      refine TriD.skipu rfl rfl (ltb rfl) (ltb rfl) rfl hg2 ?_
      refine TriD.skipu rfl rfl (ltb rfl) (ltb rfl) rfl hg2 ?_
      refine TriD.skipu rfl rfl (ltb rfl) (ltb rfl) rfl hg2 ?_
      refine TriD.c1 rfl (op_pickf (ltb rfl) rfl hg2 rfl) ?_
      refine TriD.c1 rfl (op_as (ltb rfl) rfl) ?_
      refine TriD.nil (by kernel_rfl) (Kept.now ?_)
      refine Tri.ret ?_
      exact ⟨.inr rfl, (ResOK.r1 rfl (.tmp rfl .nil)).cast (congrArg AV.bool (by rw [hT, Sch.ix_at (dge hg1)]; grind)), rfl⟩
  · refine TriD.skipu rfl rfl (ltb rfl) (ltb rfl) rfl hg1 ?_
    refine TriD.skipu rfl rfl (ltb rfl) (ltb rfl) rfl hg1 ?_
    refine TriD.skipu rfl rfl (ltb rfl) (ltb rfl) rfl hg1 ?_
    refine TriD.skipu rfl rfl (ltb rfl) (ltb rfl) rfl hg1 ?_
    refine TriD.skipu rfl rfl (ltb rfl) (ltb rfl) rfl hg1 ?_
    refine TriD.skipu rfl rfl (ltb rfl) (ltb rfl) rfl hg1 ?_
    refine TriD.skipu rfl rfl (ltb rfl) (ltb rfl) rfl hg1 ?_
    refine TriD.skipu rfl rfl (ltb rfl) (ltb rfl) rfl hg1 ?_
    refine TriD.skipu rfl rfl (ltb rfl) (ltb rfl) rfl hg1 ?_
    refine TriD.c1 rfl (op_pickf (ltb rfl) rfl hg1 rfl) ?_
    refine TriD.c1 rfl (op_mv (ltb rfl) rfl) ?_
    refine TriD.skipu rfl rfl (ltb rfl) (ltb rfl) rfl rfl ?_
    refine TriD.skipu rfl rfl (ltb rfl) (ltb rfl) rfl rfl ?_
    refine TriD.skipu rfl rfl (ltb rfl) (ltb rfl) rfl rfl ?_
    refine TriD.skipu rfl rfl (ltb rfl) (ltb rfl) rfl rfl ?_
    refine TriD.skipu rfl rfl (ltb rfl) (ltb rfl) rfl rfl ?_
    refine TriD.skipu rfl rfl (ltb rfl) (ltb rfl) rfl rfl ?_
    refine TriD.skipu rfl rfl (ltb rfl) (ltb rfl) rfl rfl ?_
    refine TriD.skipu rfl rfl (ltb rfl) (ltb rfl) rfl rfl ?_
    refine TriD.c1 rfl (op_pickf (ltb rfl) rfl rfl rfl) ?_
    refine TriD.c1 rfl (op_as (ltb rfl) rfl) ?_
    refine TriD.nil (by kernel_rfl) (Kept.now ?_)
    refine Tri.ret ?_
    exact ⟨.inr rfl, (ResOK.r1 rfl (.tmp rfl .nil)).cast (congrArg AV.bool (by rw [hT, Sch.ix_no (dlt hg1)])), rfl⟩
theorem p_tree (s : Sch) (hs : s.fine) (t : Tree) (hb : t.big) (name : Str) : Pure Tryz.prog 46 [s.av, .str name, .agg t.cells] (.bool (t.ok s name)) :=
  Tree.ind (Q := fun t => t.big → ∀ name : Str, Pure Tryz.prog 46 [s.av, .str name, .agg t.cells] (.bool (t.ok s name))) (fun t ih hb name => p_tree1 s hs name t hb (fun x hx v hv u hu => ih x hx v hv u hu (hb.sub hu hv hx))) t hb name
end Go.Proofs.YtnpgcmeclkncnaaGreatDoor.X
/- how deep a value is, in the program. -/
set_option linter.unusedVariables false
set_option linter.unusedSimpArgs false
set_option linter.unusedSectionVars false
set_option maxRecDepth 100000
namespace Go.Proofs.YtnpgcmeclkncnaaGreatDoor.X
open Go Go.RowKit Go.Proofs
theorem fn47_MB : isFn Tryz.prog 47 = true := by kernel_rfl
theorem fn81_MB : isFn Tryz.prog 81 = true := by kernel_rfl
theorem fn82_MB : isFn Tryz.prog 82 = true := by kernel_rfl
theorem fo32_0_MB : fo Tryz.prog 32 0 = some 0 := by kernel_rfl
theorem fo83_1_MB : fo Tryz.prog 83 1 = some 1 := by kernel_rfl
theorem fo86_2_MB : fo Tryz.prog 86 2 = some 2 := by kernel_rfl
theorem ie29_MB : ie Tryz.prog 29 = some 2 := by kernel_rfl
theorem ie63_MB : ie Tryz.prog 63 = some 2 := by kernel_rfl
theorem ie81_MB : ie Tryz.prog 81 = some 3 := by kernel_rfl
theorem lk29_MB : lk Tryz.prog 29 = some (false, 1) := by kernel_rfl
theorem lk3_MB : lk Tryz.prog 3 = some (false, 1) := by kernel_rfl
theorem lk32_MB : lk Tryz.prog 32 = some (true, 2) := by kernel_rfl
theorem lk63_MB : lk Tryz.prog 63 = some (false, 1) := by kernel_rfl
theorem lk81_MB : lk Tryz.prog 81 = some (false, 1) := by kernel_rfl
theorem lk83_MB : lk Tryz.prog 83 = some (true, 2) := by kernel_rfl
theorem lk86_MB : lk Tryz.prog 86 = some (true, 3) := by kernel_rfl
theorem un29_MB : Tryz.prog.underlying 29 = some (TypeDesc.slice 83) := Tryz.underlying29
theorem un63_MB : Tryz.prog.underlying 63 = some (TypeDesc.slice 32) := Tryz.underlying63
theorem un81_MB : Tryz.prog.underlying 81 = some (TypeDesc.slice 86) := Tryz.underlying81
theorem zA3_MB : zeroA Tryz.prog 3 = some [AV.int IntKind.i64 (0)] := by kernel_rfl
theorem zA32_MB : zeroA Tryz.prog 32 = some [AV.sl [], AV.sl []] := by kernel_rfl
theorem zA83_MB : zeroA Tryz.prog 83 = some [AV.int IntKind.i64 (0), AV.sl []] := by kernel_rfl
theorem zA86_MB : zeroA Tryz.prog 86 = some [AV.int IntKind.u64 (0), AV.str [], AV.sl []] := by kernel_rfl
theorem foldl_step {α β : Type} {f : β → α → β} {l : List α} {i : Nat} {b : β} (h : i < l.length) : (l.drop i).foldl f b = (l.drop (i + 1)).foldl f (f b l[i]) := by
  rw [List.drop_eq_getElem_cons h]; rfl
theorem foldl_end {α β : Type} {f : β → α → β} {l : List α} {i : Nat} {b : β} (h : l.length ≤ i) : (l.drop i).foldl f b = b := by
  rw [List.drop_of_length_le h]; rfl
theorem foldV : ∀ (l : List Val) (a : Nat), l.foldl (fun a v => max a v.deep) a = max a (deepV l)
  | [], a => by simp [deepV]
  | v :: l, a => by simp only [List.foldl_cons, deepV]; rw [foldV l]; omega
theorem foldS : ∀ (l : List Slot) (a : Nat), l.foldl (fun a x => x.vals.foldl (fun a v => max a v.deep) a) a = max a (deepS l)
  | [], a => by simp [deepS]
  | x :: l, a => by simp only [List.foldl_cons, deepS]; rw [foldS l, foldV, Slot.deep_eq]; omega
theorem p_deepc (H0 : Hp) (id : Nat) (v : Val) (n : Nat) (hl : v.m.length ≤ 9223372036854775807) (ih : ∀ u ∈ v.m, Pure Tryz.prog 47 [.agg u.cells] (.int .i64 (u.deep : Int))) : Run Tryz.prog 82 ([.agg v.cells] ++ [.op id 0]) (H0.set id [.v (.int .i64 (n : Int))]) (.tup []) (H0.set id [.v (.int .i64 ((max n v.deep : Nat) : Int))]) := by
  have hVl := Val.deep_eq v
  refine Run.of_tri Tryz.func82 rfl rfl (ltb rfl) ?_
  refine Tri.seq ?_
  refine Tri.region ?_
  refine TriL.c2 rfl (op_box (ltb rfl) rfl rfl rfl) ?_
  refine TriL.nil ?_
  refine Tri.seq ?_
  refine Tri.region ?_
  refine TriL.c1 rfl (op_fal (ltb rfl) fo86_2_MB rfl) ?_
  refine TriL.c1 rfl (op_ldl (ltb rfl) lk63_MB rfl rfl rfl) ?_
  refine TriL.c1 rfl (op_lenl (ltb rfl) un63_MB rfl) ?_
  refine TriL.c1 rfl (op_mv (ltb rfl) rfl) ?_
  refine TriL.nil ?_
  refine Tri.blk ?_
  refine Tri.ofKept (Kept.keep [.s 8, .h, .s 1, .s 6, .s 7] rfl (by decide) (Kept.now ?_))
  -- LOOP 1
  refine Tri.loopk (fun ((i, m) : Nat × Nat) => [(.s 8, .sv (.v (.int .i64 (i : Int)))), (.h, .hp (H0.set id [.v (.int .i64 ((m : Nat) : Int))]))]) _ (fun ((i, m) : Nat × Nat) => max m (deepT (v.m.drop i)) = max n v.deep) (fun ((i, m) : Nat × Nat) => v.m.length - i) (0, n) rfl (by rw [hVl]; simp) ?_
  rintro ⟨i, m⟩ hI
  refine Tri.seq ?_
  refine Tri.region ?_
  refine TriL.c1 rfl (op_bin (ltb rfl) rfl rfl rfl) ?_
  refine TriL.nil ?_
  refine Tri.seq ?_
  refine Tri.cond rfl (fun hc1 => ?_) (fun hc1 => ?_)
  · have hi := ltm hc1
    have hU := @deepT_step v.m i hi
    refine Tri.skip ?_
    refine Tri.seq ?_
    refine Tri.blk ?_
    refine Tri.seq ?_
    refine Tri.region ?_
    refine TriL.c1 rfl (op_iak (ltb rfl) ie63_MB rfl rfl (Int.natCast_nonneg _) (ixmE Tree.av_eq hi) rfl) ?_
    refine TriL.c1 rfl (op_ldk (ltb rfl) lk32_MB rfl rfl) ?_
    refine TriL.c2 rfl (op_all (ltb rfl) zA32_MB rfl) ?_
    refine TriL.c1 rfl (op_stl lk32_MB rfl rfl rfl rfl rfl (leb rfl)) ?_
    refine TriL.nil ?_
    refine Tri.drawn mixed rfl ?_
    refine TriD.c1 rfl (op_ldc (ltb rfl) lk3_MB rfl rfl Hp.set_obj rfl) ?_
    refine TriD.c1 rfl (op_ldl (ltb rfl) lk32_MB rfl rfl rfl) ?_
    refine TriD.c1 rfl (op_call (ltb rfl) fn47_MB rfl (ih _ (List.getElem_mem hi))) ?_
    refine TriD.c1 rfl (op_maxi (ltb rfl) rfl rfl) ?_
    refine TriD.c1 rfl (op_stc lk3_MB rfl rfl Hp.set_obj rfl rfl rfl) ?_
    refine TriD.nil (by kernel_rfl) (Kept.now ?_)
    refine Tri.region ?_
    refine TriL.c1 rfl (op_bin (ltb rfl) rfl rfl rfl) ?_
    refine TriL.c1 rfl (op_mv (ltb rfl) rfl) ?_
    refine TriL.kept (Kept.seth rfl ((Hp.set_set).trans (by rw [show (if ((v.m[i]'hi).deep : Int) > (m : Int) then ((v.m[i]'hi).deep : Int) else (m : Int)) = ((max m (v.m[i]'hi).deep : Nat) : Int) by omega])) (Kept.seti 8 rfl (inc (by omega)) (Kept.keep [.s 8, .h, .s 1, .s 6, .s 7] rfl (by decide) (Kept.now ?_))))
    exact ⟨(i + 1, max m (v.m[i]'hi).deep), (by dsimp only; omega), by grind, rfl⟩
  · have hi := gem hc1
    have hU := @deepT_end v.m i hi
    refine Tri.exit ?_
    exact ⟨.inl rfl, (ResOK.r0 rfl ).cast rfl, (by rw [show max n v.deep = m by grind]; rfl)⟩
theorem p_each (t : Tree) (hb : t.big) (F : FuncId) (caps : List AV) (hF : isFn Tryz.prog F = true) (A : Type) (Hn : A → Hp) (g : A → Val → A) (hp : ∀ a, ∀ x ∈ t.slots, ∀ v ∈ x.vals, Run Tryz.prog F ([.agg v.cells] ++ caps) (Hn a) (.tup []) (Hn (g a v))) (a0 : A) : Run Tryz.prog 81 [.agg t.cells, .fn F caps] (Hn a0) (.tup []) (Hn (t.slots.foldl (fun a x => x.vals.foldl g a) a0)) := by
  have hs := hb.here.s
  refine Run.of_tri Tryz.func81 rfl rfl (ltb rfl) ?_
  refine Tri.seq ?_
  refine Tri.region ?_
  refine TriL.c2 rfl (op_box (ltb rfl) rfl rfl rfl) ?_
  refine TriL.nil ?_
  refine Tri.seq ?_
  refine Tri.region ?_
  refine TriL.c1 rfl (op_fal (ltb rfl) fo32_0_MB rfl) ?_
  refine TriL.c1 rfl (op_ldl (ltb rfl) lk29_MB rfl rfl rfl) ?_
  refine TriL.c1 rfl (op_lenl (ltb rfl) un29_MB rfl) ?_
  refine TriL.c1 rfl (op_mv (ltb rfl) rfl) ?_
  refine TriL.nil ?_
  refine Tri.blk ?_
  refine Tri.ofKept (Kept.keep [.s 11, .h, .s 1, .s 9, .s 10] rfl (by decide) (Kept.now ?_))
  -- LOOP 1
  refine Tri.loopk (fun ((i, a) : Nat × A) => [(.s 11, .sv (.v (.int .i64 (i : Int)))), (.h, .hp (Hn a))]) _ (fun ((i, a) : Nat × A) => (t.slots.drop i).foldl (fun a x => x.vals.foldl g a) a = t.slots.foldl (fun a x => x.vals.foldl g a) a0) (fun ((i, a) : Nat × A) => t.slots.length - i) (0, a0) rfl (by simp) ?_
  rintro ⟨i, a⟩ hI
  refine Tri.seq ?_
  refine Tri.region ?_
  refine TriL.c1 rfl (op_bin (ltb rfl) rfl rfl rfl) ?_
  refine TriL.nil ?_
  refine Tri.seq ?_
  refine Tri.cond rfl (fun hc1 => ?_) (fun hc1 => ?_)
  · have hi := ltm hc1
    have hS := @foldl_step _ _ (fun a (x : Slot) => x.vals.foldl g a) t.slots i a hi
    have hv := hb.here.v _ (List.getElem_mem hi)
    refine Tri.skip ?_
    refine Tri.seq ?_
    refine Tri.blk ?_
    refine Tri.seq ?_
    refine Tri.region ?_
    refine TriL.c1 rfl (op_iak (ltb rfl) ie29_MB rfl rfl (Int.natCast_nonneg _) (ixmE Slot.av_eq hi) rfl) ?_
    refine TriL.c1 rfl (op_ldk (ltb rfl) lk83_MB rfl rfl) ?_
    refine TriL.c2 rfl (op_all (ltb rfl) zA83_MB rfl) ?_
    refine TriL.c1 rfl (op_stl lk83_MB rfl rfl rfl rfl rfl (leb rfl)) ?_
    refine TriL.nil ?_
    refine Tri.seq ?_
    refine Tri.region ?_
    refine TriL.c1 rfl (op_fal (ltb rfl) fo83_1_MB rfl) ?_
    refine TriL.c1 rfl (op_ldl (ltb rfl) lk81_MB rfl rfl rfl) ?_
    refine TriL.c1 rfl (op_lenl (ltb rfl) un81_MB rfl) ?_
    refine TriL.c1 rfl (op_mv (ltb rfl) rfl) ?_
    refine TriL.nil ?_
    refine Tri.blk ?_
    refine Tri.ofKept (Kept.keep [.s 18, .h, .s 1, .s 9, .s 10, .s 11, .s 16, .s 17] rfl (by decide) (Kept.now ?_))
    -- LOOP 2
    refine Tri.loopk (fun ((k, b) : Nat × A) => [(.s 18, .sv (.v (.int .i64 (k : Int)))), (.h, .hp (Hn b))]) _ (fun ((k, b) : Nat × A) => ((t.slots[i]'hi).vals.drop k).foldl g b = (t.slots[i]'hi).vals.foldl g a) (fun ((k, b) : Nat × A) => (t.slots[i]'hi).vals.length - k) (0, a) rfl (by simp) ?_
    rintro ⟨k, b⟩ hK
    refine Tri.seq ?_
    refine Tri.region ?_
    refine TriL.c1 rfl (op_bin (ltb rfl) rfl rfl rfl) ?_
    refine TriL.nil ?_
    refine Tri.seq ?_
    refine Tri.cond rfl (fun hc2 => ?_) (fun hc2 => ?_)
    · have hk := ltm hc2
      have hT := @foldl_step _ _ g (t.slots[i]'hi).vals k b hk
      refine Tri.skip ?_
      refine Tri.seq ?_
      refine Tri.blk ?_
      refine Tri.seq ?_
      refine Tri.region ?_
      refine TriL.c1 rfl (op_iak (ltb rfl) ie81_MB rfl rfl (Int.natCast_nonneg _) (ixmE Val.av_eq hk) rfl) ?_
      refine TriL.c1 rfl (op_ldk (ltb rfl) lk86_MB rfl rfl) ?_
      refine TriL.c2 rfl (op_all (ltb rfl) zA86_MB rfl) ?_
      refine TriL.c1 rfl (op_stl lk86_MB rfl rfl rfl rfl rfl (leb rfl)) ?_
      refine TriL.nil ?_
      refine Tri.region ?_
      refine TriL.c1 rfl (op_mv (ltb rfl) rfl) ?_
      refine TriL.c1 rfl (op_ldl (ltb rfl) lk86_MB rfl rfl rfl) ?_
      refine TriL.c2 rfl (op_callch (ltb rfl) hF rfl rfl rfl (hp _ _ (List.getElem_mem hi) _ (List.getElem_mem hk))) ?_
      refine TriL.nil ?_
      refine Tri.region ?_
      refine TriL.c1 rfl (op_bin (ltb rfl) rfl rfl rfl) ?_
      refine TriL.c1 rfl (op_mv (ltb rfl) rfl) ?_
      refine TriL.kept (Kept.seti 18 rfl (inc (by omega)) (Kept.keep [.s 18, .h, .s 1, .s 9, .s 10, .s 11, .s 16, .s 17] rfl (by decide) (Kept.now ?_)))
      exact ⟨(k + 1, _), (by dsimp only; omega), by grind, rfl⟩
    · have hk := gem hc2
      have hT := @foldl_end _ _ g (t.slots[i]'hi).vals k b hk
      refine Tri.exit ?_
      refine Tri.region ?_
      refine TriL.c1 rfl (op_bin (ltb rfl) rfl rfl rfl) ?_
      refine TriL.c1 rfl (op_mv (ltb rfl) rfl) ?_
      refine TriL.kept (Kept.seti 11 rfl (inc (by omega)) (Kept.keep [.s 11, .h, .s 1, .s 9, .s 10] rfl (by decide) (Kept.now ?_)))
      exact ⟨(i + 1, b), (by dsimp only; omega), by grind, rfl⟩
  · have hi := gem hc1
    have hS := @foldl_end _ _ (fun a (x : Slot) => x.vals.foldl g a) t.slots i a hi
    refine Tri.exit ?_
    exact ⟨.inl rfl, (ResOK.r0 rfl ).cast rfl, (by rw [show t.slots.foldl (fun a x => x.vals.foldl g a) a0 = a by grind]; rfl)⟩
theorem p_deep1 (t : Tree) (hb : t.big) (hd : t.deep ≤ 9223372036854775807) (ih : ∀ x ∈ t.slots, ∀ v ∈ x.vals, ∀ u ∈ v.m, Pure Tryz.prog 47 [.agg u.cells] (.int .i64 (u.deep : Int))) : Pure Tryz.prog 47 [.agg t.cells] (.int .i64 (t.deep : Int)) := by
  intro H; refine Run.of_triF Tryz.func47 rfl rfl (ltb rfl) (.int _ _) ?_
  refine Tri.seq ?_
  refine Tri.region ?_
  refine TriL.c2 rfl (op_box (ltb rfl) rfl rfl rfl) ?_
  refine TriL.c1 rfl (op_as (ltb rfl) rfl) ?_
  refine TriL.nil ?_
  refine Tri.seq ?_
  refine Tri.region ?_
  refine TriL.c2 rfl (op_all (ltb rfl) zA3_MB rfl) ?_
  refine TriL.c1 rfl (op_stl lk3_MB rfl rfl rfl rfl rfl (leb rfl)) ?_
  refine TriL.nil ?_
  refine Tri.seq ?_
  refine Tri.ofKept (Kept.pub 3 rfl rfl (Kept.op 3 rfl rfl (Kept.cls 3 rfl rfl rfl rfl (Kept.now ?_))))
  refine Tri.region ?_
  refine TriL.c1 rfl (op_ldl (ltb rfl) lk32_MB rfl rfl rfl) ?_
  refine TriL.c1 rfl (op_mkf (ltb rfl) rfl) ?_
  refine TriL.c2 rfl (op_callh (ltb rfl) fn81_MB rfl rfl (p_each t hb _ _ fn82_MB Nat (fun a => ((⟨H.next + 1, H.obj⟩ : Hp).set H.next [.v (.int .i64 ((a : Nat) : Int))])) (fun a v => max a v.deep) (fun a x hx v hv => p_deepc _ _ v a (hb.here.m _ hx _ hv) (ih x hx v hv)) 0)) ?_
  refine TriL.nil ?_
  refine Tri.seq ?_
  refine Tri.region ?_
  refine TriL.c1 rfl (op_ldc (ltb rfl) lk3_MB rfl rfl Hp.set_obj rfl) ?_
  refine TriL.c1 rfl (op_bin (ltb rfl) rfl rfl rfl) ?_
  refine TriL.c1 rfl (op_as (ltb rfl) rfl) ?_
  refine TriL.nil ?_
  refine Tri.ret ?_
  exact ⟨.inr rfl, (ResOK.r1 rfl (.tmp rfl .nil)).cast (congrArg (AV.int .i64) (by rw [foldS, inc (by have := t.deep_eq; omega)]; have := t.deep_eq; omega)), ⟨_, rfl, Nat.le_succ _, fun i hi => by simp only [Hp.set]; rw [if_neg (by omega)]⟩⟩
end Go.Proofs.YtnpgcmeclkncnaaGreatDoor.X
/- Numbers and bytes. No condition. -/
set_option linter.unusedVariables false
set_option linter.unusedSimpArgs false
set_option maxRecDepth 100000
namespace Go.Proofs.YtnpgcmeclkncnaaGreatDoor.X
open Go Go.RowKit Go.Proofs
theorem un51_HB : Tryz.prog.underlying 51 = some (TypeDesc.slice 5) := Tryz.underlying51
theorem un9_HB : Tryz.prog.underlying 9 = some TypeDesc.string := Tryz.underlying9
theorem unel51_HB : Tryz.prog.underlying 5 = some (TypeDesc.int IntKind.u8) := Tryz.underlying5
theorem wr8 {n : Int} (h0 : 0 ≤ n) (h : n < 256) : IntKind.u8.wrap n = n := by simp only [IntKind.wrap, IntKind.bits, IntKind.signed]; simp; omega
theorem wr64 {n : Int} (h0 : -9223372036854775808 ≤ n) (h : n < 9223372036854775808) : IntKind.i64.wrap n = n := by simp only [IntKind.wrap, IntKind.bits, IntKind.signed]; simp; omega
theorem bsl_len (l : List UInt8) : (bsl l).length = l.length := by simp [bsl]
theorem bsl_app (l m : List UInt8) : bsl (l ++ m) = bsl l ++ bsl m := by simp [bsl]

theorem res_i64 {x y : Int} (h : x = y) : AV.int .i64 x = .int .i64 y := by rw [h]
theorem res_bool {x y : Bool} (h : x = y) : AV.bool x = .bool y := by rw [h]
theorem bytes_pure (l m : List UInt8) : Pure Tryz.prog 26 [.sl (bsl l), .sl (bsl m)] (.bool (l == m)) := by
  refine Pure.of_tri Tryz.func26 rfl rfl (ltb rfl) fun H => ?_
  refine Tri.seq ?_
  refine Tri.region ?_
  refine TriL.c1 rfl (op_as (ltb rfl) rfl) ?_
  refine TriL.nil ?_
  refine Tri.seq ?_
  refine Tri.region ?_
  refine TriL.c1 rfl (op_mv (ltb rfl) rfl) ?_
  refine TriL.c1 rfl (op_b2s (ltb rfl) un51_HB unel51_HB un9_HB rfl (bytesOf_bsl _)) ?_
  refine TriL.c1 rfl (op_mv (ltb rfl) rfl) ?_
  refine TriL.c1 rfl (op_b2s (ltb rfl) un51_HB unel51_HB un9_HB rfl (bytesOf_bsl _)) ?_
  refine TriL.c1 rfl (op_bin (ltb rfl) rfl rfl rfl) ?_
  refine TriL.c1 rfl (op_as (ltb rfl) rfl) ?_
  refine TriL.nil ?_
  refine Tri.ret ?_
  exact ⟨.inr rfl, (ResOK.r1 rfl (.tmp rfl .nil)).cast (by rfl), rfl⟩
def rebox (k : Nat) (cells : List Sv) : St → St
  | [] => []
  | (c, v) :: s => (c, if c = .b k then .bx cells else v) :: rebox k cells s
theorem okEls_bsl : ∀ l : List UInt8, okEls 1 (bsl l) = true
  | [] => rfl
  | c :: l => by
    have := okEls_bsl l
    simp only [okEls, bsl, List.map_cons, List.all_cons, Bool.and_eq_true] at this ⊢
    exact ⟨⟨rfl, trivial⟩, this⟩
end Go.Proofs.YtnpgcmeclkncnaaGreatDoor.X
/- emit: the writer's first functions. -/
set_option linter.unusedVariables false
set_option linter.unusedSimpArgs false
set_option maxRecDepth 100000
namespace Go.Proofs.YtnpgcmeclkncnaaGreatDoor.X
open Go Go.RowKit Go.Proofs
theorem fo149_2_E0 : fo Tryz.prog 149 2 = some 2 := by kernel_rfl
theorem lk4_E0 : lk Tryz.prog 4 = some (false, 1) := by kernel_rfl
theorem pt102_E0 : Tryz.prog.underlying 102 = some (.pointer (Tryz.prog.pointee 102)) := by kernel_rfl
theorem spl149_E0 : spl Tryz.prog 149 = some [(0, 1), (1, 1), (2, 1)] := by kernel_rfl

theorem zN149 : zeroN Tryz.prog 149 = some [.nsl, .nsl, .bool false] := by kernel_rfl

/-- A writer: its bytes, its open frames. -/
def wr (b : List AV) (fs : List AV) : List Hc := [.row 5 1 b, .row 267 2 fs, .v (.bool true)]

theorem new_run (H : Hp) : Run Tryz.prog 48 [] H (.op H.next 0) ⟨H.next + 1, fun i => if i = H.next then some (wr [] []) else H.obj i⟩ := by
  refine Run.of_tri Tryz.func48 rfl rfl (Nat.zero_le _) ?_
  refine Tri.seq ?_
  refine Tri.region ?_
  refine TriL.c1 rfl (op_as (ltb rfl) rfl) ?_
  refine TriL.nil ?_
  refine Tri.seq ?_
  refine Tri.region ?_
  refine TriL.c1 rfl (op_bldn (ltb rfl) spl149_E0 zN149 rfl rfl) ?_
  refine TriL.c2 rfl (op_box (ltb rfl) rfl rfl rfl) ?_
  refine TriL.c1 rfl (op_as (ltb rfl) rfl) ?_
  refine TriL.kept (Kept.nilcell 2 0 100 5 1 rfl rfl rfl rfl (ltb rfl) (Kept.nilcell 2 1 101 267 2 rfl rfl rfl rfl (ltb rfl) (Kept.pub 2 rfl rfl (Kept.op 0 rfl rfl (Kept.cls 2 rfl rfl rfl rfl (Kept.now ?_))))))
  refine Tri.ret ?_
  exact ⟨.inr rfl, ResOK.r1 rfl (.tmp rfl .nil), rfl⟩
theorem is_run (H : Hp) (id : Nat) (b fs : List AV) (ho : H.obj id = some (wr b fs)) : Run Tryz.prog 87 [.op id 0] H (.bool true) H := by
  refine Run.of_tri Tryz.func87 rfl rfl (ltb rfl) ?_
  refine Tri.ofKept (Kept.opn 100 id 100 rfl ho rfl rfl (Kept.lp 0 100 rfl rfl (Kept.now ?_)))
  refine Tri.seq ?_
  refine Tri.region ?_
  refine TriL.c1 rfl (op_as (ltb rfl) rfl) ?_
  refine TriL.nil ?_
  refine Tri.seq ?_
  refine Tri.region ?_
  refine TriL.c1 rfl (op_mv (ltb rfl) rfl) ?_
  refine TriL.c1 rfl (op_nen (ltb rfl) pt102_E0 rfl rfl) ?_
  refine TriL.c1 rfl (op_mv (ltb rfl) rfl) ?_
  refine TriL.g1 rfl (ltb rfl) rfl rfl (op_mv (ltb rfl) rfl) ?_
  refine TriL.g1 rfl (ltb rfl) rfl rfl (op_nckl (ltb rfl) rfl) ?_
  refine TriL.g1 rfl (ltb rfl) rfl rfl (op_fal (ltb rfl) fo149_2_E0 rfl) ?_
  refine TriL.g1 rfl (ltb rfl) rfl rfl (op_ldo (ltb rfl) lk4_E0 rfl rfl rfl) ?_
  refine TriL.c1 rfl (op_pickt (ltb rfl) rfl rfl rfl) ?_
  refine TriL.c1 rfl (op_as (ltb rfl) rfl) ?_
  refine TriL.kept (Kept.cls 100 rfl rfl rfl rfl (Kept.now ?_))
  refine Tri.ret ?_
  refine ⟨.inr rfl, ResOK.r1 rfl (.tmp rfl .nil), ?_⟩
  have e : (H.del id).set id (wr b fs) = H := by rw [Hp.del_set, Hp.set_same ho]
  exact congrArg (fun h => some (CV.hp h)) e
end Go.Proofs.YtnpgcmeclkncnaaGreatDoor.X
/- emit: Plain. -/
set_option linter.unusedVariables false
set_option linter.unusedSimpArgs false
set_option maxRecDepth 100000
namespace Go.Proofs.YtnpgcmeclkncnaaGreatDoor.X
open Go Go.RowKit Go.Proofs
theorem fn87_E1 : isFn Tryz.prog 87 = true := by kernel_rfl
theorem fo149_0_E1 : fo Tryz.prog 149 0 = some 0 := by kernel_rfl
theorem ie194_E1 : ie Tryz.prog 194 = some 1 := by kernel_rfl
theorem lk51_E1 : lk Tryz.prog 51 = some (false, 1) := by kernel_rfl
theorem se51_E1 : se Tryz.prog 51 = some (5, 1, 1) := by kernel_rfl
theorem un194_E1 : Tryz.prog.underlying 194 = some (TypeDesc.slice 51) := Tryz.underlying194

def StP (H : Hp) (id : Nat) (ps : List AV) (m : Nat) (bs fs : List AV) (j : Int) : St :=
  [(.h, .hp H), (.s 0, .sv (.lp 100 0)), (.s 10, .sv (.v (.sl ps))), (.s 11, .sv (.v (.int .i64 ps.length))), (.s 12, .sv (.v (.int .i64 j))), (.b 100, .ob id [.om 100 m, .om 101 fs.length, .v (.bool true)]), (.t 100, .tk true 5 1 bs), (.t 101, .tk true 267 2 fs)]
def sls (ps : List (List UInt8)) : List AV := ps.map fun p => .sl (bsl p)
theorem plain_run (H : Hp) (id : Nat) (b : List UInt8) (fs : List AV) (ps : List (List UInt8)) (ho : H.obj id = some (wr (bsl b) fs)) (hl : b.length + ps.flatten.length ≤ 1073741824) (hp : ps.length ≤ 1073741824) :
    Run Tryz.prog 86 [.op id 0, .sl (sls ps)] H (.bool true) (H.set id (wr (bsl (b ++ ps.flatten)) fs)) := by
  refine Run.of_tri Tryz.func86 rfl rfl (ltb rfl) ?_
  refine Tri.seq ?_
  refine Tri.region ?_
  refine TriL.c1 rfl (op_as (ltb rfl) rfl) ?_
  refine TriL.nil ?_
  refine Tri.seq ?_
  refine Tri.seq ?_
  refine Tri.region ?_
  refine TriL.c1 rfl (op_mv (ltb rfl) rfl) ?_
  refine TriL.c2 rfl (op_callh (ltb rfl) fn87_E1 rfl rfl (is_run H id _ _ ho)) ?_
  refine TriL.c1 rfl (op_un (ltb rfl) rfl rfl) ?_
  refine TriL.nil ?_
  refine Tri.condF rfl rfl ?_
  refine Tri.skip ?_
  refine Tri.ofKept (Kept.opn 100 id 100 rfl ho rfl rfl (Kept.lp 0 100 rfl rfl (Kept.now ?_)))
  refine Tri.seq ?_
  refine Tri.seq ?_
  refine Tri.region ?_
  refine TriL.c1 rfl (op_mv (ltb rfl) rfl) ?_
  refine TriL.c1 rfl (op_lenl (ltb rfl) un194_E1 rfl) ?_
  refine TriL.c1 rfl (op_mv (ltb rfl) rfl) ?_
  refine TriL.kept (Kept.keep [.h, .s 0, .s 10, .s 11, .s 12, .b 100, .t 100, .t 101] rfl (by decide) (Kept.now ?_))
  refine Tri.blk ?_
  refine Tri.loop (fun n s => ∃ (i : Nat) (bs : List AV) (j : Int) (m : Nat), s = StP (H.del id) id (sls ps) m bs fs j ∧ j = i ∧ bs = bsl (b ++ (ps.take i).flatten) ∧ m = bs.length ∧ i ≤ ps.length ∧ n = ps.length - i) ?_ (n := ps.length) ⟨0, _, 0, _, rfl, rfl, by simp, rfl, by omega, rfl⟩
  rintro n s ⟨i, bs, j, m, rfl, hj, hbs, rfl, hi, rfl⟩
  have hsl : (sls ps).length = ps.length := by simp [sls]
  refine Tri.seq ?_
  refine Tri.region ?_
  refine TriL.c1 rfl (op_bin (ltb rfl) rfl rfl rfl) ?_
  refine TriL.nil ?_
  refine Tri.seq ?_
  refine Tri.cond rfl (fun hc1 => ?_) (fun hc1 => ?_)
  · have hlt : i < ps.length := by have := of_decide_eq_true hc1; omega
    obtain ⟨p, hp1⟩ : ∃ p, ps[i]? = some p := ⟨ps[i], List.getElem?_eq_getElem hlt⟩
    have hpg : (sls ps)[j.toNat]? = some (.sl (bsl p)) := by subst hj; simp [sls, hp1]
    have htk : (ps.take (i + 1)).flatten = (ps.take i).flatten ++ p := by rw [List.take_add_one, hp1]; simp
    have hfl : (ps.take (i + 1)).flatten.length ≤ ps.flatten.length := by
      have := congrArg List.length (congrArg List.flatten (List.take_append_drop (i + 1) ps))
      rw [List.flatten_append, List.length_append] at this; omega
    have hbl : bs.length + (bsl p).length ≤ 1073741824 := by
      rw [htk, List.length_append] at hfl
      rw [hbs, bsl_len, bsl_len, List.length_append]; omega
    refine Tri.skip ?_
    refine Tri.seq ?_
    refine Tri.blk ?_
    refine Tri.seq ?_
    refine Tri.region ?_
    refine TriL.c1 rfl (op_iak (ltb rfl) ie194_E1 rfl rfl (by omega) hpg rfl) ?_
    refine TriL.c1 rfl (op_ldk (ltb rfl) lk51_E1 rfl rfl) ?_
    refine TriL.c1 rfl (op_as (ltb rfl) rfl) ?_
    refine TriL.nil ?_
    refine Tri.region ?_
    refine TriL.c1 rfl (op_mv (ltb rfl) rfl) ?_
    refine TriL.c1 rfl (op_mv (ltb rfl) rfl) ?_
    refine TriL.c1 rfl (op_nckl (ltb rfl) rfl) ?_
    refine TriL.c1 rfl (op_fal (ltb rfl) fo149_0_E1 rfl) ?_
    refine TriL.c1 rfl (op_ldo (ltb rfl) lk51_E1 rfl rfl rfl) ?_
    refine TriL.c1 rfl (op_mv (ltb rfl) rfl) ?_
    refine TriL.c3 rfl (op_apm (ltb rfl) se51_E1 rfl rfl rfl rfl (okEls_bsl p) rfl (by omega) (by omega)) ?_
    refine TriL.c1 rfl (op_nckl (ltb rfl) rfl) ?_
    refine TriL.c1 rfl (op_fal (ltb rfl) fo149_0_E1 rfl) ?_
    refine TriL.c1 rfl (op_sto lk51_E1 rfl rfl rfl rfl rfl (leb rfl)) ?_
    refine TriL.nil ?_
    refine Tri.region ?_
    refine TriL.c1 rfl (op_bin (ltb rfl) rfl rfl rfl) ?_
    refine TriL.c1 rfl (op_mv (ltb rfl) rfl) ?_
    refine TriL.kept (Kept.keep [.h, .s 0, .s 10, .s 11, .s 12, .b 100, .t 22, .t 101] rfl (by decide) (Kept.ren 22 100 (by decide) rfl (Kept.now ?_)))
    refine ⟨ps.length - (i + 1), by omega, i + 1, _, _, _, rfl, ?_, ?_, rfl, by omega, rfl⟩
    · rw [wr64] <;> omega
    · rw [htk, hbs]; simp only [bsl_app, List.append_assoc]
  · have hge : ¬ i < ps.length := by have := of_decide_eq_false hc1; omega
    refine Tri.exit ?_
    refine Tri.seq ?_
    refine Tri.region ?_
    refine TriL.c1 rfl (op_as (ltb rfl) rfl) ?_
    refine TriL.kept (Kept.cls 100 rfl rfl rfl rfl (Kept.now ?_))
    refine Tri.ret ?_
    refine ⟨.inr rfl, ResOK.r1 rfl (.tmp rfl .nil), ?_⟩
    rw [List.take_of_length_le (by omega)] at hbs
    have e : (H.del id).set id (wr bs fs) = H.set id (wr (bsl (b ++ ps.flatten)) fs) := by rw [Hp.del_set, hbs]
    exact congrArg (fun h => some (CV.hp h)) e
end Go.Proofs.YtnpgcmeclkncnaaGreatDoor.X
