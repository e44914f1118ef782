/- the document: what is asked of a schema. -/
import Derived.Test.YtnpgcmeclkncnaaGreatDoorYE
set_option linter.unusedVariables false
set_option linter.unusedSimpArgs false
set_option linter.unusedSectionVars false
set_option maxRecDepth 100000
namespace Go.Proofs.YtnpgcmeclkncnaaGreatDoor.X
open Go Go.RowKit Go.Proofs
theorem fn52_M3 : isFn Tryz.prog 52 = true := by kernel_rfl
theorem fn69_M3 : isFn Tryz.prog 69 = true := by kernel_rfl
theorem fn70_M3 : isFn Tryz.prog 70 = true := by kernel_rfl
theorem fn75_M3 : isFn Tryz.prog 75 = true := by kernel_rfl
theorem fn76_M3 : isFn Tryz.prog 76 = true := by kernel_rfl
theorem fo25_0_M3 : fo Tryz.prog 25 0 = some 0 := by kernel_rfl
theorem fo25_1_M3 : fo Tryz.prog 25 1 = some 1 := by kernel_rfl
theorem fo78_0_M3 : fo Tryz.prog 78 0 = some 0 := by kernel_rfl
theorem fo78_1_M3 : fo Tryz.prog 78 1 = some 1 := by kernel_rfl
theorem fo78_2_M3 : fo Tryz.prog 78 2 = some 2 := by kernel_rfl
theorem fo94_0_M3 : fo Tryz.prog 94 0 = some 0 := by kernel_rfl
theorem fo94_1_M3 : fo Tryz.prog 94 1 = some 1 := by kernel_rfl
theorem fo96_0_M3 : fo Tryz.prog 96 0 = some 0 := by kernel_rfl
theorem fo98_1_M3 : fo Tryz.prog 98 1 = some 1 := by kernel_rfl
theorem fo98_2_M3 : fo Tryz.prog 98 2 = some 2 := by kernel_rfl
theorem fo98_3_M3 : fo Tryz.prog 98 3 = some 3 := by kernel_rfl
theorem ie22_M3 : ie Tryz.prog 22 = some 2 := by kernel_rfl
theorem ie23_M3 : ie Tryz.prog 23 = some 3 := by kernel_rfl
theorem ie76_M3 : ie Tryz.prog 76 = some 7 := by kernel_rfl
theorem ie92_M3 : ie Tryz.prog 92 = some 2 := by kernel_rfl
theorem lk22_M3 : lk Tryz.prog 22 = some (false, 1) := by kernel_rfl
theorem lk23_M3 : lk Tryz.prog 23 = some (false, 1) := by kernel_rfl
theorem lk25_M3 : lk Tryz.prog 25 = some (true, 2) := by kernel_rfl
theorem lk3_M3 : lk Tryz.prog 3 = some (false, 1) := by kernel_rfl
theorem lk67_M3 : lk Tryz.prog 67 = some (false, 1) := by kernel_rfl
theorem lk76_M3 : lk Tryz.prog 76 = some (false, 1) := by kernel_rfl
theorem lk9_M3 : lk Tryz.prog 9 = some (false, 1) := by kernel_rfl
theorem lk92_M3 : lk Tryz.prog 92 = some (false, 1) := by kernel_rfl
theorem lk98_M3 : lk Tryz.prog 98 = some (true, 7) := by kernel_rfl
theorem un22_M3 : Tryz.prog.underlying 22 = some (TypeDesc.slice 94) := Tryz.underlying22
theorem un23_M3 : Tryz.prog.underlying 23 = some (TypeDesc.slice 78) := Tryz.underlying23
theorem un67_M3 : Tryz.prog.underlying 67 = some (TypeDesc.slice 3) := Tryz.underlying67
theorem un76_M3 : Tryz.prog.underlying 76 = some (TypeDesc.slice 98) := Tryz.underlying76
theorem un92_M3 : Tryz.prog.underlying 92 = some (TypeDesc.slice 96) := Tryz.underlying92
theorem zA98_M3 : zeroA Tryz.prog 98 = some [AV.str [], AV.int IntKind.i64 (0), AV.int IntKind.i64 (0), AV.str [], AV.bool false, AV.bool false, AV.str []] := by kernel_rfl
theorem r_many (s : Sch) (hs : s.big) : Pure Tryz.prog 36 [s.av] (.bool s.many) := by
  have := hs.e
  have := hs.m
  refine Pure.of_tri Tryz.func36 rfl rfl (ltb rfl) fun H => ?_
  refine Tri.seq ?_
  refine Tri.region ?_
  refine TriL.c2 rfl (op_box (ltb rfl) rfl rfl rfl) ?_
  refine TriL.c1 rfl (op_as (ltb rfl) rfl) ?_
  refine TriL.nil ?_
  refine Tri.joinu [.h, .s 1, .b 1] (fun (b : Bool) => [(.s 3, .sv (.v (.bool b)))]) (fun (b : Bool) => b = (decide (3 < s.enums.length) || decide (6 < s.msgs.length))) rfl ?_ ?_
  · -- region 1 ref.go:23
    refine Tri.region ?_
    refine TriL.c1 rfl (op_fal (ltb rfl) fo25_0_M3 rfl) ?_
    refine TriL.c1 rfl (op_ldl (ltb rfl) lk22_M3 rfl rfl rfl) ?_
    refine TriL.c1 rfl (op_lenl (ltb rfl) un22_M3 rfl) ?_
    refine TriL.c1 rfl (op_bin (ltb rfl) rfl rfl rfl) ?_
    refine TriL.c1 rfl (op_mv (ltb rfl) rfl) ?_
    refine TriL.split (d := 10) rfl (fun hg1 => ?_) (fun hg1 => ?_)
    · refine TriL.skipu rfl rfl (ltb rfl) (ltb rfl) rfl hg1 ?_
      refine TriL.skipu rfl rfl (ltb rfl) (ltb rfl) rfl hg1 ?_
      refine TriL.skipu rfl rfl (ltb rfl) (ltb rfl) rfl hg1 ?_
      refine TriL.skipu rfl rfl (ltb rfl) (ltb rfl) rfl hg1 ?_
      refine TriL.c1 rfl (op_pickt (ltb rfl) rfl hg1 rfl) ?_
      refine TriL.c1 rfl (op_as (ltb rfl) rfl) ?_
      refine TriL.kept (Kept.keep [.s 3, .h, .s 1, .b 1] rfl (by decide) (Kept.now ?_))
      exact ⟨_, by grind, rfl⟩
    · refine TriL.g1 rfl (ltb rfl) rfl hg1 (op_fal (ltb rfl) fo25_1_M3 rfl) ?_
      refine TriL.g1 rfl (ltb rfl) rfl hg1 (op_ldl (ltb rfl) lk23_M3 rfl rfl rfl) ?_
      refine TriL.g1 rfl (ltb rfl) rfl hg1 (op_lenl (ltb rfl) un23_M3 rfl) ?_
      refine TriL.g1 rfl (ltb rfl) rfl hg1 (op_bin (ltb rfl) rfl rfl rfl) ?_
      refine TriL.c1 rfl (op_pickf (ltb rfl) rfl hg1 rfl) ?_
      refine TriL.c1 rfl (op_as (ltb rfl) rfl) ?_
      refine TriL.kept (Kept.keep [.s 3, .h, .s 1, .b 1] rfl (by decide) (Kept.now ?_))
      exact ⟨_, by grind, rfl⟩
  · rintro b hF2
    refine Tri.seq ?_
    refine Tri.seq ?_
    refine Tri.region ?_
    refine TriL.c1 rfl (op_as (ltb rfl) rfl) ?_
    refine TriL.nil ?_
    refine Tri.blk ?_
    refine Tri.ofKept (Kept.keep [.s 4, .s 3, .h, .s 1, .b 1] rfl (by decide) (Kept.now ?_))
    -- LOOP 1
    refine Tri.loopk (fun ((i, b) : Nat × Bool) => [(.s 4, .sv (.v (.int .i64 (i : Int)))), (.s 3, .sv (.v (.bool b)))]) _ (fun ((i, b) : Nat × Bool) => (b || (s.enums.drop i).any (fun e : Enm => decide (8 < e.values.length))) = (decide (3 < s.enums.length) || decide (6 < s.msgs.length) || s.enums.any (fun e : Enm => decide (8 < e.values.length)))) (fun ((i, b) : Nat × Bool) => s.enums.length - i) (0, _) rfl (by grind) ?_
    rintro ⟨i, b⟩ hI
    refine Tri.seq ?_
    refine Tri.seq ?_
    refine Tri.region ?_
    refine TriL.c1 rfl (op_mv (ltb rfl) rfl) ?_
    refine TriL.c1 rfl (op_fal (ltb rfl) fo25_0_M3 rfl) ?_
    refine TriL.c1 rfl (op_ldl (ltb rfl) lk22_M3 rfl rfl rfl) ?_
    refine TriL.c1 rfl (op_lenl (ltb rfl) un22_M3 rfl) ?_
    refine TriL.c1 rfl (op_bin (ltb rfl) rfl rfl rfl) ?_
    refine TriL.nil ?_
    refine Tri.cond rfl (fun hc2 => ?_) (fun hc2 => ?_)
    · have hi := ltm hc2
      have hS := any_step (p := (fun e : Enm => decide (8 < e.values.length))) hi
      refine Tri.skip ?_
      refine Tri.seq ?_
      refine Tri.blk ?_
      refine Tri.region ?_
      refine TriL.c1 rfl (op_mv (ltb rfl) rfl) ?_
      refine TriL.c1 rfl (op_mv (ltb rfl) rfl) ?_
      refine TriL.split (d := 24) rfl (fun hg3 => ?_) (fun hg3 => ?_)
      · refine TriL.skipu rfl rfl (ltb rfl) (ltb rfl) rfl hg3 ?_
        refine TriL.skipu rfl rfl (ltb rfl) (ltb rfl) rfl hg3 ?_
        refine TriL.skipu rfl rfl (ltb rfl) (ltb rfl) rfl hg3 ?_
        refine TriL.skipu rfl rfl (ltb rfl) (ltb rfl) rfl hg3 ?_
        refine TriL.skipu rfl rfl (ltb rfl) (ltb rfl) rfl hg3 ?_
        refine TriL.skipu rfl rfl (ltb rfl) (ltb rfl) rfl hg3 ?_
        refine TriL.skipu rfl rfl (ltb rfl) (ltb rfl) rfl hg3 ?_
        refine TriL.skipu rfl rfl (ltb rfl) (ltb rfl) rfl hg3 ?_
        refine TriL.c1 rfl (op_pickt (ltb rfl) rfl hg3 rfl) ?_
        refine TriL.c1 rfl (op_as (ltb rfl) rfl) ?_
        refine TriL.nil ?_
        refine Tri.region ?_
        refine TriL.c1 rfl (op_mv (ltb rfl) rfl) ?_
        refine TriL.c1 rfl (op_bin (ltb rfl) rfl rfl rfl) ?_
        refine TriL.c1 rfl (op_as (ltb rfl) rfl) ?_
        refine TriL.kept (Kept.seti 4 rfl (inc (by omega)) (Kept.keep [.s 4, .s 3, .h, .s 1, .b 1] rfl (by decide) (Kept.now ?_)))
        exact ⟨(i + 1, _), (by dsimp only; omega), by grind, rfl⟩
      · refine TriL.g1 rfl (ltb rfl) rfl hg3 (op_fal (ltb rfl) fo25_0_M3 rfl) ?_
        refine TriL.g1 rfl (ltb rfl) rfl hg3 (op_ldl (ltb rfl) lk22_M3 rfl rfl rfl) ?_
        refine TriL.g1 rfl (ltb rfl) rfl hg3 (op_mv (ltb rfl) rfl) ?_
        refine TriL.g1 rfl (ltb rfl) rfl hg3 (op_iak (ltb rfl) ie22_M3 rfl rfl (Int.natCast_nonneg _) (ixm hi) rfl) ?_
        refine TriL.g1 rfl (ltb rfl) rfl hg3 (op_fak (ltb rfl) fo94_1_M3 rfl) ?_
        refine TriL.g1 rfl (ltb rfl) rfl hg3 (op_ldk (ltb rfl) lk92_M3 rfl rfl) ?_
        refine TriL.g1 rfl (ltb rfl) rfl hg3 (op_lenl (ltb rfl) un92_M3 rfl) ?_
        refine TriL.g1 rfl (ltb rfl) rfl hg3 (op_bin (ltb rfl) rfl rfl rfl) ?_
        refine TriL.c1 rfl (op_pickf (ltb rfl) rfl hg3 rfl) ?_
        refine TriL.c1 rfl (op_as (ltb rfl) rfl) ?_
        refine TriL.nil ?_
        refine Tri.region ?_
        refine TriL.c1 rfl (op_mv (ltb rfl) rfl) ?_
        refine TriL.c1 rfl (op_bin (ltb rfl) rfl rfl rfl) ?_
        refine TriL.c1 rfl (op_as (ltb rfl) rfl) ?_
        refine TriL.kept (Kept.seti 4 rfl (inc (by omega)) (Kept.keep [.s 4, .s 3, .h, .s 1, .b 1] rfl (by decide) (Kept.now ?_)))
        exact ⟨(i + 1, _), (by dsimp only; omega), by grind, rfl⟩
    · have hi := gem hc2
      have hS := any_end (p := (fun e : Enm => decide (8 < e.values.length))) hi
      refine Tri.exit ?_
      refine Tri.seq ?_
      refine Tri.seq ?_
      refine Tri.region ?_
      refine TriL.c1 rfl (op_as (ltb rfl) rfl) ?_
      refine TriL.nil ?_
      refine Tri.blk ?_
      refine Tri.ofKept (Kept.keep [.s 5, .s 3, .h, .s 1, .b 1] rfl (by decide) (Kept.now ?_))
      -- LOOP 2
      refine Tri.loopk (fun ((k, b) : Nat × Bool) => [(.s 5, .sv (.v (.int .i64 (k : Int)))), (.s 3, .sv (.v (.bool b)))]) _ (fun ((k, b) : Nat × Bool) => (b || (s.msgs.drop k).any (fun m : Msg => decide (10 < m.fields.length) || decide (8 < m.barred.length))) = s.many) (fun ((k, b) : Nat × Bool) => s.msgs.length - k) (0, _) rfl (by grind [Sch.many]) ?_
      rintro ⟨k, b⟩ hI
      refine Tri.seq ?_
      refine Tri.seq ?_
      refine Tri.region ?_
      refine TriL.c1 rfl (op_mv (ltb rfl) rfl) ?_
      refine TriL.c1 rfl (op_fal (ltb rfl) fo25_1_M3 rfl) ?_
      refine TriL.c1 rfl (op_ldl (ltb rfl) lk23_M3 rfl rfl rfl) ?_
      refine TriL.c1 rfl (op_lenl (ltb rfl) un23_M3 rfl) ?_
      refine TriL.c1 rfl (op_bin (ltb rfl) rfl rfl rfl) ?_
      refine TriL.nil ?_
      refine Tri.cond rfl (fun hc4 => ?_) (fun hc4 => ?_)
      · have hk := ltm hc4
        have hS := any_step (p := (fun m : Msg => decide (10 < m.fields.length) || decide (8 < m.barred.length))) hk
        refine Tri.skip ?_
        refine Tri.seq ?_
        refine Tri.blk ?_
        refine Tri.region ?_
        refine TriL.c1 rfl (op_mv (ltb rfl) rfl) ?_
        refine TriL.c1 rfl (op_mv (ltb rfl) rfl) ?_
        refine TriL.split (d := 42) rfl (fun hg5 => ?_) (fun hg5 => ?_)
        · refine TriL.skipu rfl rfl (ltb rfl) (ltb rfl) rfl hg5 ?_
          refine TriL.skipu rfl rfl (ltb rfl) (ltb rfl) rfl hg5 ?_
          refine TriL.skipu rfl rfl (ltb rfl) (ltb rfl) rfl hg5 ?_
          refine TriL.skipu rfl rfl (ltb rfl) (ltb rfl) rfl hg5 ?_
          refine TriL.skipu rfl rfl (ltb rfl) (ltb rfl) rfl hg5 ?_
          refine TriL.skipu rfl rfl (ltb rfl) (ltb rfl) rfl hg5 ?_
          refine TriL.skipu rfl rfl (ltb rfl) (ltb rfl) rfl hg5 ?_
          refine TriL.skipu rfl rfl (ltb rfl) (ltb rfl) rfl hg5 ?_
          refine TriL.c1 rfl (op_pickt (ltb rfl) rfl hg5 rfl) ?_
          refine TriL.c1 rfl (op_mv (ltb rfl) rfl) ?_
          refine TriL.skipu rfl rfl (ltb rfl) (ltb rfl) rfl rfl ?_
          refine TriL.skipu rfl rfl (ltb rfl) (ltb rfl) rfl rfl ?_
          refine TriL.skipu rfl rfl (ltb rfl) (ltb rfl) rfl rfl ?_
          refine TriL.skipu rfl rfl (ltb rfl) (ltb rfl) rfl rfl ?_
          refine TriL.skipu rfl rfl (ltb rfl) (ltb rfl) rfl rfl ?_
          refine TriL.skipu rfl rfl (ltb rfl) (ltb rfl) rfl rfl ?_
          refine TriL.skipu rfl rfl (ltb rfl) (ltb rfl) rfl rfl ?_
          refine TriL.skipu rfl rfl (ltb rfl) (ltb rfl) rfl rfl ?_
          refine TriL.c1 rfl (op_pickt (ltb rfl) rfl rfl rfl) ?_
          refine TriL.c1 rfl (op_as (ltb rfl) rfl) ?_
          refine TriL.nil ?_
          refine Tri.region ?_
          refine TriL.c1 rfl (op_mv (ltb rfl) rfl) ?_
          refine TriL.c1 rfl (op_bin (ltb rfl) rfl rfl rfl) ?_
          refine TriL.c1 rfl (op_as (ltb rfl) rfl) ?_
          refine TriL.kept (Kept.seti 5 rfl (inc (by omega)) (Kept.keep [.s 5, .s 3, .h, .s 1, .b 1] rfl (by decide) (Kept.now ?_)))
          exact ⟨(k + 1, _), (by dsimp only; omega), by grind, rfl⟩
        · refine TriL.g1 rfl (ltb rfl) rfl hg5 (op_fal (ltb rfl) fo25_1_M3 rfl) ?_
          refine TriL.g1 rfl (ltb rfl) rfl hg5 (op_ldl (ltb rfl) lk23_M3 rfl rfl rfl) ?_
          refine TriL.g1 rfl (ltb rfl) rfl hg5 (op_mv (ltb rfl) rfl) ?_
          refine TriL.g1 rfl (ltb rfl) rfl hg5 (op_iak (ltb rfl) ie23_M3 rfl rfl (Int.natCast_nonneg _) (ixm hk) rfl) ?_
          refine TriL.g1 rfl (ltb rfl) rfl hg5 (op_fak (ltb rfl) fo78_1_M3 rfl) ?_
          refine TriL.g1 rfl (ltb rfl) rfl hg5 (op_ldk (ltb rfl) lk76_M3 rfl rfl) ?_
          refine TriL.g1 rfl (ltb rfl) rfl hg5 (op_lenl (ltb rfl) un76_M3 rfl) ?_
          refine TriL.g1 rfl (ltb rfl) rfl hg5 (op_bin (ltb rfl) rfl rfl rfl) ?_
          refine TriL.c1 rfl (op_pickf (ltb rfl) rfl hg5 rfl) ?_
          refine TriL.c1 rfl (op_mv (ltb rfl) rfl) ?_
          refine TriL.split (d := 52) rfl (fun hg6 => ?_) (fun hg6 => ?_)
          · refine TriL.skipu rfl rfl (ltb rfl) (ltb rfl) rfl hg6 ?_
            refine TriL.skipu rfl rfl (ltb rfl) (ltb rfl) rfl hg6 ?_
            refine TriL.skipu rfl rfl (ltb rfl) (ltb rfl) rfl hg6 ?_
            refine TriL.skipu rfl rfl (ltb rfl) (ltb rfl) rfl hg6 ?_
            refine TriL.skipu rfl rfl (ltb rfl) (ltb rfl) rfl hg6 ?_
            refine TriL.skipu rfl rfl (ltb rfl) (ltb rfl) rfl hg6 ?_
            refine TriL.skipu rfl rfl (ltb rfl) (ltb rfl) rfl hg6 ?_
            refine TriL.skipu rfl rfl (ltb rfl) (ltb rfl) rfl hg6 ?_
            refine TriL.c1 rfl (op_pickt (ltb rfl) rfl hg6 rfl) ?_
            refine TriL.c1 rfl (op_as (ltb rfl) rfl) ?_
            refine TriL.nil ?_
            refine Tri.region ?_
            refine TriL.c1 rfl (op_mv (ltb rfl) rfl) ?_
            refine TriL.c1 rfl (op_bin (ltb rfl) rfl rfl rfl) ?_
            refine TriL.c1 rfl (op_as (ltb rfl) rfl) ?_
            refine TriL.kept (Kept.seti 5 rfl (inc (by omega)) (Kept.keep [.s 5, .s 3, .h, .s 1, .b 1] rfl (by decide) (Kept.now ?_)))
            exact ⟨(k + 1, _), (by dsimp only; omega), by grind, rfl⟩
          · refine TriL.g1 rfl (ltb rfl) rfl hg6 (op_fal (ltb rfl) fo25_1_M3 rfl) ?_
            refine TriL.g1 rfl (ltb rfl) rfl hg6 (op_ldl (ltb rfl) lk23_M3 rfl rfl rfl) ?_
            refine TriL.g1 rfl (ltb rfl) rfl hg6 (op_mv (ltb rfl) rfl) ?_
            refine TriL.g1 rfl (ltb rfl) rfl hg6 (op_iak (ltb rfl) ie23_M3 rfl rfl (Int.natCast_nonneg _) (ixm hk) rfl) ?_
            refine TriL.g1 rfl (ltb rfl) rfl hg6 (op_fak (ltb rfl) fo78_2_M3 rfl) ?_
            refine TriL.g1 rfl (ltb rfl) rfl hg6 (op_ldk (ltb rfl) lk67_M3 rfl rfl) ?_
            refine TriL.g1 rfl (ltb rfl) rfl hg6 (op_lenl (ltb rfl) un67_M3 rfl) ?_
            refine TriL.g1 rfl (ltb rfl) rfl hg6 (op_bin (ltb rfl) rfl rfl rfl) ?_
            refine TriL.c1 rfl (op_pickf (ltb rfl) rfl hg6 rfl) ?_
            refine TriL.c1 rfl (op_as (ltb rfl) rfl) ?_
            refine TriL.nil ?_
            refine Tri.region ?_
            refine TriL.c1 rfl (op_mv (ltb rfl) rfl) ?_
            refine TriL.c1 rfl (op_bin (ltb rfl) rfl rfl rfl) ?_
            refine TriL.c1 rfl (op_as (ltb rfl) rfl) ?_
            refine TriL.kept (Kept.seti 5 rfl (inc (by omega)) (Kept.keep [.s 5, .s 3, .h, .s 1, .b 1] rfl (by decide) (Kept.now ?_)))
            exact ⟨(k + 1, _), (by dsimp only; omega), by grind, rfl⟩
      · have hk := gem hc4
        have hS := any_end (p := (fun m : Msg => decide (10 < m.fields.length) || decide (8 < m.barred.length))) hk
        refine Tri.exit ?_
        refine Tri.seq ?_
        refine Tri.region ?_
        refine TriL.c1 rfl (op_mv (ltb rfl) rfl) ?_
        refine TriL.c1 rfl (op_as (ltb rfl) rfl) ?_
        refine TriL.nil ?_
        refine Tri.ret ?_
        exact ⟨.inr rfl, (ResOK.r1 rfl (.tmp rfl .nil)).cast (congrArg AV.bool (by grind [Sch.many])), rfl⟩
theorem r_none (s : Sch) (hs : s.sm) : Pure Tryz.prog 37 [s.av] (.bool s.none) := by
  have := hs.e
  have := hs.m
  refine Pure.of_tri Tryz.func37 rfl rfl (ltb rfl) fun H => ?_
  refine Tri.seq ?_
  refine Tri.region ?_
  refine TriL.c2 rfl (op_box (ltb rfl) rfl rfl rfl) ?_
  refine TriL.c1 rfl (op_as (ltb rfl) rfl) ?_
  refine TriL.nil ?_
  refine Tri.seq ?_
  refine Tri.region ?_
  refine TriL.c1 rfl (op_fal (ltb rfl) fo25_1_M3 rfl) ?_
  refine TriL.c1 rfl (op_ldl (ltb rfl) lk23_M3 rfl rfl rfl) ?_
  refine TriL.c1 rfl (op_lenl (ltb rfl) un23_M3 rfl) ?_
  refine TriL.c1 rfl (op_bin (ltb rfl) rfl rfl rfl) ?_
  refine TriL.c1 rfl (op_as (ltb rfl) rfl) ?_
  refine TriL.nil ?_
  refine Tri.seq ?_
  refine Tri.seq ?_
  refine Tri.region ?_
  refine TriL.c1 rfl (op_as (ltb rfl) rfl) ?_
  refine TriL.nil ?_
  refine Tri.blk ?_
  refine Tri.ofKept (Kept.keep [.s 4, .s 3, .h, .s 1, .b 1] rfl (by decide) (Kept.now ?_))
  -- LOOP 1
  refine Tri.loopk (fun ((i, b) : Nat × Bool) => [(.s 4, .sv (.v (.int .i64 (i : Int)))), (.s 3, .sv (.v (.bool b)))]) _ (fun ((i, b) : Nat × Bool) => (b || (s.enums.drop i).any (fun e : Enm => decide (e.values.length = 0))) = s.none) (fun ((i, b) : Nat × Bool) => s.enums.length - i) (0, _) rfl (by grind [Sch.none]) ?_
  rintro ⟨i, b⟩ hI
  refine Tri.seq ?_
  refine Tri.seq ?_
  refine Tri.region ?_
  refine TriL.c1 rfl (op_mv (ltb rfl) rfl) ?_
  refine TriL.c1 rfl (op_fal (ltb rfl) fo25_0_M3 rfl) ?_
  refine TriL.c1 rfl (op_ldl (ltb rfl) lk22_M3 rfl rfl rfl) ?_
  refine TriL.c1 rfl (op_lenl (ltb rfl) un22_M3 rfl) ?_
  refine TriL.c1 rfl (op_bin (ltb rfl) rfl rfl rfl) ?_
  refine TriL.nil ?_
  refine Tri.cond rfl (fun hc1 => ?_) (fun hc1 => ?_)
  · have hi := ltm hc1
    have hS := any_step (p := (fun e : Enm => decide (e.values.length = 0))) hi
    refine Tri.skip ?_
    refine Tri.seq ?_
    refine Tri.blk ?_
    refine Tri.region ?_
    refine TriL.c1 rfl (op_mv (ltb rfl) rfl) ?_
    refine TriL.c1 rfl (op_mv (ltb rfl) rfl) ?_
    refine TriL.split (d := 17) rfl (fun hg2 => ?_) (fun hg2 => ?_)
    · refine TriL.skipu rfl rfl (ltb rfl) (ltb rfl) rfl hg2 ?_
      refine TriL.skipu rfl rfl (ltb rfl) (ltb rfl) rfl hg2 ?_
      refine TriL.skipu rfl rfl (ltb rfl) (ltb rfl) rfl hg2 ?_
      refine TriL.skipu rfl rfl (ltb rfl) (ltb rfl) rfl hg2 ?_
      refine TriL.skipu rfl rfl (ltb rfl) (ltb rfl) rfl hg2 ?_
      refine TriL.skipu rfl rfl (ltb rfl) (ltb rfl) rfl hg2 ?_
      refine TriL.skipu rfl rfl (ltb rfl) (ltb rfl) rfl hg2 ?_
      refine TriL.skipu rfl rfl (ltb rfl) (ltb rfl) rfl hg2 ?_
      refine TriL.c1 rfl (op_pickt (ltb rfl) rfl hg2 rfl) ?_
      refine TriL.c1 rfl (op_as (ltb rfl) rfl) ?_
      refine TriL.nil ?_
      refine Tri.region ?_
      refine TriL.c1 rfl (op_mv (ltb rfl) rfl) ?_
      refine TriL.c1 rfl (op_bin (ltb rfl) rfl rfl rfl) ?_
      refine TriL.c1 rfl (op_as (ltb rfl) rfl) ?_
      refine TriL.kept (Kept.seti 4 rfl (inc (by omega)) (Kept.keep [.s 4, .s 3, .h, .s 1, .b 1] rfl (by decide) (Kept.now ?_)))
      exact ⟨(i + 1, _), (by dsimp only; omega), by grind, rfl⟩
    · refine TriL.g1 rfl (ltb rfl) rfl hg2 (op_fal (ltb rfl) fo25_0_M3 rfl) ?_
      refine TriL.g1 rfl (ltb rfl) rfl hg2 (op_ldl (ltb rfl) lk22_M3 rfl rfl rfl) ?_
      refine TriL.g1 rfl (ltb rfl) rfl hg2 (op_mv (ltb rfl) rfl) ?_
      refine TriL.g1 rfl (ltb rfl) rfl hg2 (op_iak (ltb rfl) ie22_M3 rfl rfl (Int.natCast_nonneg _) (ixm hi) rfl) ?_
      refine TriL.g1 rfl (ltb rfl) rfl hg2 (op_fak (ltb rfl) fo94_1_M3 rfl) ?_
      refine TriL.g1 rfl (ltb rfl) rfl hg2 (op_ldk (ltb rfl) lk92_M3 rfl rfl) ?_
      refine TriL.g1 rfl (ltb rfl) rfl hg2 (op_lenl (ltb rfl) un92_M3 rfl) ?_
      refine TriL.g1 rfl (ltb rfl) rfl hg2 (op_bin (ltb rfl) rfl rfl rfl) ?_
      refine TriL.c1 rfl (op_pickf (ltb rfl) rfl hg2 rfl) ?_
      refine TriL.c1 rfl (op_as (ltb rfl) rfl) ?_
      refine TriL.nil ?_
      refine Tri.region ?_
      refine TriL.c1 rfl (op_mv (ltb rfl) rfl) ?_
      refine TriL.c1 rfl (op_bin (ltb rfl) rfl rfl rfl) ?_
      refine TriL.c1 rfl (op_as (ltb rfl) rfl) ?_
      refine TriL.kept (Kept.seti 4 rfl (inc (by omega)) (Kept.keep [.s 4, .s 3, .h, .s 1, .b 1] rfl (by decide) (Kept.now ?_)))
      exact ⟨(i + 1, _), (by dsimp only; omega), by grind, rfl⟩
  · have hi := gem hc1
    have hS := any_end (p := (fun e : Enm => decide (e.values.length = 0))) hi
    refine Tri.exit ?_
    refine Tri.seq ?_
    refine Tri.region ?_
    refine TriL.c1 rfl (op_mv (ltb rfl) rfl) ?_
    refine TriL.c1 rfl (op_as (ltb rfl) rfl) ?_
    refine TriL.nil ?_
    refine Tri.ret ?_
    exact ⟨.inr rfl, (ResOK.r1 rfl (.tmp rfl .nil)).cast (congrArg AV.bool (by grind [Sch.none])), rfl⟩
theorem r_text (s : Sch) (hs : s.sm) : Pure Tryz.prog 38 [s.av] (.bool s.text) := by
  have := hs.e
  have := hs.m
  refine Pure.of_tri Tryz.func38 rfl rfl (ltb rfl) fun H => ?_
  refine Tri.seq ?_
  refine Tri.region ?_
  refine TriL.c2 rfl (op_box (ltb rfl) rfl rfl rfl) ?_
  refine TriL.c1 rfl (op_as (ltb rfl) rfl) ?_
  refine TriL.nil ?_
  refine Tri.seq ?_
  refine Tri.region ?_
  refine TriL.c1 rfl (op_as (ltb rfl) rfl) ?_
  refine TriL.nil ?_
  refine Tri.seq ?_
  refine Tri.seq ?_
  refine Tri.region ?_
  refine TriL.c1 rfl (op_as (ltb rfl) rfl) ?_
  refine TriL.nil ?_
  refine Tri.blk ?_
  refine Tri.ofKept (Kept.keep [.s 4, .s 3, .h, .s 1, .b 1] rfl (by decide) (Kept.now ?_))
  -- LOOP 1
  refine Tri.loopk (fun ((i, b) : Nat × Bool) => [(.s 4, .sv (.v (.int .i64 (i : Int)))), (.s 3, .sv (.v (.bool b)))]) _ (fun ((i, b) : Nat × Bool) => (b || (s.enums.drop i).any (fun e : Enm => !nameOK e.name || e.values.any fun v => !nameOK v.name)) = (s.enums.any (fun e : Enm => !nameOK e.name || e.values.any fun v => !nameOK v.name))) (fun ((i, b) : Nat × Bool) => s.enums.length - i) (0, _) rfl (by grind) ?_
  rintro ⟨i, b⟩ hI
  refine Tri.seq ?_
  refine Tri.seq ?_
  refine Tri.region ?_
  refine TriL.c1 rfl (op_mv (ltb rfl) rfl) ?_
  refine TriL.c1 rfl (op_fal (ltb rfl) fo25_0_M3 rfl) ?_
  refine TriL.c1 rfl (op_ldl (ltb rfl) lk22_M3 rfl rfl rfl) ?_
  refine TriL.c1 rfl (op_lenl (ltb rfl) un22_M3 rfl) ?_
  refine TriL.c1 rfl (op_bin (ltb rfl) rfl rfl rfl) ?_
  refine TriL.nil ?_
  refine Tri.cond rfl (fun hc1 => ?_) (fun hc1 => ?_)
  · have hi := ltm hc1
    have hS := any_step (p := (fun e : Enm => !nameOK e.name || e.values.any fun v => !nameOK v.name)) hi
    have := hs.vi hi
    refine Tri.skip ?_
    refine Tri.seq ?_
    refine Tri.blk ?_
    refine Tri.joinu [.h, .s 1, .b 1, .s 4] (fun (b1 : Bool) => [(.s 3, .sv (.v (.bool b1)))]) (fun (b1 : Bool) => b1 = (b || !nameOK s.enums[i].name)) rfl ?_ ?_
    · -- region 5 ref.go:46
      refine Tri.region ?_
      refine TriL.c1 rfl (op_mv (ltb rfl) rfl) ?_
      refine TriL.c1 rfl (op_mv (ltb rfl) rfl) ?_
      refine TriL.split (d := 15) rfl (fun hg2 => ?_) (fun hg2 => ?_)
      · refine TriL.skipu rfl rfl (ltb rfl) (ltb rfl) rfl hg2 ?_
        refine TriL.skipu rfl rfl (ltb rfl) (ltb rfl) rfl hg2 ?_
        refine TriL.skipu rfl rfl (ltb rfl) (ltb rfl) rfl hg2 ?_
        refine TriL.skipu rfl rfl (ltb rfl) (ltb rfl) rfl hg2 ?_
        refine TriL.skipu rfl rfl (ltb rfl) (ltb rfl) rfl hg2 ?_
        refine TriL.skipu rfl rfl (ltb rfl) (ltb rfl) rfl hg2 ?_
        refine TriL.skipu rfl rfl (ltb rfl) (ltb rfl) rfl hg2 ?_
        refine TriL.skipu rfl rfl (ltb rfl) (ltb rfl) rfl hg2 ?_
        refine TriL.c1 rfl (op_pickt (ltb rfl) rfl hg2 rfl) ?_
        refine TriL.c1 rfl (op_as (ltb rfl) rfl) ?_
        refine TriL.kept (Kept.keep [.s 3, .h, .s 1, .b 1, .s 4] rfl (by decide) (Kept.now ?_))
        exact ⟨_, by grind, rfl⟩
      · refine TriL.g1 rfl (ltb rfl) rfl hg2 (op_fal (ltb rfl) fo25_0_M3 rfl) ?_
        refine TriL.g1 rfl (ltb rfl) rfl hg2 (op_ldl (ltb rfl) lk22_M3 rfl rfl rfl) ?_
        refine TriL.g1 rfl (ltb rfl) rfl hg2 (op_mv (ltb rfl) rfl) ?_
        refine TriL.g1 rfl (ltb rfl) rfl hg2 (op_iak (ltb rfl) ie22_M3 rfl rfl (Int.natCast_nonneg _) (ixm hi) rfl) ?_
        refine TriL.g1 rfl (ltb rfl) rfl hg2 (op_fak (ltb rfl) fo94_0_M3 rfl) ?_
        refine TriL.g1 rfl (ltb rfl) rfl hg2 (op_ldk (ltb rfl) lk9_M3 rfl rfl) ?_
        refine TriL.g1 rfl (ltb rfl) rfl hg2 (op_call (ltb rfl) fn69_M3 rfl (r_nameOK _)) ?_
        refine TriL.g1 rfl (ltb rfl) rfl hg2 (op_un (ltb rfl) rfl rfl) ?_
        refine TriL.c1 rfl (op_pickf (ltb rfl) rfl hg2 rfl) ?_
        refine TriL.c1 rfl (op_as (ltb rfl) rfl) ?_
        refine TriL.kept (Kept.keep [.s 3, .h, .s 1, .b 1, .s 4] rfl (by decide) (Kept.now ?_))
        exact ⟨_, by grind, rfl⟩
    · rintro b1 hF6
      refine Tri.seq ?_
      refine Tri.region ?_
      refine TriL.c1 rfl (op_as (ltb rfl) rfl) ?_
      refine TriL.nil ?_
      refine Tri.blk ?_
      refine Tri.ofKept (Kept.keep [.s 5, .s 3, .h, .s 1, .b 1, .s 4] rfl (by decide) (Kept.now ?_))
      -- LOOP 2
      refine Tri.loopk (fun ((k, b) : Nat × Bool) => [(.s 5, .sv (.v (.int .i64 (k : Int)))), (.s 3, .sv (.v (.bool b)))]) _ (fun ((k, b) : Nat × Bool) => (b || ((s.enums[i]'hi).values.drop k).any (fun v : Vlu => !nameOK v.name)) = (b1 || (s.enums[i]'hi).values.any (fun v : Vlu => !nameOK v.name))) (fun ((k, b) : Nat × Bool) => (s.enums[i]'hi).values.length - k) (0, _) rfl (by grind) ?_
      rintro ⟨k, b⟩ hI
      refine Tri.seq ?_
      refine Tri.seq ?_
      refine Tri.region ?_
      refine TriL.c1 rfl (op_mv (ltb rfl) rfl) ?_
      refine TriL.c1 rfl (op_fal (ltb rfl) fo25_0_M3 rfl) ?_
      refine TriL.c1 rfl (op_ldl (ltb rfl) lk22_M3 rfl rfl rfl) ?_
      refine TriL.c1 rfl (op_mv (ltb rfl) rfl) ?_
      refine TriL.c1 rfl (op_iak (ltb rfl) ie22_M3 rfl rfl (Int.natCast_nonneg _) (ixm hi) rfl) ?_
      refine TriL.c1 rfl (op_fak (ltb rfl) fo94_1_M3 rfl) ?_
      refine TriL.c1 rfl (op_ldk (ltb rfl) lk92_M3 rfl rfl) ?_
      refine TriL.c1 rfl (op_lenl (ltb rfl) un92_M3 rfl) ?_
      refine TriL.c1 rfl (op_bin (ltb rfl) rfl rfl rfl) ?_
      refine TriL.nil ?_
      refine Tri.cond rfl (fun hc3 => ?_) (fun hc3 => ?_)
      · have hk := ltm hc3
        have hS := any_step (p := (fun v : Vlu => !nameOK v.name)) hk
        refine Tri.skip ?_
        refine Tri.seq ?_
        refine Tri.blk ?_
        refine Tri.region ?_
        refine TriL.c1 rfl (op_mv (ltb rfl) rfl) ?_
        refine TriL.c1 rfl (op_mv (ltb rfl) rfl) ?_
        refine TriL.split (d := 37) rfl (fun hg4 => ?_) (fun hg4 => ?_)
        · refine TriL.skipu rfl rfl (ltb rfl) (ltb rfl) rfl hg4 ?_
          refine TriL.skipu rfl rfl (ltb rfl) (ltb rfl) rfl hg4 ?_
          refine TriL.skipu rfl rfl (ltb rfl) (ltb rfl) rfl hg4 ?_
          refine TriL.skipu rfl rfl (ltb rfl) (ltb rfl) rfl hg4 ?_
          refine TriL.skipu rfl rfl (ltb rfl) (ltb rfl) rfl hg4 ?_
          refine TriL.skipu rfl rfl (ltb rfl) (ltb rfl) rfl hg4 ?_
          refine TriL.skipu rfl rfl (ltb rfl) (ltb rfl) rfl hg4 ?_
          refine TriL.skipu rfl rfl (ltb rfl) (ltb rfl) rfl hg4 ?_
          refine TriL.skipu rfl rfl (ltb rfl) (ltb rfl) rfl hg4 ?_
          refine TriL.skipu rfl rfl (ltb rfl) (ltb rfl) rfl hg4 ?_
          refine TriL.skipu rfl rfl (ltb rfl) (ltb rfl) rfl hg4 ?_
          refine TriL.skipu rfl rfl (ltb rfl) (ltb rfl) rfl hg4 ?_
          refine TriL.c1 rfl (op_pickt (ltb rfl) rfl hg4 rfl) ?_
          refine TriL.c1 rfl (op_as (ltb rfl) rfl) ?_
          refine TriL.nil ?_
          refine Tri.region ?_
          refine TriL.c1 rfl (op_mv (ltb rfl) rfl) ?_
          refine TriL.c1 rfl (op_bin (ltb rfl) rfl rfl rfl) ?_
          refine TriL.c1 rfl (op_as (ltb rfl) rfl) ?_
          refine TriL.kept (Kept.seti 5 rfl (inc (by omega)) (Kept.keep [.s 5, .s 3, .h, .s 1, .b 1, .s 4] rfl (by decide) (Kept.now ?_)))
          exact ⟨(k + 1, _), (by dsimp only; omega), by grind, rfl⟩
        · refine TriL.g1 rfl (ltb rfl) rfl hg4 (op_fal (ltb rfl) fo25_0_M3 rfl) ?_
          refine TriL.g1 rfl (ltb rfl) rfl hg4 (op_ldl (ltb rfl) lk22_M3 rfl rfl rfl) ?_
          refine TriL.g1 rfl (ltb rfl) rfl hg4 (op_mv (ltb rfl) rfl) ?_
          refine TriL.g1 rfl (ltb rfl) rfl hg4 (op_iak (ltb rfl) ie22_M3 rfl rfl (Int.natCast_nonneg _) (ixm hi) rfl) ?_
          refine TriL.g1 rfl (ltb rfl) rfl hg4 (op_fak (ltb rfl) fo94_1_M3 rfl) ?_
          refine TriL.g1 rfl (ltb rfl) rfl hg4 (op_ldk (ltb rfl) lk92_M3 rfl rfl) ?_
          refine TriL.g1 rfl (ltb rfl) rfl hg4 (op_mv (ltb rfl) rfl) ?_
          refine TriL.g1 rfl (ltb rfl) rfl hg4 (op_iak (ltb rfl) ie92_M3 rfl rfl (Int.natCast_nonneg _) (ixm hk) rfl) ?_
          refine TriL.g1 rfl (ltb rfl) rfl hg4 (op_fak (ltb rfl) fo96_0_M3 rfl) ?_
          refine TriL.g1 rfl (ltb rfl) rfl hg4 (op_ldk (ltb rfl) lk9_M3 rfl rfl) ?_
          refine TriL.g1 rfl (ltb rfl) rfl hg4 (op_call (ltb rfl) fn69_M3 rfl (r_nameOK _)) ?_
          refine TriL.g1 rfl (ltb rfl) rfl hg4 (op_un (ltb rfl) rfl rfl) ?_
          refine TriL.c1 rfl (op_pickf (ltb rfl) rfl hg4 rfl) ?_
          refine TriL.c1 rfl (op_as (ltb rfl) rfl) ?_
          refine TriL.nil ?_
          refine Tri.region ?_
          refine TriL.c1 rfl (op_mv (ltb rfl) rfl) ?_
          refine TriL.c1 rfl (op_bin (ltb rfl) rfl rfl rfl) ?_
          refine TriL.c1 rfl (op_as (ltb rfl) rfl) ?_
          refine TriL.kept (Kept.seti 5 rfl (inc (by omega)) (Kept.keep [.s 5, .s 3, .h, .s 1, .b 1, .s 4] rfl (by decide) (Kept.now ?_)))
          exact ⟨(k + 1, _), (by dsimp only; omega), by grind, rfl⟩
      · have hk := gem hc3
        have hS := any_end (p := (fun v : Vlu => !nameOK v.name)) hk
        refine Tri.exit ?_
        refine Tri.region ?_
        refine TriL.c1 rfl (op_mv (ltb rfl) rfl) ?_
        refine TriL.c1 rfl (op_bin (ltb rfl) rfl rfl rfl) ?_
        refine TriL.c1 rfl (op_as (ltb rfl) rfl) ?_
        refine TriL.kept (Kept.seti 4 rfl (inc (by omega)) (Kept.keep [.s 4, .s 3, .h, .s 1, .b 1] rfl (by decide) (Kept.now ?_)))
        exact ⟨(i + 1, _), (by dsimp only; omega), by grind, rfl⟩
  · have hi := gem hc1
    have hS := any_end (p := (fun e : Enm => !nameOK e.name || e.values.any fun v => !nameOK v.name)) hi
    refine Tri.exit ?_
    refine Tri.seq ?_
    refine Tri.seq ?_
    refine Tri.region ?_
    refine TriL.c1 rfl (op_as (ltb rfl) rfl) ?_
    refine TriL.nil ?_
    refine Tri.blk ?_
    refine Tri.ofKept (Kept.keep [.s 6, .s 3, .h, .s 1, .b 1] rfl (by decide) (Kept.now ?_))
    -- LOOP 3
    refine Tri.loopk (fun ((j, b) : Nat × Bool) => [(.s 6, .sv (.v (.int .i64 (j : Int)))), (.s 3, .sv (.v (.bool b)))]) _ (fun ((j, b) : Nat × Bool) => (b || (s.msgs.drop j).any (fun m : Msg => !nameOK m.name)) = s.text) (fun ((j, b) : Nat × Bool) => s.msgs.length - j) (0, _) rfl (by grind [Sch.text]) ?_
    rintro ⟨j, b⟩ hI
    refine Tri.seq ?_
    refine Tri.seq ?_
    refine Tri.region ?_
    refine TriL.c1 rfl (op_mv (ltb rfl) rfl) ?_
    refine TriL.c1 rfl (op_fal (ltb rfl) fo25_1_M3 rfl) ?_
    refine TriL.c1 rfl (op_ldl (ltb rfl) lk23_M3 rfl rfl rfl) ?_
    refine TriL.c1 rfl (op_lenl (ltb rfl) un23_M3 rfl) ?_
    refine TriL.c1 rfl (op_bin (ltb rfl) rfl rfl rfl) ?_
    refine TriL.nil ?_
    refine Tri.cond rfl (fun hc5 => ?_) (fun hc5 => ?_)
    · have hj := ltm hc5
      have hS := any_step (p := (fun m : Msg => !nameOK m.name)) hj
      refine Tri.skip ?_
      refine Tri.seq ?_
      refine Tri.blk ?_
      refine Tri.region ?_
      refine TriL.c1 rfl (op_mv (ltb rfl) rfl) ?_
      refine TriL.c1 rfl (op_mv (ltb rfl) rfl) ?_
      refine TriL.split (d := 59) rfl (fun hg6 => ?_) (fun hg6 => ?_)
      · refine TriL.skipu rfl rfl (ltb rfl) (ltb rfl) rfl hg6 ?_
        refine TriL.skipu rfl rfl (ltb rfl) (ltb rfl) rfl hg6 ?_
        refine TriL.skipu rfl rfl (ltb rfl) (ltb rfl) rfl hg6 ?_
        refine TriL.skipu rfl rfl (ltb rfl) (ltb rfl) rfl hg6 ?_
        refine TriL.skipu rfl rfl (ltb rfl) (ltb rfl) rfl hg6 ?_
        refine TriL.skipu rfl rfl (ltb rfl) (ltb rfl) rfl hg6 ?_
        refine TriL.skipu rfl rfl (ltb rfl) (ltb rfl) rfl hg6 ?_
        refine TriL.skipu rfl rfl (ltb rfl) (ltb rfl) rfl hg6 ?_
        refine TriL.c1 rfl (op_pickt (ltb rfl) rfl hg6 rfl) ?_
        refine TriL.c1 rfl (op_as (ltb rfl) rfl) ?_
        refine TriL.nil ?_
        refine Tri.region ?_
        refine TriL.c1 rfl (op_mv (ltb rfl) rfl) ?_
        refine TriL.c1 rfl (op_bin (ltb rfl) rfl rfl rfl) ?_
        refine TriL.c1 rfl (op_as (ltb rfl) rfl) ?_
        refine TriL.kept (Kept.seti 6 rfl (inc (by omega)) (Kept.keep [.s 6, .s 3, .h, .s 1, .b 1] rfl (by decide) (Kept.now ?_)))
        exact ⟨(j + 1, _), (by dsimp only; omega), by grind, rfl⟩
      · refine TriL.g1 rfl (ltb rfl) rfl hg6 (op_fal (ltb rfl) fo25_1_M3 rfl) ?_
        refine TriL.g1 rfl (ltb rfl) rfl hg6 (op_ldl (ltb rfl) lk23_M3 rfl rfl rfl) ?_
        refine TriL.g1 rfl (ltb rfl) rfl hg6 (op_mv (ltb rfl) rfl) ?_
        refine TriL.g1 rfl (ltb rfl) rfl hg6 (op_iak (ltb rfl) ie23_M3 rfl rfl (Int.natCast_nonneg _) (ixm hj) rfl) ?_
        refine TriL.g1 rfl (ltb rfl) rfl hg6 (op_fak (ltb rfl) fo78_0_M3 rfl) ?_
        refine TriL.g1 rfl (ltb rfl) rfl hg6 (op_ldk (ltb rfl) lk9_M3 rfl rfl) ?_
        refine TriL.g1 rfl (ltb rfl) rfl hg6 (op_call (ltb rfl) fn69_M3 rfl (r_nameOK _)) ?_
        refine TriL.g1 rfl (ltb rfl) rfl hg6 (op_un (ltb rfl) rfl rfl) ?_
        refine TriL.c1 rfl (op_pickf (ltb rfl) rfl hg6 rfl) ?_
        refine TriL.c1 rfl (op_as (ltb rfl) rfl) ?_
        refine TriL.nil ?_
        refine Tri.region ?_
        refine TriL.c1 rfl (op_mv (ltb rfl) rfl) ?_
        refine TriL.c1 rfl (op_bin (ltb rfl) rfl rfl rfl) ?_
        refine TriL.c1 rfl (op_as (ltb rfl) rfl) ?_
        refine TriL.kept (Kept.seti 6 rfl (inc (by omega)) (Kept.keep [.s 6, .s 3, .h, .s 1, .b 1] rfl (by decide) (Kept.now ?_)))
        exact ⟨(j + 1, _), (by dsimp only; omega), by grind, rfl⟩
    · have hj := gem hc5
      have hS := any_end (p := (fun m : Msg => !nameOK m.name)) hj
      refine Tri.exit ?_
      refine Tri.seq ?_
      refine Tri.region ?_
      refine TriL.c1 rfl (op_mv (ltb rfl) rfl) ?_
      refine TriL.c1 rfl (op_as (ltb rfl) rfl) ?_
      refine TriL.nil ?_
      refine Tri.ret ?_
      exact ⟨.inr rfl, (ResOK.r1 rfl (.tmp rfl .nil)).cast (congrArg AV.bool (by grind [Sch.text])), rfl⟩
theorem r_fields (s : Sch) (hs : s.sm) : Pure Tryz.prog 39 [s.av] (.int .i64 (chkMsgs s.msgs)) := by
  have := hs.e
  have := hs.m
  refine Pure.of_tri Tryz.func39 rfl rfl (ltb rfl) fun H => ?_
  refine Tri.seq ?_
  refine Tri.region ?_
  refine TriL.c2 rfl (op_box (ltb rfl) rfl rfl rfl) ?_
  refine TriL.c1 rfl (op_as (ltb rfl) rfl) ?_
  refine TriL.nil ?_
  refine Tri.seq ?_
  refine Tri.seq ?_
  refine Tri.region ?_
  refine TriL.c1 rfl (op_as (ltb rfl) rfl) ?_
  refine TriL.nil ?_
  refine Tri.blk ?_
  refine Tri.ofKept (Kept.keep [.s 3, .h, .s 1, .b 1] rfl (by decide) (Kept.now ?_))
  -- LOOP 1
  refine Tri.loopk (fun (i : Nat) => [(.s 3, .sv (.v (.int .i64 (i : Int))))]) _ (fun (i : Nat) => chkMsgs (s.msgs.drop i) = chkMsgs s.msgs) (fun (i : Nat) => s.msgs.length - i) 0 rfl (by simp) ?_
  rintro i hI
  refine Tri.seq ?_
  refine Tri.seq ?_
  refine Tri.region ?_
  refine TriL.c1 rfl (op_mv (ltb rfl) rfl) ?_
  refine TriL.c1 rfl (op_fal (ltb rfl) fo25_1_M3 rfl) ?_
  refine TriL.c1 rfl (op_ldl (ltb rfl) lk23_M3 rfl rfl rfl) ?_
  refine TriL.c1 rfl (op_lenl (ltb rfl) un23_M3 rfl) ?_
  refine TriL.c1 rfl (op_bin (ltb rfl) rfl rfl rfl) ?_
  refine TriL.nil ?_
  refine Tri.cond rfl (fun hc1 => ?_) (fun hc1 => ?_)
  · have hi := ltm hc1
    have hS := chkMsgs_step hi
    have := hs.fi hi
    have := hs.bi hi
    refine Tri.skip ?_
    refine Tri.seq ?_
    refine Tri.blk ?_
    refine Tri.seq ?_
    refine Tri.region ?_
    refine TriL.c1 rfl (op_as (ltb rfl) rfl) ?_
    refine TriL.nil ?_
    refine Tri.blk ?_
    refine Tri.ofKept (Kept.keep [.s 4, .h, .s 1, .b 1, .s 3] rfl (by decide) (Kept.now ?_))
    -- LOOP 2
    refine Tri.loopk (fun (k : Nat) => [(.s 4, .sv (.v (.int .i64 (k : Int))))]) _ (fun (k : Nat) => chkFields ((s.msgs[i]'hi).fields.drop k) = chkFields (s.msgs[i]'hi).fields) (fun (k : Nat) => (s.msgs[i]'hi).fields.length - k) 0 rfl (by simp) ?_
    rintro k hK
    refine Tri.seq ?_
    refine Tri.seq ?_
    refine Tri.region ?_
    refine TriL.c1 rfl (op_mv (ltb rfl) rfl) ?_
    refine TriL.c1 rfl (op_fal (ltb rfl) fo25_1_M3 rfl) ?_
    refine TriL.c1 rfl (op_ldl (ltb rfl) lk23_M3 rfl rfl rfl) ?_
    refine TriL.c1 rfl (op_mv (ltb rfl) rfl) ?_
    refine TriL.c1 rfl (op_iak (ltb rfl) ie23_M3 rfl rfl (Int.natCast_nonneg _) (ixm hi) rfl) ?_
    refine TriL.c1 rfl (op_fak (ltb rfl) fo78_1_M3 rfl) ?_
    refine TriL.c1 rfl (op_ldk (ltb rfl) lk76_M3 rfl rfl) ?_
    refine TriL.c1 rfl (op_lenl (ltb rfl) un76_M3 rfl) ?_
    refine TriL.c1 rfl (op_bin (ltb rfl) rfl rfl rfl) ?_
    refine TriL.nil ?_
    refine Tri.cond rfl (fun hc2 => ?_) (fun hc2 => ?_)
    · have hk := ltm hc2
      have hT := chkFields_step hk
      refine Tri.skip ?_
      refine Tri.seq ?_
      refine Tri.blk ?_
      refine Tri.seq ?_
      refine Tri.region ?_
      refine TriL.c1 rfl (op_fal (ltb rfl) fo25_1_M3 rfl) ?_
      refine TriL.c1 rfl (op_ldl (ltb rfl) lk23_M3 rfl rfl rfl) ?_
      refine TriL.c1 rfl (op_mv (ltb rfl) rfl) ?_
      refine TriL.c1 rfl (op_iak (ltb rfl) ie23_M3 rfl rfl (Int.natCast_nonneg _) (ixm hi) rfl) ?_
      refine TriL.c1 rfl (op_fak (ltb rfl) fo78_1_M3 rfl) ?_
      refine TriL.c1 rfl (op_ldk (ltb rfl) lk76_M3 rfl rfl) ?_
      refine TriL.c1 rfl (op_mv (ltb rfl) rfl) ?_
      refine TriL.c1 rfl (op_iak (ltb rfl) ie76_M3 rfl rfl (Int.natCast_nonneg _) (ixm hk) rfl) ?_
      refine TriL.c1 rfl (op_ldk (ltb rfl) lk98_M3 rfl rfl) ?_
      refine TriL.c1 rfl (op_call (ltb rfl) fn70_M3 rfl (r_fchk _)) ?_
      refine TriL.c1 rfl (op_as (ltb rfl) rfl) ?_
      refine TriL.nil ?_
      refine Tri.seq ?_
      refine Tri.region ?_
      refine TriL.c1 rfl (op_mv (ltb rfl) rfl) ?_
      refine TriL.c1 rfl (op_bin (ltb rfl) rfl rfl rfl) ?_
      refine TriL.nil ?_
      refine Tri.cond rfl (fun hc3 => ?_) (fun hc3 => ?_)
      · refine Tri.seq ?_
        refine Tri.region ?_
        refine TriL.c1 rfl (op_mv (ltb rfl) rfl) ?_
        refine TriL.c1 rfl (op_as (ltb rfl) rfl) ?_
        refine TriL.nil ?_
        refine Tri.ret ?_
        exact ⟨.inr rfl, (ResOK.r1 rfl (.tmp rfl .nil)).cast (congrArg (AV.int .i64) (by grind [])), rfl⟩
      · refine Tri.skip ?_
        refine Tri.region ?_
        refine TriL.c1 rfl (op_mv (ltb rfl) rfl) ?_
        refine TriL.c1 rfl (op_bin (ltb rfl) rfl rfl rfl) ?_
        refine TriL.c1 rfl (op_as (ltb rfl) rfl) ?_
        refine TriL.kept (Kept.seti 4 rfl (inc (by omega)) (Kept.keep [.s 4, .h, .s 1, .b 1, .s 3] rfl (by decide) (Kept.now ?_)))
        exact ⟨k + 1, by omega, by grind, rfl⟩
    · have hk := gem hc2
      have hT := chkFields_end hk
      refine Tri.exit ?_
      refine Tri.region ?_
      refine TriL.c1 rfl (op_mv (ltb rfl) rfl) ?_
      refine TriL.c1 rfl (op_bin (ltb rfl) rfl rfl rfl) ?_
      refine TriL.c1 rfl (op_as (ltb rfl) rfl) ?_
      refine TriL.kept (Kept.seti 3 rfl (inc (by omega)) (Kept.keep [.s 3, .h, .s 1, .b 1] rfl (by decide) (Kept.now ?_)))
      exact ⟨i + 1, by omega, by grind, rfl⟩
  · have hi := gem hc1
    have hS := chkMsgs_end hi
    refine Tri.exit ?_
    refine Tri.seq ?_
    refine Tri.region ?_
    refine TriL.c1 rfl (op_as (ltb rfl) rfl) ?_
    refine TriL.nil ?_
    refine Tri.ret ?_
    exact ⟨.inr rfl, (ResOK.r1 rfl (.tmp rfl .nil)).cast (congrArg (AV.int .i64) (by grind [])), rfl⟩
theorem r_barred (s : Sch) (hs : s.sm) : Pure Tryz.prog 42 [s.av] (.bool s.barred) := by
  have := hs.e
  have := hs.m
  refine Pure.of_tri Tryz.func42 rfl rfl (ltb rfl) fun H => ?_
  refine Tri.seq ?_
  refine Tri.region ?_
  refine TriL.c2 rfl (op_box (ltb rfl) rfl rfl rfl) ?_
  refine TriL.c1 rfl (op_as (ltb rfl) rfl) ?_
  refine TriL.nil ?_
  refine Tri.seq ?_
  refine Tri.seq ?_
  refine Tri.region ?_
  refine TriL.c1 rfl (op_as (ltb rfl) rfl) ?_
  refine TriL.nil ?_
  refine Tri.blk ?_
  refine Tri.ofKept (Kept.keep [.s 3, .h, .s 1, .b 1] rfl (by decide) (Kept.now ?_))
  -- LOOP 1
  refine Tri.loopk (fun (i : Nat) => [(.s 3, .sv (.v (.int .i64 (i : Int))))]) _ (fun (i : Nat) => (s.msgs.drop i).any (fun m : Msg => m.fields.any fun f => m.barred.any (· == f.num)) = s.barred) (fun (i : Nat) => s.msgs.length - i) 0 rfl (by simp [Sch.barred]) ?_
  rintro i hI
  refine Tri.seq ?_
  refine Tri.seq ?_
  refine Tri.region ?_
  refine TriL.c1 rfl (op_mv (ltb rfl) rfl) ?_
  refine TriL.c1 rfl (op_fal (ltb rfl) fo25_1_M3 rfl) ?_
  refine TriL.c1 rfl (op_ldl (ltb rfl) lk23_M3 rfl rfl rfl) ?_
  refine TriL.c1 rfl (op_lenl (ltb rfl) un23_M3 rfl) ?_
  refine TriL.c1 rfl (op_bin (ltb rfl) rfl rfl rfl) ?_
  refine TriL.nil ?_
  refine Tri.cond rfl (fun hc1 => ?_) (fun hc1 => ?_)
  · have hi := ltm hc1
    have hS := any_step (p := (fun m : Msg => m.fields.any fun f => m.barred.any (· == f.num))) hi
    have := hs.fi hi
    have := hs.bi hi
    refine Tri.skip ?_
    refine Tri.seq ?_
    refine Tri.blk ?_
    refine Tri.seq ?_
    refine Tri.region ?_
    refine TriL.c1 rfl (op_as (ltb rfl) rfl) ?_
    refine TriL.nil ?_
    refine Tri.blk ?_
    refine Tri.ofKept (Kept.keep [.s 4, .h, .s 1, .b 1, .s 3] rfl (by decide) (Kept.now ?_))
    -- LOOP 2
    refine Tri.loopk (fun (k : Nat) => [(.s 4, .sv (.v (.int .i64 (k : Int))))]) _ (fun (k : Nat) => ((s.msgs[i]'hi).fields.drop k).any (fun f : Fld => (s.msgs[i]'hi).barred.any (· == f.num)) = (s.msgs[i]'hi).fields.any (fun f : Fld => (s.msgs[i]'hi).barred.any (· == f.num))) (fun (k : Nat) => (s.msgs[i]'hi).fields.length - k) 0 rfl (by simp) ?_
    rintro k hK
    refine Tri.seq ?_
    refine Tri.seq ?_
    refine Tri.region ?_
    refine TriL.c1 rfl (op_mv (ltb rfl) rfl) ?_
    refine TriL.c1 rfl (op_fal (ltb rfl) fo25_1_M3 rfl) ?_
    refine TriL.c1 rfl (op_ldl (ltb rfl) lk23_M3 rfl rfl rfl) ?_
    refine TriL.c1 rfl (op_mv (ltb rfl) rfl) ?_
    refine TriL.c1 rfl (op_iak (ltb rfl) ie23_M3 rfl rfl (Int.natCast_nonneg _) (ixm hi) rfl) ?_
    refine TriL.c1 rfl (op_fak (ltb rfl) fo78_1_M3 rfl) ?_
    refine TriL.c1 rfl (op_ldk (ltb rfl) lk76_M3 rfl rfl) ?_
    refine TriL.c1 rfl (op_lenl (ltb rfl) un76_M3 rfl) ?_
    refine TriL.c1 rfl (op_bin (ltb rfl) rfl rfl rfl) ?_
    refine TriL.nil ?_
    refine Tri.cond rfl (fun hc2 => ?_) (fun hc2 => ?_)
    · have hk := ltm hc2
      have hT := any_step (p := (fun f : Fld => (s.msgs[i]'hi).barred.any (· == f.num))) hk
      refine Tri.skip ?_
      refine Tri.seq ?_
      refine Tri.blk ?_
      refine Tri.seq ?_
      refine Tri.drawn mixed rfl ?_
      refine TriD.c1 rfl (op_fal (ltb rfl) fo25_1_M3 rfl) ?_
      refine TriD.c1 rfl (op_ldl (ltb rfl) lk23_M3 rfl rfl rfl) ?_
      refine TriD.c1 rfl (op_mv (ltb rfl) rfl) ?_
      refine TriD.c1 rfl (op_iak (ltb rfl) ie23_M3 rfl rfl (Int.natCast_nonneg _) (ixm hi) rfl) ?_
      refine TriD.c1 rfl (op_fak (ltb rfl) fo78_2_M3 rfl) ?_
      refine TriD.c1 rfl (op_ldk (ltb rfl) lk67_M3 rfl rfl) ?_
      refine TriD.c1 rfl (op_fal (ltb rfl) fo25_1_M3 rfl) ?_
      refine TriD.c1 rfl (op_ldl (ltb rfl) lk23_M3 rfl rfl rfl) ?_
      refine TriD.c1 rfl (op_mv (ltb rfl) rfl) ?_
      refine TriD.c1 rfl (op_iak (ltb rfl) ie23_M3 rfl rfl (Int.natCast_nonneg _) (ixm hi) rfl) ?_
      refine TriD.c1 rfl (op_fak (ltb rfl) fo78_1_M3 rfl) ?_
      refine TriD.c1 rfl (op_ldk (ltb rfl) lk76_M3 rfl rfl) ?_
      refine TriD.c1 rfl (op_mv (ltb rfl) rfl) ?_
      refine TriD.c1 rfl (op_iak (ltb rfl) ie76_M3 rfl rfl (Int.natCast_nonneg _) (ixm hk) rfl) ?_
      refine TriD.c1 rfl (op_fak (ltb rfl) fo98_1_M3 rfl) ?_
      refine TriD.c1 rfl (op_ldk (ltb rfl) lk3_M3 rfl rfl) ?_
      refine TriD.c1 rfl (op_call (ltb rfl) fn75_M3 rfl (r_has _ _ (by omega))) ?_
      refine TriD.nil (by kernel_rfl) (Kept.now ?_)
      refine Tri.cond rfl (fun hc3 => ?_) (fun hc3 => ?_)
      · refine Tri.seq ?_
        refine Tri.region ?_
        refine TriL.c1 rfl (op_as (ltb rfl) rfl) ?_
        refine TriL.nil ?_
        refine Tri.ret ?_
        exact ⟨.inr rfl, (ResOK.r1 rfl (.tmp rfl .nil)).cast (congrArg AV.bool (by grind [Sch.barred])), rfl⟩
      · refine Tri.skip ?_
        refine Tri.region ?_
        refine TriL.c1 rfl (op_mv (ltb rfl) rfl) ?_
        refine TriL.c1 rfl (op_bin (ltb rfl) rfl rfl rfl) ?_
        refine TriL.c1 rfl (op_as (ltb rfl) rfl) ?_
        refine TriL.kept (Kept.seti 4 rfl (inc (by omega)) (Kept.keep [.s 4, .h, .s 1, .b 1, .s 3] rfl (by decide) (Kept.now ?_)))
        exact ⟨k + 1, by omega, by grind, rfl⟩
    · have hk := gem hc2
      have hT := any_end (p := (fun f : Fld => (s.msgs[i]'hi).barred.any (· == f.num))) hk
      refine Tri.exit ?_
      refine Tri.region ?_
      refine TriL.c1 rfl (op_mv (ltb rfl) rfl) ?_
      refine TriL.c1 rfl (op_bin (ltb rfl) rfl rfl rfl) ?_
      refine TriL.c1 rfl (op_as (ltb rfl) rfl) ?_
      refine TriL.kept (Kept.seti 3 rfl (inc (by omega)) (Kept.keep [.s 3, .h, .s 1, .b 1] rfl (by decide) (Kept.now ?_)))
      exact ⟨i + 1, by omega, by grind, rfl⟩
  · have hi := gem hc1
    have hS := any_end (p := (fun m : Msg => m.fields.any fun f => m.barred.any (· == f.num))) hi
    refine Tri.exit ?_
    refine Tri.seq ?_
    refine Tri.region ?_
    refine TriL.c1 rfl (op_as (ltb rfl) rfl) ?_
    refine TriL.nil ?_
    refine Tri.ret ?_
    exact ⟨.inr rfl, (ResOK.r1 rfl (.tmp rfl .nil)).cast (congrArg AV.bool (by grind [Sch.barred])), rfl⟩
theorem r_refs (s : Sch) (hs : s.sm) : Pure Tryz.prog 43 [s.av] (.bool s.refs) := by
  have := hs.e
  have := hs.m
  refine Pure.of_tri Tryz.func43 rfl rfl (ltb rfl) fun H => ?_
  refine Tri.seq ?_
  refine Tri.region ?_
  refine TriL.c2 rfl (op_box (ltb rfl) rfl rfl rfl) ?_
  refine TriL.c1 rfl (op_as (ltb rfl) rfl) ?_
  refine TriL.nil ?_
  refine Tri.seq ?_
  refine Tri.seq ?_
  refine Tri.region ?_
  refine TriL.c1 rfl (op_as (ltb rfl) rfl) ?_
  refine TriL.nil ?_
  refine Tri.blk ?_
  refine Tri.ofKept (Kept.keep [.s 3, .h, .s 1, .b 1] rfl (by decide) (Kept.now ?_))
  -- LOOP 1
  refine Tri.loopk (fun (i : Nat) => [(.s 3, .sv (.v (.int .i64 (i : Int))))]) _ (fun (i : Nat) => (s.msgs.drop i).any (fun m : Msg => m.fields.any fun f => (decide (f.ty = 14) && decide (s.enumIx f.ref < 0)) || (decide (f.ty = 15) && decide (s.msgIx f.ref < 0))) = s.refs) (fun (i : Nat) => s.msgs.length - i) 0 rfl (by simp [Sch.refs]) ?_
  rintro i hI
  refine Tri.seq ?_
  refine Tri.seq ?_
  refine Tri.region ?_
  refine TriL.c1 rfl (op_mv (ltb rfl) rfl) ?_
  refine TriL.c1 rfl (op_fal (ltb rfl) fo25_1_M3 rfl) ?_
  refine TriL.c1 rfl (op_ldl (ltb rfl) lk23_M3 rfl rfl rfl) ?_
  refine TriL.c1 rfl (op_lenl (ltb rfl) un23_M3 rfl) ?_
  refine TriL.c1 rfl (op_bin (ltb rfl) rfl rfl rfl) ?_
  refine TriL.nil ?_
  refine Tri.cond rfl (fun hc1 => ?_) (fun hc1 => ?_)
  · have hi := ltm hc1
    have hS := any_step (p := (fun m : Msg => m.fields.any fun f => (decide (f.ty = 14) && decide (s.enumIx f.ref < 0)) || (decide (f.ty = 15) && decide (s.msgIx f.ref < 0)))) hi
    have := hs.fi hi
    have := hs.bi hi
    refine Tri.skip ?_
    refine Tri.seq ?_
    refine Tri.blk ?_
    refine Tri.seq ?_
    refine Tri.region ?_
    refine TriL.c1 rfl (op_as (ltb rfl) rfl) ?_
    refine TriL.nil ?_
    refine Tri.blk ?_
    refine Tri.ofKept (Kept.keep [.s 4, .h, .s 1, .b 1, .s 3] rfl (by decide) (Kept.now ?_))
    -- LOOP 2
    refine Tri.loopk (fun (k : Nat) => [(.s 4, .sv (.v (.int .i64 (k : Int))))]) _ (fun (k : Nat) => ((s.msgs[i]'hi).fields.drop k).any (fun f : Fld => (decide (f.ty = 14) && decide (s.enumIx f.ref < 0)) || (decide (f.ty = 15) && decide (s.msgIx f.ref < 0))) = (s.msgs[i]'hi).fields.any (fun f : Fld => (decide (f.ty = 14) && decide (s.enumIx f.ref < 0)) || (decide (f.ty = 15) && decide (s.msgIx f.ref < 0)))) (fun (k : Nat) => (s.msgs[i]'hi).fields.length - k) 0 rfl (by simp) ?_
    rintro k hK
    refine Tri.seq ?_
    refine Tri.seq ?_
    refine Tri.region ?_
    refine TriL.c1 rfl (op_mv (ltb rfl) rfl) ?_
    refine TriL.c1 rfl (op_fal (ltb rfl) fo25_1_M3 rfl) ?_
    refine TriL.c1 rfl (op_ldl (ltb rfl) lk23_M3 rfl rfl rfl) ?_
    refine TriL.c1 rfl (op_mv (ltb rfl) rfl) ?_
    refine TriL.c1 rfl (op_iak (ltb rfl) ie23_M3 rfl rfl (Int.natCast_nonneg _) (ixm hi) rfl) ?_
    refine TriL.c1 rfl (op_fak (ltb rfl) fo78_1_M3 rfl) ?_
    refine TriL.c1 rfl (op_ldk (ltb rfl) lk76_M3 rfl rfl) ?_
    refine TriL.c1 rfl (op_lenl (ltb rfl) un76_M3 rfl) ?_
    refine TriL.c1 rfl (op_bin (ltb rfl) rfl rfl rfl) ?_
    refine TriL.nil ?_
    refine Tri.cond rfl (fun hc2 => ?_) (fun hc2 => ?_)
    · have hk := ltm hc2
      have hT := any_step (p := (fun f : Fld => (decide (f.ty = 14) && decide (s.enumIx f.ref < 0)) || (decide (f.ty = 15) && decide (s.msgIx f.ref < 0)))) hk
      refine Tri.skip ?_
      refine Tri.seq ?_
      refine Tri.blk ?_
      refine Tri.seq ?_
      refine Tri.region ?_
      refine TriL.c1 rfl (op_fal (ltb rfl) fo25_1_M3 rfl) ?_
      refine TriL.c1 rfl (op_ldl (ltb rfl) lk23_M3 rfl rfl rfl) ?_
      refine TriL.c1 rfl (op_mv (ltb rfl) rfl) ?_
      refine TriL.c1 rfl (op_iak (ltb rfl) ie23_M3 rfl rfl (Int.natCast_nonneg _) (ixm hi) rfl) ?_
      refine TriL.c1 rfl (op_fak (ltb rfl) fo78_1_M3 rfl) ?_
      refine TriL.c1 rfl (op_ldk (ltb rfl) lk76_M3 rfl rfl) ?_
      refine TriL.c1 rfl (op_mv (ltb rfl) rfl) ?_
      refine TriL.c1 rfl (op_iak (ltb rfl) ie76_M3 rfl rfl (Int.natCast_nonneg _) (ixm hk) rfl) ?_
      refine TriL.c1 rfl (op_ldk (ltb rfl) lk98_M3 rfl rfl) ?_
      refine TriL.c2 rfl (op_all (ltb rfl) zA98_M3 rfl) ?_
      refine TriL.c1 rfl (op_stl lk98_M3 rfl rfl rfl rfl rfl (leb rfl)) ?_
      refine TriL.nil ?_
      refine Tri.seq ?_
      refine Tri.region ?_
      refine TriL.c1 rfl (op_fal (ltb rfl) fo98_2_M3 rfl) ?_
      refine TriL.c1 rfl (op_ldl (ltb rfl) lk3_M3 rfl rfl rfl) ?_
      refine TriL.c1 rfl (op_bin (ltb rfl) rfl rfl rfl) ?_
      refine TriL.c1 rfl (op_mv (ltb rfl) rfl) ?_
      refine TriL.split (d := 36) rfl (fun hg3 => ?_) (fun hg3 => ?_)
      · refine TriL.g1 rfl (ltb rfl) rfl hg3 (op_ldl (ltb rfl) lk25_M3 rfl rfl rfl) ?_
        refine TriL.g1 rfl (ltb rfl) rfl hg3 (op_fal (ltb rfl) fo98_3_M3 rfl) ?_
        refine TriL.g1 rfl (ltb rfl) rfl hg3 (op_ldl (ltb rfl) lk9_M3 rfl rfl rfl) ?_
        refine TriL.g1 rfl (ltb rfl) rfl hg3 (op_call (ltb rfl) fn76_M3 rfl (r_enumIx _ _ (by omega))) ?_
        refine TriL.g1 rfl (ltb rfl) rfl hg3 (op_bin (ltb rfl) rfl rfl rfl) ?_
        refine TriL.c1 rfl (op_pickt (ltb rfl) rfl hg3 rfl) ?_
        refine TriL.c1 rfl (op_mv (ltb rfl) rfl) ?_
        refine TriL.split (d := 43) rfl (fun hg4 => ?_) (fun hg4 => ?_)
        · refine TriL.skipu rfl rfl (ltb rfl) (ltb rfl) rfl hg4 ?_
          refine TriL.skipu rfl rfl (ltb rfl) (ltb rfl) rfl hg4 ?_
          refine TriL.skipu rfl rfl (ltb rfl) (ltb rfl) rfl hg4 ?_
          refine TriL.skipu rfl rfl (ltb rfl) (ltb rfl) rfl hg4 ?_
          refine TriL.skipg rfl rfl (ltb rfl) (ltb rfl) rfl ?_
          refine TriL.skipg rfl rfl (ltb rfl) (ltb rfl) rfl ?_
          refine TriL.skipg rfl rfl (ltb rfl) (ltb rfl) rfl ?_
          refine TriL.skipg rfl rfl (ltb rfl) (ltb rfl) rfl ?_
          refine TriL.skipg rfl rfl (ltb rfl) (ltb rfl) rfl ?_
          refine TriL.skipu rfl rfl (ltb rfl) (ltb rfl) rfl hg4 ?_
          refine TriL.c1 rfl (op_pickt (ltb rfl) rfl hg4 rfl) ?_
          refine TriL.nil ?_
          refine Tri.condT rfl rfl ?_
          refine Tri.seq ?_
          refine Tri.region ?_
          refine TriL.c1 rfl (op_as (ltb rfl) rfl) ?_
          refine TriL.nil ?_
          refine Tri.ret ?_
          exact ⟨.inr rfl, (ResOK.r1 rfl (.tmp rfl .nil)).cast (congrArg AV.bool (by grind [Sch.refs])), rfl⟩
        · refine TriL.g1 rfl (ltb rfl) rfl hg4 (op_fal (ltb rfl) fo98_2_M3 rfl) ?_
          refine TriL.g1 rfl (ltb rfl) rfl hg4 (op_ldl (ltb rfl) lk3_M3 rfl rfl rfl) ?_
          refine TriL.g1 rfl (ltb rfl) rfl hg4 (op_bin (ltb rfl) rfl rfl rfl) ?_
          refine TriL.g1 rfl (ltb rfl) rfl hg4 (op_mv (ltb rfl) rfl) ?_
          refine TriL.split (d := 47) rfl (fun hg5 => ?_) (fun hg5 => ?_)
          · refine TriL.g1 rfl (ltb rfl) rfl hg5 (op_ldl (ltb rfl) lk25_M3 rfl rfl rfl) ?_
            refine TriL.g1 rfl (ltb rfl) rfl hg5 (op_fal (ltb rfl) fo98_3_M3 rfl) ?_
            refine TriL.g1 rfl (ltb rfl) rfl hg5 (op_ldl (ltb rfl) lk9_M3 rfl rfl rfl) ?_
            refine TriL.g1 rfl (ltb rfl) rfl hg5 (op_call (ltb rfl) fn52_M3 rfl (r_msgIx _ _ (by omega))) ?_
            refine TriL.g1 rfl (ltb rfl) rfl hg5 (op_bin (ltb rfl) rfl rfl rfl) ?_
            refine TriL.g1 rfl (ltb rfl) rfl hg4 (op_pickt (ltb rfl) rfl hg5 rfl) ?_
            refine TriL.c1 rfl (op_pickf (ltb rfl) rfl hg4 rfl) ?_
            refine TriL.nil ?_
            refine Tri.cond rfl (fun hc6 => ?_) (fun hc6 => ?_)
            · refine Tri.seq ?_
              refine Tri.region ?_
              refine TriL.c1 rfl (op_as (ltb rfl) rfl) ?_
              refine TriL.nil ?_
              refine Tri.ret ?_
              exact ⟨.inr rfl, (ResOK.r1 rfl (.tmp rfl .nil)).cast (congrArg AV.bool (by grind [Sch.refs])), rfl⟩
            · refine Tri.skip ?_
              refine Tri.region ?_
              refine TriL.c1 rfl (op_mv (ltb rfl) rfl) ?_
              refine TriL.c1 rfl (op_bin (ltb rfl) rfl rfl rfl) ?_
              refine TriL.c1 rfl (op_as (ltb rfl) rfl) ?_
              refine TriL.kept (Kept.seti 4 rfl (inc (by omega)) (Kept.keep [.s 4, .h, .s 1, .b 1, .s 3] rfl (by decide) (Kept.now ?_)))
              exact ⟨k + 1, by omega, by grind, rfl⟩
          · refine TriL.skipu rfl rfl (ltb rfl) (ltb rfl) rfl hg5 ?_
            refine TriL.skipu rfl rfl (ltb rfl) (ltb rfl) rfl hg5 ?_
            refine TriL.skipu rfl rfl (ltb rfl) (ltb rfl) rfl hg5 ?_
            refine TriL.skipu rfl rfl (ltb rfl) (ltb rfl) rfl hg5 ?_
            refine TriL.skipu rfl rfl (ltb rfl) (ltb rfl) rfl hg5 ?_
            refine TriL.g1 rfl (ltb rfl) rfl hg4 (op_pickf (ltb rfl) rfl hg5 rfl) ?_
            refine TriL.c1 rfl (op_pickf (ltb rfl) rfl hg4 rfl) ?_
            refine TriL.nil ?_
            refine Tri.condF rfl rfl ?_
            refine Tri.skip ?_
            refine Tri.region ?_
            refine TriL.c1 rfl (op_mv (ltb rfl) rfl) ?_
            refine TriL.c1 rfl (op_bin (ltb rfl) rfl rfl rfl) ?_
            refine TriL.c1 rfl (op_as (ltb rfl) rfl) ?_
            refine TriL.kept (Kept.seti 4 rfl (inc (by omega)) (Kept.keep [.s 4, .h, .s 1, .b 1, .s 3] rfl (by decide) (Kept.now ?_)))
            exact ⟨k + 1, by omega, by grind, rfl⟩
      · refine TriL.skipu rfl rfl (ltb rfl) (ltb rfl) rfl hg3 ?_
        refine TriL.skipu rfl rfl (ltb rfl) (ltb rfl) rfl hg3 ?_
        refine TriL.skipu rfl rfl (ltb rfl) (ltb rfl) rfl hg3 ?_
        refine TriL.skipu rfl rfl (ltb rfl) (ltb rfl) rfl hg3 ?_
        refine TriL.skipu rfl rfl (ltb rfl) (ltb rfl) rfl hg3 ?_
        refine TriL.c1 rfl (op_pickf (ltb rfl) rfl hg3 rfl) ?_
        refine TriL.c1 rfl (op_mv (ltb rfl) rfl) ?_
        refine TriL.g1 rfl (ltb rfl) rfl rfl (op_fal (ltb rfl) fo98_2_M3 rfl) ?_
        refine TriL.g1 rfl (ltb rfl) rfl rfl (op_ldl (ltb rfl) lk3_M3 rfl rfl rfl) ?_
        refine TriL.g1 rfl (ltb rfl) rfl rfl (op_bin (ltb rfl) rfl rfl rfl) ?_
        refine TriL.g1 rfl (ltb rfl) rfl rfl (op_mv (ltb rfl) rfl) ?_
        refine TriL.split (d := 47) rfl (fun hg7 => ?_) (fun hg7 => ?_)
        · refine TriL.g1 rfl (ltb rfl) rfl hg7 (op_ldl (ltb rfl) lk25_M3 rfl rfl rfl) ?_
          refine TriL.g1 rfl (ltb rfl) rfl hg7 (op_fal (ltb rfl) fo98_3_M3 rfl) ?_
          refine TriL.g1 rfl (ltb rfl) rfl hg7 (op_ldl (ltb rfl) lk9_M3 rfl rfl rfl) ?_
          refine TriL.g1 rfl (ltb rfl) rfl hg7 (op_call (ltb rfl) fn52_M3 rfl (r_msgIx _ _ (by omega))) ?_
          refine TriL.g1 rfl (ltb rfl) rfl hg7 (op_bin (ltb rfl) rfl rfl rfl) ?_
          refine TriL.g1 rfl (ltb rfl) rfl rfl (op_pickt (ltb rfl) rfl hg7 rfl) ?_
          refine TriL.c1 rfl (op_pickf (ltb rfl) rfl rfl rfl) ?_
          refine TriL.nil ?_
          refine Tri.cond rfl (fun hc8 => ?_) (fun hc8 => ?_)
          · refine Tri.seq ?_
            refine Tri.region ?_
            refine TriL.c1 rfl (op_as (ltb rfl) rfl) ?_
            refine TriL.nil ?_
            refine Tri.ret ?_
            exact ⟨.inr rfl, (ResOK.r1 rfl (.tmp rfl .nil)).cast (congrArg AV.bool (by grind [Sch.refs])), rfl⟩
          · refine Tri.skip ?_
            refine Tri.region ?_
            refine TriL.c1 rfl (op_mv (ltb rfl) rfl) ?_
            refine TriL.c1 rfl (op_bin (ltb rfl) rfl rfl rfl) ?_
            refine TriL.c1 rfl (op_as (ltb rfl) rfl) ?_
            refine TriL.kept (Kept.seti 4 rfl (inc (by omega)) (Kept.keep [.s 4, .h, .s 1, .b 1, .s 3] rfl (by decide) (Kept.now ?_)))
            exact ⟨k + 1, by omega, by grind, rfl⟩
        · refine TriL.skipu rfl rfl (ltb rfl) (ltb rfl) rfl hg7 ?_
          refine TriL.skipu rfl rfl (ltb rfl) (ltb rfl) rfl hg7 ?_
          refine TriL.skipu rfl rfl (ltb rfl) (ltb rfl) rfl hg7 ?_
          refine TriL.skipu rfl rfl (ltb rfl) (ltb rfl) rfl hg7 ?_
          refine TriL.skipu rfl rfl (ltb rfl) (ltb rfl) rfl hg7 ?_
          refine TriL.g1 rfl (ltb rfl) rfl rfl (op_pickf (ltb rfl) rfl hg7 rfl) ?_
          refine TriL.c1 rfl (op_pickf (ltb rfl) rfl rfl rfl) ?_
          refine TriL.nil ?_
          refine Tri.condF rfl rfl ?_
          refine Tri.skip ?_
          refine Tri.region ?_
          refine TriL.c1 rfl (op_mv (ltb rfl) rfl) ?_
          refine TriL.c1 rfl (op_bin (ltb rfl) rfl rfl rfl) ?_
          refine TriL.c1 rfl (op_as (ltb rfl) rfl) ?_
          refine TriL.kept (Kept.seti 4 rfl (inc (by omega)) (Kept.keep [.s 4, .h, .s 1, .b 1, .s 3] rfl (by decide) (Kept.now ?_)))
          exact ⟨k + 1, by omega, by grind, rfl⟩
    · have hk := gem hc2
      have hT := any_end (p := (fun f : Fld => (decide (f.ty = 14) && decide (s.enumIx f.ref < 0)) || (decide (f.ty = 15) && decide (s.msgIx f.ref < 0)))) hk
      refine Tri.exit ?_
      refine Tri.region ?_
      refine TriL.c1 rfl (op_mv (ltb rfl) rfl) ?_
      refine TriL.c1 rfl (op_bin (ltb rfl) rfl rfl rfl) ?_
      refine TriL.c1 rfl (op_as (ltb rfl) rfl) ?_
      refine TriL.kept (Kept.seti 3 rfl (inc (by omega)) (Kept.keep [.s 3, .h, .s 1, .b 1] rfl (by decide) (Kept.now ?_)))
      exact ⟨i + 1, by omega, by grind, rfl⟩
  · have hi := gem hc1
    have hS := any_end (p := (fun m : Msg => m.fields.any fun f => (decide (f.ty = 14) && decide (s.enumIx f.ref < 0)) || (decide (f.ty = 15) && decide (s.msgIx f.ref < 0)))) hi
    refine Tri.exit ?_
    refine Tri.seq ?_
    refine Tri.region ?_
    refine TriL.c1 rfl (op_as (ltb rfl) rfl) ?_
    refine TriL.nil ?_
    refine Tri.ret ?_
    exact ⟨.inr rfl, (ResOK.r1 rfl (.tmp rfl .nil)).cast (congrArg AV.bool (by grind [Sch.refs])), rfl⟩
end Go.Proofs.YtnpgcmeclkncnaaGreatDoor.X
/- the document: names that stand twice, order, what is asked of a schema. -/
set_option linter.unusedVariables false
set_option linter.unusedSimpArgs false
set_option linter.unusedSectionVars false
set_option maxRecDepth 100000
namespace Go.Proofs.YtnpgcmeclkncnaaGreatDoor.X
open Go Go.RowKit Go.Proofs
theorem fn71_M4 : isFn Tryz.prog 71 = true := by kernel_rfl
theorem fn72_M4 : isFn Tryz.prog 72 = true := by kernel_rfl
theorem fn73_M4 : isFn Tryz.prog 73 = true := by kernel_rfl
theorem fn74_M4 : isFn Tryz.prog 74 = true := by kernel_rfl
theorem fo25_0_M4 : fo Tryz.prog 25 0 = some 0 := by kernel_rfl
theorem fo25_1_M4 : fo Tryz.prog 25 1 = some 1 := by kernel_rfl
theorem fo78_0_M4 : fo Tryz.prog 78 0 = some 0 := by kernel_rfl
theorem fo78_1_M4 : fo Tryz.prog 78 1 = some 1 := by kernel_rfl
theorem fo78_2_M4 : fo Tryz.prog 78 2 = some 2 := by kernel_rfl
theorem fo94_0_M4 : fo Tryz.prog 94 0 = some 0 := by kernel_rfl
theorem fo94_1_M4 : fo Tryz.prog 94 1 = some 1 := by kernel_rfl
theorem fo96_0_M4 : fo Tryz.prog 96 0 = some 0 := by kernel_rfl
theorem fo96_1_M4 : fo Tryz.prog 96 1 = some 1 := by kernel_rfl
theorem fo98_0_M4 : fo Tryz.prog 98 0 = some 0 := by kernel_rfl
theorem fo98_1_M4 : fo Tryz.prog 98 1 = some 1 := by kernel_rfl
theorem fo98_6_M4 : fo Tryz.prog 98 6 = some 6 := by kernel_rfl
theorem ie22_M4 : ie Tryz.prog 22 = some 2 := by kernel_rfl
theorem ie23_M4 : ie Tryz.prog 23 = some 3 := by kernel_rfl
theorem ie67_M4 : ie Tryz.prog 67 = some 1 := by kernel_rfl
theorem ie76_M4 : ie Tryz.prog 76 = some 7 := by kernel_rfl
theorem ie92_M4 : ie Tryz.prog 92 = some 2 := by kernel_rfl
theorem lk22_M4 : lk Tryz.prog 22 = some (false, 1) := by kernel_rfl
theorem lk23_M4 : lk Tryz.prog 23 = some (false, 1) := by kernel_rfl
theorem lk3_M4 : lk Tryz.prog 3 = some (false, 1) := by kernel_rfl
theorem lk67_M4 : lk Tryz.prog 67 = some (false, 1) := by kernel_rfl
theorem lk76_M4 : lk Tryz.prog 76 = some (false, 1) := by kernel_rfl
theorem lk78_M4 : lk Tryz.prog 78 = some (true, 3) := by kernel_rfl
theorem lk9_M4 : lk Tryz.prog 9 = some (false, 1) := by kernel_rfl
theorem lk92_M4 : lk Tryz.prog 92 = some (false, 1) := by kernel_rfl
theorem se112_M4 : se Tryz.prog 112 = some (9, 1, 16) := by kernel_rfl
theorem se67_M4 : se Tryz.prog 67 = some (3, 1, 8) := by kernel_rfl
theorem un22_M4 : Tryz.prog.underlying 22 = some (TypeDesc.slice 94) := Tryz.underlying22
theorem un23_M4 : Tryz.prog.underlying 23 = some (TypeDesc.slice 78) := Tryz.underlying23
theorem un67_M4 : Tryz.prog.underlying 67 = some (TypeDesc.slice 3) := Tryz.underlying67
theorem un76_M4 : Tryz.prog.underlying 76 = some (TypeDesc.slice 98) := Tryz.underlying76
theorem un92_M4 : Tryz.prog.underlying 92 = some (TypeDesc.slice 96) := Tryz.underlying92
theorem zAe112_M4 : zeroA Tryz.prog 9 = some [AV.str []] := by kernel_rfl
theorem zAe67_M4 : zeroA Tryz.prog 3 = some [AV.int IntKind.i64 (0)] := by kernel_rfl
theorem r_twice (s : Sch) (hs : s.sm) : Pure Tryz.prog 40 [s.av] (.bool s.twice) := by
  have := hs.e
  have := hs.m
  refine Pure.of_tri Tryz.func40 rfl rfl (ltb rfl) fun H => ?_
  refine Tri.seq ?_
  refine Tri.region ?_
  refine TriL.c2 rfl (op_box (ltb rfl) rfl rfl rfl) ?_
  refine TriL.c1 rfl (op_as (ltb rfl) rfl) ?_
  refine TriL.nil ?_
  refine Tri.seq ?_
  refine Tri.region ?_
  refine TriL.c2 rfl (op_litt («as» := []) (ltb rfl) se112_M4 zAe112_M4 rfl rfl rfl (leb rfl) rfl) ?_
  refine TriL.c1 rfl (op_as (ltb rfl) rfl) ?_
  refine TriL.nil ?_
  refine Tri.seq ?_
  refine Tri.region ?_
  refine TriL.c1 rfl (op_as (ltb rfl) rfl) ?_
  refine TriL.nil ?_
  refine Tri.seq ?_
  refine Tri.seq ?_
  refine Tri.region ?_
  refine TriL.c1 rfl (op_as (ltb rfl) rfl) ?_
  refine TriL.nil ?_
  refine Tri.blk ?_
  refine Tri.ofKept (Kept.keep [.s 5, .s 4, .s 3, .t 13, .h, .s 1, .b 1] rfl (by decide) (Kept.now ?_))
  -- LOOP 1
  refine Tri.loopk (fun ((i, b, a) : Nat × Bool × List AV) => [(.s 5, .sv (.v (.int .i64 (i : Int)))), (.s 4, .sv (.v (.bool b))), (.s 3, .sv (.ow 13 a)), (.t 13, .tk false 9 1 a)]) _ (fun ((i, b, a) : Nat × Bool × List AV) => a = (s.enums.take i).map (fun e : Enm => AV.str e.name) ∧ (b || (s.enums.drop i).any (fun e : Enm => !once (e.values.map (·.name)))) = s.enums.any (fun e : Enm => !once (e.values.map (·.name)))) (fun ((i, b, a) : Nat × Bool × List AV) => s.enums.length - i) (0, _, _) rfl ⟨rfl, by grind⟩ ?_
  rintro ⟨i, b, a⟩ ⟨ha, hI⟩
  refine Tri.seq ?_
  refine Tri.seq ?_
  refine Tri.region ?_
  refine TriL.c1 rfl (op_mv (ltb rfl) rfl) ?_
  refine TriL.c1 rfl (op_fal (ltb rfl) fo25_0_M4 rfl) ?_
  refine TriL.c1 rfl (op_ldl (ltb rfl) lk22_M4 rfl rfl rfl) ?_
  refine TriL.c1 rfl (op_lenl (ltb rfl) un22_M4 rfl) ?_
  refine TriL.c1 rfl (op_bin (ltb rfl) rfl rfl rfl) ?_
  refine TriL.nil ?_
  refine Tri.cond rfl (fun hc1 => ?_) (fun hc1 => ?_)
  · have hi := ltm hc1
    have hS := any_step (p := (fun e : Enm => !once (e.values.map (·.name)))) hi
    have := hs.vi hi
    refine Tri.skip ?_
    refine Tri.seq ?_
    refine Tri.blk ?_
    refine Tri.seq ?_
    refine Tri.region ?_
    refine TriL.c1 rfl (op_mv (ltb rfl) rfl) ?_
    refine TriL.c1 rfl (op_fal (ltb rfl) fo25_0_M4 rfl) ?_
    refine TriL.c1 rfl (op_ldl (ltb rfl) lk22_M4 rfl rfl rfl) ?_
    refine TriL.c1 rfl (op_mv (ltb rfl) rfl) ?_
    refine TriL.c1 rfl (op_iak (ltb rfl) ie22_M4 rfl rfl (Int.natCast_nonneg _) (ixm hi) rfl) ?_
    refine TriL.c1 rfl (op_fak (ltb rfl) fo94_0_M4 rfl) ?_
    refine TriL.c1 rfl (op_ldk (ltb rfl) lk9_M4 rfl rfl) ?_
    refine TriL.c1 rfl (op_lit («as» := [_]) (ltb rfl) se112_M4 zAe112_M4 rfl rfl rfl (leb rfl)) ?_
    refine TriL.c3 rfl (op_app (ltb rfl) se112_M4 rfl rfl rfl rfl rfl (by rw [ha]; simp; omega) (by rw [ha]; simp; omega)) ?_
    refine TriL.c1 rfl (op_as (ltb rfl) rfl) ?_
    refine TriL.nil ?_
    refine Tri.seq ?_
    refine Tri.region ?_
    refine TriL.c2 rfl (op_litt («as» := []) (ltb rfl) se112_M4 zAe112_M4 rfl rfl rfl (leb rfl) rfl) ?_
    refine TriL.c1 rfl (op_as (ltb rfl) rfl) ?_
    refine TriL.nil ?_
    refine Tri.seq ?_
    refine Tri.seq ?_
    refine Tri.region ?_
    refine TriL.c1 rfl (op_as (ltb rfl) rfl) ?_
    refine TriL.nil ?_
    refine Tri.blk ?_
    refine Tri.ofKept (Kept.keep [.s 7, .s 6, .t 30, .h, .s 1, .b 1, .s 3, .t 29, .s 4, .s 5] rfl (by decide) (Kept.now ?_))
    -- LOOP 2
    refine Tri.loopk (fun ((k, c) : Nat × List AV) => [(.s 7, .sv (.v (.int .i64 (k : Int)))), (.s 6, .sv (.ow 30 c)), (.t 30, .tk false 9 1 c)]) _ (fun ((k, c) : Nat × List AV) => c = ((s.enums[i]'hi).values.take k).map (fun v : Vlu => AV.str v.name)) (fun ((k, c) : Nat × List AV) => (s.enums[i]'hi).values.length - k) (0, _) rfl rfl ?_
    rintro ⟨k, c⟩ hC
    refine Tri.seq ?_
    refine Tri.seq ?_
    refine Tri.region ?_
    refine TriL.c1 rfl (op_mv (ltb rfl) rfl) ?_
    refine TriL.c1 rfl (op_fal (ltb rfl) fo25_0_M4 rfl) ?_
    refine TriL.c1 rfl (op_ldl (ltb rfl) lk22_M4 rfl rfl rfl) ?_
    refine TriL.c1 rfl (op_mv (ltb rfl) rfl) ?_
    refine TriL.c1 rfl (op_iak (ltb rfl) ie22_M4 rfl rfl (Int.natCast_nonneg _) (ixm hi) rfl) ?_
    refine TriL.c1 rfl (op_fak (ltb rfl) fo94_1_M4 rfl) ?_
    refine TriL.c1 rfl (op_ldk (ltb rfl) lk92_M4 rfl rfl) ?_
    refine TriL.c1 rfl (op_lenl (ltb rfl) un92_M4 rfl) ?_
    refine TriL.c1 rfl (op_bin (ltb rfl) rfl rfl rfl) ?_
    refine TriL.nil ?_
    refine Tri.cond rfl (fun hc2 => ?_) (fun hc2 => ?_)
    · have hk := ltm hc2
      refine Tri.skip ?_
      refine Tri.seq ?_
      refine Tri.blk ?_
      refine Tri.region ?_
      refine TriL.c1 rfl (op_mv (ltb rfl) rfl) ?_
      refine TriL.c1 rfl (op_fal (ltb rfl) fo25_0_M4 rfl) ?_
      refine TriL.c1 rfl (op_ldl (ltb rfl) lk22_M4 rfl rfl rfl) ?_
      refine TriL.c1 rfl (op_mv (ltb rfl) rfl) ?_
      refine TriL.c1 rfl (op_iak (ltb rfl) ie22_M4 rfl rfl (Int.natCast_nonneg _) (ixm hi) rfl) ?_
      refine TriL.c1 rfl (op_fak (ltb rfl) fo94_1_M4 rfl) ?_
      refine TriL.c1 rfl (op_ldk (ltb rfl) lk92_M4 rfl rfl) ?_
      refine TriL.c1 rfl (op_mv (ltb rfl) rfl) ?_
      refine TriL.c1 rfl (op_iak (ltb rfl) ie92_M4 rfl rfl (Int.natCast_nonneg _) (ixm hk) rfl) ?_
      refine TriL.c1 rfl (op_fak (ltb rfl) fo96_0_M4 rfl) ?_
      refine TriL.c1 rfl (op_ldk (ltb rfl) lk9_M4 rfl rfl) ?_
      refine TriL.c1 rfl (op_lit («as» := [_]) (ltb rfl) se112_M4 zAe112_M4 rfl rfl rfl (leb rfl)) ?_
      refine TriL.c3 rfl (op_app (ltb rfl) se112_M4 rfl rfl rfl rfl rfl (by rw [hC]; simp; omega) (by rw [hC]; simp; omega)) ?_
      refine TriL.c1 rfl (op_as (ltb rfl) rfl) ?_
      refine TriL.nil ?_
      refine Tri.region ?_
      refine TriL.c1 rfl (op_mv (ltb rfl) rfl) ?_
      refine TriL.c1 rfl (op_bin (ltb rfl) rfl rfl rfl) ?_
      refine TriL.c1 rfl (op_as (ltb rfl) rfl) ?_
      refine TriL.kept (Kept.seti 7 rfl (inc (by omega)) (Kept.keep [.s 7, .s 6, .t 54, .h, .s 1, .b 1, .s 3, .t 29, .s 4, .s 5] rfl (by decide) (Kept.ren 54 30 (by decide) rfl (Kept.now ?_))))
      exact ⟨(k + 1, _), (by dsimp only; omega), take_app hk hC, rfl⟩
    · have hk := gem hc2
      have hTk := take_end hk
      refine Tri.exit ?_
      refine Tri.region ?_
      refine TriL.c1 rfl (op_mv (ltb rfl) rfl) ?_
      refine TriL.c1 rfl (op_mv (ltb rfl) rfl) ?_
      refine TriL.split (d := 56) rfl (fun hg3 => ?_) (fun hg3 => ?_)
      · refine TriL.skipu rfl rfl (ltb rfl) (ltb rfl) rfl hg3 ?_
        refine TriL.skipu rfl rfl (ltb rfl) (ltb rfl) rfl hg3 ?_
        refine TriL.skipu rfl rfl (ltb rfl) (ltb rfl) rfl hg3 ?_
        refine TriL.c1 rfl (op_pickt (ltb rfl) rfl hg3 rfl) ?_
        refine TriL.c1 rfl (op_as (ltb rfl) rfl) ?_
        refine TriL.nil ?_
        refine Tri.region ?_
        refine TriL.c1 rfl (op_mv (ltb rfl) rfl) ?_
        refine TriL.c1 rfl (op_bin (ltb rfl) rfl rfl rfl) ?_
        refine TriL.c1 rfl (op_as (ltb rfl) rfl) ?_
        refine TriL.kept (Kept.seti 5 rfl (inc (by omega)) (Kept.keep [.s 5, .s 4, .s 3, .t 29, .h, .s 1, .b 1] rfl (by decide) (Kept.ren 29 13 (by decide) rfl (Kept.now ?_))))
        exact ⟨(i + 1, _, _), (by dsimp only; omega), ⟨take_app hi ha, by grind⟩, rfl⟩
      · refine TriL.g1 rfl (ltb rfl) rfl hg3 (op_mv (ltb rfl) rfl) ?_
        refine TriL.g1 rfl (ltb rfl) rfl hg3 (op_call (ltb rfl) fn71_M4 rfl ((r_once ((s.enums[i]'hi).values.map (·.name)) (by simp; omega)).at (by rw [hC, hTk]; simp [Function.comp_def]))) ?_
        refine TriL.g1 rfl (ltb rfl) rfl hg3 (op_un (ltb rfl) rfl rfl) ?_
        refine TriL.c1 rfl (op_pickf (ltb rfl) rfl hg3 rfl) ?_
        refine TriL.c1 rfl (op_as (ltb rfl) rfl) ?_
        refine TriL.nil ?_
        refine Tri.region ?_
        refine TriL.c1 rfl (op_mv (ltb rfl) rfl) ?_
        refine TriL.c1 rfl (op_bin (ltb rfl) rfl rfl rfl) ?_
        refine TriL.c1 rfl (op_as (ltb rfl) rfl) ?_
        refine TriL.kept (Kept.seti 5 rfl (inc (by omega)) (Kept.keep [.s 5, .s 4, .s 3, .t 29, .h, .s 1, .b 1] rfl (by decide) (Kept.ren 29 13 (by decide) rfl (Kept.now ?_))))
        exact ⟨(i + 1, _, _), (by dsimp only; omega), ⟨take_app hi ha, by grind⟩, rfl⟩
  · have hi := gem hc1
    have hS := any_end (p := (fun e : Enm => !once (e.values.map (·.name)))) hi
    have hT := take_end hi
    refine Tri.exit ?_
    refine Tri.seq ?_
    refine Tri.seq ?_
    refine Tri.region ?_
    refine TriL.c1 rfl (op_as (ltb rfl) rfl) ?_
    refine TriL.nil ?_
    refine Tri.blk ?_
    refine Tri.ofKept (Kept.keep [.s 8, .s 4, .s 3, .t 13, .h, .s 1, .b 1] rfl (by decide) (Kept.now ?_))
    -- LOOP 3
    refine Tri.loopk (fun ((i, b, a) : Nat × Bool × List AV) => [(.s 8, .sv (.v (.int .i64 (i : Int)))), (.s 4, .sv (.v (.bool b))), (.s 3, .sv (.ow 13 a)), (.t 13, .tk false 9 1 a)]) _ (fun ((i, b, a) : Nat × Bool × List AV) => a = s.enums.map (fun e : Enm => AV.str e.name) ++ (s.msgs.take i).map (fun m : Msg => AV.str m.name) ∧ (b || (s.msgs.drop i).any Msg.twice) = (s.enums.any (fun e : Enm => !once (e.values.map (·.name))) || s.msgs.any Msg.twice)) (fun ((i, b, a) : Nat × Bool × List AV) => s.msgs.length - i) (0, _, _) rfl ⟨by grind, by grind⟩ ?_
    rintro ⟨i, b, a⟩ ⟨ha, hI⟩
    refine Tri.seq ?_
    refine Tri.seq ?_
    refine Tri.region ?_
    refine TriL.c1 rfl (op_mv (ltb rfl) rfl) ?_
    refine TriL.c1 rfl (op_fal (ltb rfl) fo25_1_M4 rfl) ?_
    refine TriL.c1 rfl (op_ldl (ltb rfl) lk23_M4 rfl rfl rfl) ?_
    refine TriL.c1 rfl (op_lenl (ltb rfl) un23_M4 rfl) ?_
    refine TriL.c1 rfl (op_bin (ltb rfl) rfl rfl rfl) ?_
    refine TriL.nil ?_
    refine Tri.cond rfl (fun hc4 => ?_) (fun hc4 => ?_)
    · have hi := ltm hc4
      have hS := any_step (p := Msg.twice) hi
      have := hs.fi hi
      have := hs.bi hi
      refine Tri.skip ?_
      refine Tri.seq ?_
      refine Tri.blk ?_
      refine Tri.seq ?_
      refine Tri.region ?_
      refine TriL.c1 rfl (op_mv (ltb rfl) rfl) ?_
      refine TriL.c1 rfl (op_fal (ltb rfl) fo25_1_M4 rfl) ?_
      refine TriL.c1 rfl (op_ldl (ltb rfl) lk23_M4 rfl rfl rfl) ?_
      refine TriL.c1 rfl (op_mv (ltb rfl) rfl) ?_
      refine TriL.c1 rfl (op_iak (ltb rfl) ie23_M4 rfl rfl (Int.natCast_nonneg _) (ixm hi) rfl) ?_
      refine TriL.c1 rfl (op_fak (ltb rfl) fo78_0_M4 rfl) ?_
      refine TriL.c1 rfl (op_ldk (ltb rfl) lk9_M4 rfl rfl) ?_
      refine TriL.c1 rfl (op_lit («as» := [_]) (ltb rfl) se112_M4 zAe112_M4 rfl rfl rfl (leb rfl)) ?_
      refine TriL.c3 rfl (op_app (ltb rfl) se112_M4 rfl rfl rfl rfl rfl (by rw [ha]; simp; omega) (by rw [ha]; simp; omega)) ?_
      refine TriL.c1 rfl (op_as (ltb rfl) rfl) ?_
      refine TriL.nil ?_
      refine Tri.seq ?_
      refine Tri.region ?_
      refine TriL.c1 rfl (op_fal (ltb rfl) fo25_1_M4 rfl) ?_
      refine TriL.c1 rfl (op_ldl (ltb rfl) lk23_M4 rfl rfl rfl) ?_
      refine TriL.c1 rfl (op_mv (ltb rfl) rfl) ?_
      refine TriL.c1 rfl (op_iak (ltb rfl) ie23_M4 rfl rfl (Int.natCast_nonneg _) (ixm hi) rfl) ?_
      refine TriL.c1 rfl (op_fak (ltb rfl) fo78_1_M4 rfl) ?_
      refine TriL.c1 rfl (op_ldk (ltb rfl) lk76_M4 rfl rfl) ?_
      refine TriL.c1 rfl (op_as (ltb rfl) rfl) ?_
      refine TriL.nil ?_
      refine Tri.seq ?_
      refine Tri.region ?_
      refine TriL.c2 rfl (op_litt («as» := []) (ltb rfl) se112_M4 zAe112_M4 rfl rfl rfl (leb rfl) rfl) ?_
      refine TriL.c1 rfl (op_as (ltb rfl) rfl) ?_
      refine TriL.nil ?_
      refine Tri.seq ?_
      refine Tri.seq ?_
      refine Tri.region ?_
      refine TriL.c1 rfl (op_as (ltb rfl) rfl) ?_
      refine TriL.nil ?_
      refine Tri.blk ?_
      refine Tri.ofKept (Kept.keep [.s 11, .s 10, .t 83, .h, .s 1, .b 1, .s 3, .t 76, .s 4, .s 8, .s 9] rfl (by decide) (Kept.now ?_))
      -- LOOP 4
      refine Tri.loopk (fun ((k, c) : Nat × List AV) => [(.s 11, .sv (.v (.int .i64 (k : Int)))), (.s 10, .sv (.ow 83 c)), (.t 83, .tk false 9 1 c)]) _ (fun ((k, c) : Nat × List AV) => c = ((s.msgs[i]'hi).fields.take k).map (fun f : Fld => AV.str f.name)) (fun ((k, c) : Nat × List AV) => (s.msgs[i]'hi).fields.length - k) (0, _) rfl rfl ?_
      rintro ⟨k, c⟩ hC
      refine Tri.seq ?_
      refine Tri.seq ?_
      refine Tri.region ?_
      refine TriL.c1 rfl (op_mv (ltb rfl) rfl) ?_
      refine TriL.c1 rfl (op_mv (ltb rfl) rfl) ?_
      refine TriL.c1 rfl (op_lenl (ltb rfl) un76_M4 rfl) ?_
      refine TriL.c1 rfl (op_bin (ltb rfl) rfl rfl rfl) ?_
      refine TriL.nil ?_
      refine Tri.cond rfl (fun hc5 => ?_) (fun hc5 => ?_)
      · have hk := ltm hc5
        refine Tri.skip ?_
        refine Tri.seq ?_
        refine Tri.blk ?_
        refine Tri.region ?_
        refine TriL.c1 rfl (op_mv (ltb rfl) rfl) ?_
        refine TriL.c1 rfl (op_mv (ltb rfl) rfl) ?_
        refine TriL.c1 rfl (op_mv (ltb rfl) rfl) ?_
        refine TriL.c1 rfl (op_iak (ltb rfl) ie76_M4 rfl rfl (Int.natCast_nonneg _) (ixm hk) rfl) ?_
        refine TriL.c1 rfl (op_fak (ltb rfl) fo98_0_M4 rfl) ?_
        refine TriL.c1 rfl (op_ldk (ltb rfl) lk9_M4 rfl rfl) ?_
        refine TriL.c1 rfl (op_lit («as» := [_]) (ltb rfl) se112_M4 zAe112_M4 rfl rfl rfl (leb rfl)) ?_
        refine TriL.c3 rfl (op_app (ltb rfl) se112_M4 rfl rfl rfl rfl rfl (by rw [hC]; simp; omega) (by rw [hC]; simp; omega)) ?_
        refine TriL.c1 rfl (op_as (ltb rfl) rfl) ?_
        refine TriL.nil ?_
        refine Tri.region ?_
        refine TriL.c1 rfl (op_mv (ltb rfl) rfl) ?_
        refine TriL.c1 rfl (op_bin (ltb rfl) rfl rfl rfl) ?_
        refine TriL.c1 rfl (op_as (ltb rfl) rfl) ?_
        refine TriL.kept (Kept.seti 11 rfl (inc (by omega)) (Kept.keep [.s 11, .s 10, .t 97, .h, .s 1, .b 1, .s 3, .t 76, .s 4, .s 8, .s 9] rfl (by decide) (Kept.ren 97 83 (by decide) rfl (Kept.now ?_))))
        exact ⟨(k + 1, _), (by dsimp only; omega), take_app hk hC, rfl⟩
      · have hk := gem hc5
        have hTk := take_end hk
        refine Tri.exit ?_
        refine Tri.joinu [.h, .s 1, .b 1, .s 3, .t 76, .s 8, .s 9, .s 10, .t 83] (fun (b1 : Bool) => [(.s 4, .sv (.v (.bool b1)))]) (fun (b1 : Bool) => b1 = (b || !once ((s.msgs[i]'hi).fields.map (·.name)))) rfl ?_ ?_
        · -- region 23 ref.go:88
          refine Tri.region ?_
          refine TriL.c1 rfl (op_mv (ltb rfl) rfl) ?_
          refine TriL.c1 rfl (op_mv (ltb rfl) rfl) ?_
          refine TriL.split (d := 99) rfl (fun hg6 => ?_) (fun hg6 => ?_)
          · refine TriL.skipu rfl rfl (ltb rfl) (ltb rfl) rfl hg6 ?_
            refine TriL.skipu rfl rfl (ltb rfl) (ltb rfl) rfl hg6 ?_
            refine TriL.skipu rfl rfl (ltb rfl) (ltb rfl) rfl hg6 ?_
            refine TriL.c1 rfl (op_pickt (ltb rfl) rfl hg6 rfl) ?_
            refine TriL.c1 rfl (op_as (ltb rfl) rfl) ?_
            refine TriL.kept (Kept.keep [.s 4, .h, .s 1, .b 1, .s 3, .t 76, .s 8, .s 9, .s 10, .t 83] rfl (by decide) (Kept.now ?_))
            exact ⟨_, by grind, rfl⟩
          · refine TriL.g1 rfl (ltb rfl) rfl hg6 (op_mv (ltb rfl) rfl) ?_
            refine TriL.g1 rfl (ltb rfl) rfl hg6 (op_call (ltb rfl) fn71_M4 rfl ((r_once ((s.msgs[i]'hi).fields.map (·.name)) (by simp; omega)).at (by rw [hC, hTk]; simp [Function.comp_def]))) ?_
            refine TriL.g1 rfl (ltb rfl) rfl hg6 (op_un (ltb rfl) rfl rfl) ?_
            refine TriL.c1 rfl (op_pickf (ltb rfl) rfl hg6 rfl) ?_
            refine TriL.c1 rfl (op_as (ltb rfl) rfl) ?_
            refine TriL.kept (Kept.keep [.s 4, .h, .s 1, .b 1, .s 3, .t 76, .s 8, .s 9, .s 10, .t 83] rfl (by decide) (Kept.now ?_))
            exact ⟨_, by grind, rfl⟩
        · rintro b1 hF24
          refine Tri.seq ?_
          refine Tri.region ?_
          refine TriL.c1 rfl (op_as (ltb rfl) rfl) ?_
          refine TriL.nil ?_
          refine Tri.blk ?_
          refine Tri.ofKept (Kept.keep [.s 12, .s 4, .h, .s 1, .b 1, .s 3, .t 76, .s 8, .s 9, .s 10, .t 83] rfl (by decide) (Kept.now ?_))
          -- LOOP 5
          refine Tri.loopk (fun ((k, b) : Nat × Bool) => [(.s 12, .sv (.v (.int .i64 (k : Int)))), (.s 4, .sv (.v (.bool b)))]) _ (fun ((k, b) : Nat × Bool) => (b || ((s.msgs[i]'hi).fields.drop k).any (fun f : Fld => !(f.one == []) && !once ((s.msgs[i]'hi).fields.map (·.name) ++ [f.one]))) = (b1 || (s.msgs[i]'hi).fields.any (fun f : Fld => !(f.one == []) && !once ((s.msgs[i]'hi).fields.map (·.name) ++ [f.one])))) (fun ((k, b) : Nat × Bool) => (s.msgs[i]'hi).fields.length - k) (0, _) rfl (by grind) ?_
          rintro ⟨k, b⟩ hI
          refine Tri.seq ?_
          refine Tri.seq ?_
          refine Tri.region ?_
          refine TriL.c1 rfl (op_mv (ltb rfl) rfl) ?_
          refine TriL.c1 rfl (op_mv (ltb rfl) rfl) ?_
          refine TriL.c1 rfl (op_lenl (ltb rfl) un76_M4 rfl) ?_
          refine TriL.c1 rfl (op_bin (ltb rfl) rfl rfl rfl) ?_
          refine TriL.nil ?_
          refine Tri.cond rfl (fun hc7 => ?_) (fun hc7 => ?_)
          · have hk := ltm hc7
            have hU := any_step (p := (fun f : Fld => !(f.one == []) && !once ((s.msgs[i]'hi).fields.map (·.name) ++ [f.one]))) hk
            refine Tri.skip ?_
            refine Tri.seq ?_
            refine Tri.blk ?_
            refine Tri.drawn mixed rfl ?_
            refine TriD.c1 rfl (op_mv (ltb rfl) rfl) ?_
            refine TriD.c1 rfl (op_mv (ltb rfl) rfl) ?_
            refine TriD.split (d := 111) rfl (fun hg8 => ?_) (fun hg8 => ?_)
            · refine TriD.skipu rfl rfl (ltb rfl) (ltb rfl) rfl hg8 ?_
              refine TriD.skipu rfl rfl (ltb rfl) (ltb rfl) rfl hg8 ?_
              refine TriD.skipu rfl rfl (ltb rfl) (ltb rfl) rfl hg8 ?_
              refine TriD.skipu rfl rfl (ltb rfl) (ltb rfl) rfl hg8 ?_
              refine TriD.skipu rfl rfl (ltb rfl) (ltb rfl) rfl hg8 ?_
              refine TriD.skipu rfl rfl (ltb rfl) (ltb rfl) rfl hg8 ?_
              refine TriD.skipu rfl rfl (ltb rfl) (ltb rfl) rfl hg8 ?_
              refine TriD.skipg rfl rfl (ltb rfl) (ltb rfl) rfl ?_
              refine TriD.skipg rfl rfl (ltb rfl) (ltb rfl) rfl ?_
              refine TriD.skipg rfl rfl (ltb rfl) (ltb rfl) rfl ?_
              refine TriD.skipg rfl rfl (ltb rfl) (ltb rfl) rfl ?_
              refine TriD.skipg rfl rfl (ltb rfl) (ltb rfl) rfl ?_
              refine TriD.skipg rfl rfl (ltb rfl) (ltb rfl) rfl ?_
              refine TriD.skipg rfl rfl (ltb rfl) (ltb rfl) rfl ?_
              refine TriD.skipg rfl rfl (ltb rfl) (ltb rfl) rfl ?_
              refine TriD.skipg rfl rfl (ltb rfl) (ltb rfl) rfl ?_
              refine TriD.skipg rfl rfl (ltb rfl) (ltb rfl) rfl ?_
              refine TriD.skipg rfl rfl (ltb rfl) (ltb rfl) rfl ?_
              refine TriD.skipg rfl rfl (ltb rfl) (ltb rfl) rfl ?_
              refine TriD.skipu rfl rfl (ltb rfl) (ltb rfl) rfl hg8 ?_
              refine TriD.c1 rfl (op_pickt (ltb rfl) rfl hg8 rfl) ?_
              refine TriD.c1 rfl (op_as (ltb rfl) rfl) ?_
              refine TriD.nil (by kernel_rfl) (Kept.now ?_)
              refine Tri.region ?_
              refine TriL.c1 rfl (op_mv (ltb rfl) rfl) ?_
              refine TriL.c1 rfl (op_bin (ltb rfl) rfl rfl rfl) ?_
              refine TriL.c1 rfl (op_as (ltb rfl) rfl) ?_
              refine TriL.kept (Kept.seti 12 rfl (inc (by omega)) (Kept.keep [.s 12, .s 4, .h, .s 1, .b 1, .s 3, .t 76, .s 8, .s 9, .s 10, .t 83] rfl (by decide) (Kept.now ?_)))
              exact ⟨(k + 1, _), (by dsimp only; omega), by grind, rfl⟩
            · refine TriD.g1 rfl (ltb rfl) rfl hg8 (op_mv (ltb rfl) rfl) ?_
              refine TriD.g1 rfl (ltb rfl) rfl hg8 (op_mv (ltb rfl) rfl) ?_
              refine TriD.g1 rfl (ltb rfl) rfl hg8 (op_iak (ltb rfl) ie76_M4 rfl rfl (Int.natCast_nonneg _) (ixm hk) rfl) ?_
              refine TriD.g1 rfl (ltb rfl) rfl hg8 (op_fak (ltb rfl) fo98_6_M4 rfl) ?_
              refine TriD.g1 rfl (ltb rfl) rfl hg8 (op_ldk (ltb rfl) lk9_M4 rfl rfl) ?_
              refine TriD.g1 rfl (ltb rfl) rfl hg8 (op_bin (ltb rfl) rfl rfl rfl) ?_
              refine TriD.g1 rfl (ltb rfl) rfl hg8 (op_mv (ltb rfl) rfl) ?_
              refine TriD.split (d := 118) rfl (fun hg9 => ?_) (fun hg9 => ?_)
              · refine TriD.g2 rfl (ltb rfl) rfl hg9 (op_litt («as» := []) (ltb rfl) se112_M4 zAe112_M4 rfl rfl rfl (leb rfl) rfl) ?_
                refine TriD.g1 rfl (ltb rfl) rfl hg9 (op_mv (ltb rfl) rfl) ?_
                refine TriD.g3 rfl (ltb rfl) rfl hg9 (op_app (ltb rfl) se112_M4 rfl rfl rfl (by rw [hC]; exact okEls_str _ _) rfl (by rw [hC]; simp; omega) (by rw [hC]; simp; omega)) ?_
                refine TriD.g1 rfl (ltb rfl) rfl hg9 (op_mv (ltb rfl) rfl) ?_
                refine TriD.g1 rfl (ltb rfl) rfl hg9 (op_mv (ltb rfl) rfl) ?_
                refine TriD.g1 rfl (ltb rfl) rfl hg9 (op_iak (ltb rfl) ie76_M4 rfl rfl (Int.natCast_nonneg _) (ixm hk) rfl) ?_
                refine TriD.g1 rfl (ltb rfl) rfl hg9 (op_fak (ltb rfl) fo98_6_M4 rfl) ?_
                refine TriD.g1 rfl (ltb rfl) rfl hg9 (op_ldk (ltb rfl) lk9_M4 rfl rfl) ?_
                refine TriD.g1 rfl (ltb rfl) rfl hg9 (op_lit («as» := [_]) (ltb rfl) se112_M4 zAe112_M4 rfl rfl rfl (leb rfl)) ?_
                refine TriD.g3 rfl (ltb rfl) rfl hg9 (op_app (ltb rfl) se112_M4 rfl rfl rfl rfl rfl (by rw [hC]; simp; omega) (by rw [hC]; simp; omega)) ?_
                refine TriD.g1 rfl (ltb rfl) rfl hg9 (op_call (ltb rfl) fn71_M4 rfl ((r_once ((s.msgs[i]'hi).fields.map (·.name) ++ [((s.msgs[i]'hi).fields[k]'hk).one]) (by simp; omega)).at (by rw [hC, hTk]; simp [Function.comp_def]))) ?_
                refine TriD.g1 rfl (ltb rfl) rfl hg9 (op_un (ltb rfl) rfl rfl) ?_
                refine TriD.g1 rfl (ltb rfl) rfl hg8 (op_pickt (ltb rfl) rfl hg9 rfl) ?_
                refine TriD.c1 rfl (op_pickf (ltb rfl) rfl hg8 rfl) ?_
                refine TriD.c1 rfl (op_as (ltb rfl) rfl) ?_
                refine TriD.nil (by kernel_rfl) (Kept.now ?_)
                refine Tri.region ?_
                refine TriL.c1 rfl (op_mv (ltb rfl) rfl) ?_
                refine TriL.c1 rfl (op_bin (ltb rfl) rfl rfl rfl) ?_
                refine TriL.c1 rfl (op_as (ltb rfl) rfl) ?_
                refine TriL.kept (Kept.seti 12 rfl (inc (by omega)) (Kept.keep [.s 12, .s 4, .h, .s 1, .b 1, .s 3, .t 76, .s 8, .s 9, .s 10, .t 83] rfl (by decide) (Kept.now ?_)))
                exact ⟨(k + 1, _), (by dsimp only; omega), by grind, rfl⟩
              · refine TriD.skipu rfl rfl (ltb rfl) (ltb rfl) rfl hg9 ?_
                refine TriD.skipu rfl rfl (ltb rfl) (ltb rfl) rfl hg9 ?_
                refine TriD.skipu rfl rfl (ltb rfl) (ltb rfl) rfl hg9 ?_
                refine TriD.skipu rfl rfl (ltb rfl) (ltb rfl) rfl hg9 ?_
                refine TriD.skipu rfl rfl (ltb rfl) (ltb rfl) rfl hg9 ?_
                refine TriD.skipu rfl rfl (ltb rfl) (ltb rfl) rfl hg9 ?_
                refine TriD.skipu rfl rfl (ltb rfl) (ltb rfl) rfl hg9 ?_
                refine TriD.skipu rfl rfl (ltb rfl) (ltb rfl) rfl hg9 ?_
                refine TriD.skipu rfl rfl (ltb rfl) (ltb rfl) rfl hg9 ?_
                refine TriD.skipu rfl rfl (ltb rfl) (ltb rfl) rfl hg9 ?_
                refine TriD.skipu rfl rfl (ltb rfl) (ltb rfl) rfl hg9 ?_
                refine TriD.skipu rfl rfl (ltb rfl) (ltb rfl) rfl hg9 ?_
                refine TriD.g1 rfl (ltb rfl) rfl hg8 (op_pickf (ltb rfl) rfl hg9 rfl) ?_
                refine TriD.c1 rfl (op_pickf (ltb rfl) rfl hg8 rfl) ?_
                refine TriD.c1 rfl (op_as (ltb rfl) rfl) ?_
                refine TriD.nil (by kernel_rfl) (Kept.now ?_)
                refine Tri.region ?_
                refine TriL.c1 rfl (op_mv (ltb rfl) rfl) ?_
                refine TriL.c1 rfl (op_bin (ltb rfl) rfl rfl rfl) ?_
                refine TriL.c1 rfl (op_as (ltb rfl) rfl) ?_
                refine TriL.kept (Kept.seti 12 rfl (inc (by omega)) (Kept.keep [.s 12, .s 4, .h, .s 1, .b 1, .s 3, .t 76, .s 8, .s 9, .s 10, .t 83] rfl (by decide) (Kept.now ?_)))
                exact ⟨(k + 1, _), (by dsimp only; omega), by grind, rfl⟩
          · have hk := gem hc7
            have hU := any_end (p := (fun f : Fld => !(f.one == []) && !once ((s.msgs[i]'hi).fields.map (·.name) ++ [f.one]))) hk
            refine Tri.exit ?_
            refine Tri.region ?_
            refine TriL.c1 rfl (op_mv (ltb rfl) rfl) ?_
            refine TriL.c1 rfl (op_bin (ltb rfl) rfl rfl rfl) ?_
            refine TriL.c1 rfl (op_as (ltb rfl) rfl) ?_
            refine TriL.kept (Kept.seti 8 rfl (inc (by omega)) (Kept.keep [.s 8, .s 4, .s 3, .t 76, .h, .s 1, .b 1] rfl (by decide) (Kept.ren 76 13 (by decide) rfl (Kept.now ?_))))
            exact ⟨(i + 1, _, _), (by dsimp only; omega), ⟨take_app2 hi ha, by grind [Msg.twice]⟩, rfl⟩
    · have hi := gem hc4
      have hS := any_end (p := Msg.twice) hi
      have hT := take_end hi
      refine Tri.exit ?_
      refine Tri.seq ?_
      refine Tri.region ?_
      refine TriL.c1 rfl (op_mv (ltb rfl) rfl) ?_
      refine TriL.c1 rfl (op_mv (ltb rfl) rfl) ?_
      refine TriL.split (d := 134) rfl (fun hg10 => ?_) (fun hg10 => ?_)
      · refine TriL.skipu rfl rfl (ltb rfl) (ltb rfl) rfl hg10 ?_
        refine TriL.skipu rfl rfl (ltb rfl) (ltb rfl) rfl hg10 ?_
        refine TriL.skipu rfl rfl (ltb rfl) (ltb rfl) rfl hg10 ?_
        refine TriL.c1 rfl (op_pickt (ltb rfl) rfl hg10 rfl) ?_
        refine TriL.c1 rfl (op_as (ltb rfl) rfl) ?_
        refine TriL.nil ?_
        refine Tri.ret ?_
        exact ⟨.inr rfl, (ResOK.r1 rfl (.tmp rfl .nil)).cast (congrArg AV.bool (by grind [Sch.twice])), rfl⟩
      · refine TriL.g1 rfl (ltb rfl) rfl hg10 (op_mv (ltb rfl) rfl) ?_
        refine TriL.g1 rfl (ltb rfl) rfl hg10 (op_call (ltb rfl) fn71_M4 rfl ((r_once (s.enums.map (·.name) ++ s.msgs.map (·.name)) (by simp; omega)).at (by rw [ha, hT]; simp [Function.comp_def]))) ?_
        refine TriL.g1 rfl (ltb rfl) rfl hg10 (op_un (ltb rfl) rfl rfl) ?_
        refine TriL.c1 rfl (op_pickf (ltb rfl) rfl hg10 rfl) ?_
        refine TriL.c1 rfl (op_as (ltb rfl) rfl) ?_
        refine TriL.nil ?_
        refine Tri.ret ?_
        exact ⟨.inr rfl, (ResOK.r1 rfl (.tmp rfl .nil)).cast (congrArg AV.bool (by grind [Sch.twice])), rfl⟩
theorem r_nums (m : Msg) (hl : m.fields.length ≤ 1000) : Pure Tryz.prog 74 [m.av] (.sl (m.fields.map (fun f : Fld => AV.int .i64 f.num))) := by
  refine Pure.of_tri Tryz.func74 rfl rfl (ltb rfl) fun H => ?_
  refine Tri.seq ?_
  refine Tri.region ?_
  refine TriL.c2 rfl (op_box (ltb rfl) rfl rfl rfl) ?_
  refine TriL.c1 rfl (op_as (ltb rfl) rfl) ?_
  refine TriL.nil ?_
  refine Tri.seq ?_
  refine Tri.region ?_
  refine TriL.c2 rfl (op_litt («as» := []) (ltb rfl) se67_M4 zAe67_M4 rfl rfl rfl (leb rfl) rfl) ?_
  refine TriL.c1 rfl (op_as (ltb rfl) rfl) ?_
  refine TriL.nil ?_
  refine Tri.seq ?_
  refine Tri.seq ?_
  refine Tri.region ?_
  refine TriL.c1 rfl (op_as (ltb rfl) rfl) ?_
  refine TriL.nil ?_
  refine Tri.blk ?_
  refine Tri.ofKept (Kept.keep [.s 4, .s 3, .t 5, .h, .s 1, .b 1] rfl (by decide) (Kept.now ?_))
  -- LOOP 1
  refine Tri.loopk (fun ((i, a) : Nat × List AV) => [(.s 4, .sv (.v (.int .i64 (i : Int)))), (.s 3, .sv (.ow 5 a)), (.t 5, .tk false 3 1 a)]) _ (fun ((i, a) : Nat × List AV) => a = (m.fields.take i).map (fun f : Fld => AV.int .i64 f.num)) (fun ((i, a) : Nat × List AV) => m.fields.length - i) (0, _) rfl rfl ?_
  rintro ⟨i, a⟩ ha
  refine Tri.seq ?_
  refine Tri.seq ?_
  refine Tri.region ?_
  refine TriL.c1 rfl (op_mv (ltb rfl) rfl) ?_
  refine TriL.c1 rfl (op_fal (ltb rfl) fo78_1_M4 rfl) ?_
  refine TriL.c1 rfl (op_ldl (ltb rfl) lk76_M4 rfl rfl rfl) ?_
  refine TriL.c1 rfl (op_lenl (ltb rfl) un76_M4 rfl) ?_
  refine TriL.c1 rfl (op_bin (ltb rfl) rfl rfl rfl) ?_
  refine TriL.nil ?_
  refine Tri.cond rfl (fun hc1 => ?_) (fun hc1 => ?_)
  · have hi := ltm hc1
    refine Tri.skip ?_
    refine Tri.seq ?_
    refine Tri.blk ?_
    refine Tri.region ?_
    refine TriL.c1 rfl (op_mv (ltb rfl) rfl) ?_
    refine TriL.c1 rfl (op_fal (ltb rfl) fo78_1_M4 rfl) ?_
    refine TriL.c1 rfl (op_ldl (ltb rfl) lk76_M4 rfl rfl rfl) ?_
    refine TriL.c1 rfl (op_mv (ltb rfl) rfl) ?_
    refine TriL.c1 rfl (op_iak (ltb rfl) ie76_M4 rfl rfl (Int.natCast_nonneg _) (ixm hi) rfl) ?_
    refine TriL.c1 rfl (op_fak (ltb rfl) fo98_1_M4 rfl) ?_
    refine TriL.c1 rfl (op_ldk (ltb rfl) lk3_M4 rfl rfl) ?_
    refine TriL.c1 rfl (op_lit («as» := [_]) (ltb rfl) se67_M4 zAe67_M4 rfl rfl rfl (leb rfl)) ?_
    refine TriL.c3 rfl (op_app (ltb rfl) se67_M4 rfl rfl rfl rfl rfl (by rw [ha]; simp; omega) (by rw [ha]; simp; omega)) ?_
    refine TriL.c1 rfl (op_as (ltb rfl) rfl) ?_
    refine TriL.nil ?_
    refine Tri.region ?_
    refine TriL.c1 rfl (op_mv (ltb rfl) rfl) ?_
    refine TriL.c1 rfl (op_bin (ltb rfl) rfl rfl rfl) ?_
    refine TriL.c1 rfl (op_as (ltb rfl) rfl) ?_
    refine TriL.kept (Kept.seti 4 rfl (inc (by omega)) (Kept.keep [.s 4, .s 3, .t 21, .h, .s 1, .b 1] rfl (by decide) (Kept.ren 21 5 (by decide) rfl (Kept.now ?_))))
    exact ⟨(i + 1, _), (by dsimp only; omega), take_app hi ha, rfl⟩
  · have hi := gem hc1
    have hT := take_end hi
    refine Tri.exit ?_
    refine Tri.seq ?_
    refine Tri.region ?_
    refine TriL.c1 rfl (op_mv (ltb rfl) rfl) ?_
    refine TriL.c1 rfl (op_as (ltb rfl) rfl) ?_
    refine TriL.nil ?_
    refine Tri.ret ?_
    exact ⟨.inr rfl, (ResOK.r1 rfl (.tmp rfl .nil)).cast (by rw [ha, hT]), rfl⟩
theorem r_order (s : Sch) (hs : s.sm) (hn : ∀ x ∈ s.enums, 0 < x.values.length) : Pure Tryz.prog 41 [s.av] (.bool s.order) := by
  have := hs.e
  have := hs.m
  refine Pure.of_tri Tryz.func41 rfl rfl (ltb rfl) fun H => ?_
  refine Tri.seq ?_
  refine Tri.region ?_
  refine TriL.c2 rfl (op_box (ltb rfl) rfl rfl rfl) ?_
  refine TriL.c1 rfl (op_as (ltb rfl) rfl) ?_
  refine TriL.nil ?_
  refine Tri.seq ?_
  refine Tri.region ?_
  refine TriL.c1 rfl (op_as (ltb rfl) rfl) ?_
  refine TriL.nil ?_
  refine Tri.seq ?_
  refine Tri.region ?_
  refine TriL.c2 rfl (op_litt («as» := []) (ltb rfl) se112_M4 zAe112_M4 rfl rfl rfl (leb rfl) rfl) ?_
  refine TriL.c1 rfl (op_as (ltb rfl) rfl) ?_
  refine TriL.nil ?_
  refine Tri.seq ?_
  refine Tri.seq ?_
  refine Tri.region ?_
  refine TriL.c1 rfl (op_as (ltb rfl) rfl) ?_
  refine TriL.nil ?_
  refine Tri.blk ?_
  refine Tri.ofKept (Kept.keep [.s 5, .s 3, .s 4, .t 10, .h, .s 1, .b 1] rfl (by decide) (Kept.now ?_))
  -- LOOP 1
  refine Tri.loopk (fun ((i, b, a) : Nat × Bool × List AV) => [(.s 5, .sv (.v (.int .i64 (i : Int)))), (.s 3, .sv (.v (.bool b))), (.s 4, .sv (.ow 10 a)), (.t 10, .tk false 9 1 a)]) _ (fun ((i, b, a) : Nat × Bool × List AV) => a = (s.enums.take i).map (fun e : Enm => AV.str e.name) ∧ (b || (s.enums.drop i).any Enm.order) = s.enums.any Enm.order) (fun ((i, b, a) : Nat × Bool × List AV) => s.enums.length - i) (0, _, _) rfl ⟨rfl, by simp⟩ ?_
  rintro ⟨i, b, a⟩ ⟨ha, hI⟩
  refine Tri.seq ?_
  refine Tri.seq ?_
  refine Tri.region ?_
  refine TriL.c1 rfl (op_mv (ltb rfl) rfl) ?_
  refine TriL.c1 rfl (op_fal (ltb rfl) fo25_0_M4 rfl) ?_
  refine TriL.c1 rfl (op_ldl (ltb rfl) lk22_M4 rfl rfl rfl) ?_
  refine TriL.c1 rfl (op_lenl (ltb rfl) un22_M4 rfl) ?_
  refine TriL.c1 rfl (op_bin (ltb rfl) rfl rfl rfl) ?_
  refine TriL.nil ?_
  refine Tri.cond rfl (fun hc1 => ?_) (fun hc1 => ?_)
  · have hi := ltm hc1
    have hS := any_step (p := Enm.order) hi
    have := hs.vi hi
    have hv0 : 0 < (s.enums[i]'hi).values.length := hn _ (List.getElem_mem hi)
    have hO := Enm.order_pos hv0
    refine Tri.skip ?_
    refine Tri.seq ?_
    refine Tri.blk ?_
    refine Tri.seq ?_
    refine Tri.region ?_
    refine TriL.c1 rfl (op_mv (ltb rfl) rfl) ?_
    refine TriL.c1 rfl (op_fal (ltb rfl) fo25_0_M4 rfl) ?_
    refine TriL.c1 rfl (op_ldl (ltb rfl) lk22_M4 rfl rfl rfl) ?_
    refine TriL.c1 rfl (op_mv (ltb rfl) rfl) ?_
    refine TriL.c1 rfl (op_iak (ltb rfl) ie22_M4 rfl rfl (Int.natCast_nonneg _) (ixm hi) rfl) ?_
    refine TriL.c1 rfl (op_fak (ltb rfl) fo94_0_M4 rfl) ?_
    refine TriL.c1 rfl (op_ldk (ltb rfl) lk9_M4 rfl rfl) ?_
    refine TriL.c1 rfl (op_lit («as» := [_]) (ltb rfl) se112_M4 zAe112_M4 rfl rfl rfl (leb rfl)) ?_
    refine TriL.c3 rfl (op_app (ltb rfl) se112_M4 rfl rfl rfl rfl rfl (by rw [ha]; simp; omega) (by rw [ha]; simp; omega)) ?_
    refine TriL.c1 rfl (op_as (ltb rfl) rfl) ?_
    refine TriL.nil ?_
    refine Tri.seq ?_
    refine Tri.region ?_
    refine TriL.c2 rfl (op_litt («as» := []) (ltb rfl) se67_M4 zAe67_M4 rfl rfl rfl (leb rfl) rfl) ?_
    refine TriL.c1 rfl (op_as (ltb rfl) rfl) ?_
    refine TriL.nil ?_
    refine Tri.seq ?_
    refine Tri.seq ?_
    refine Tri.region ?_
    refine TriL.c1 rfl (op_as (ltb rfl) rfl) ?_
    refine TriL.nil ?_
    refine Tri.blk ?_
    refine Tri.ofKept (Kept.keep [.s 7, .s 6, .t 27, .h, .s 1, .b 1, .s 3, .s 4, .t 26, .s 5] rfl (by decide) (Kept.now ?_))
    -- LOOP 2
    refine Tri.loopk (fun ((k, c) : Nat × List AV) => [(.s 7, .sv (.v (.int .i64 (k : Int)))), (.s 6, .sv (.ow 27 c)), (.t 27, .tk false 3 1 c)]) _ (fun ((k, c) : Nat × List AV) => c = ((s.enums[i]'hi).values.take k).map (fun v : Vlu => AV.int .i64 v.num)) (fun ((k, c) : Nat × List AV) => (s.enums[i]'hi).values.length - k) (0, _) rfl rfl ?_
    rintro ⟨k, c⟩ hC
    refine Tri.seq ?_
    refine Tri.seq ?_
    refine Tri.region ?_
    refine TriL.c1 rfl (op_mv (ltb rfl) rfl) ?_
    refine TriL.c1 rfl (op_fal (ltb rfl) fo25_0_M4 rfl) ?_
    refine TriL.c1 rfl (op_ldl (ltb rfl) lk22_M4 rfl rfl rfl) ?_
    refine TriL.c1 rfl (op_mv (ltb rfl) rfl) ?_
    refine TriL.c1 rfl (op_iak (ltb rfl) ie22_M4 rfl rfl (Int.natCast_nonneg _) (ixm hi) rfl) ?_
    refine TriL.c1 rfl (op_fak (ltb rfl) fo94_1_M4 rfl) ?_
    refine TriL.c1 rfl (op_ldk (ltb rfl) lk92_M4 rfl rfl) ?_
    refine TriL.c1 rfl (op_lenl (ltb rfl) un92_M4 rfl) ?_
    refine TriL.c1 rfl (op_bin (ltb rfl) rfl rfl rfl) ?_
    refine TriL.nil ?_
    refine Tri.cond rfl (fun hc2 => ?_) (fun hc2 => ?_)
    · have hk := ltm hc2
      refine Tri.skip ?_
      refine Tri.seq ?_
      refine Tri.blk ?_
      refine Tri.region ?_
      refine TriL.c1 rfl (op_mv (ltb rfl) rfl) ?_
      refine TriL.c1 rfl (op_fal (ltb rfl) fo25_0_M4 rfl) ?_
      refine TriL.c1 rfl (op_ldl (ltb rfl) lk22_M4 rfl rfl rfl) ?_
      refine TriL.c1 rfl (op_mv (ltb rfl) rfl) ?_
      refine TriL.c1 rfl (op_iak (ltb rfl) ie22_M4 rfl rfl (Int.natCast_nonneg _) (ixm hi) rfl) ?_
      refine TriL.c1 rfl (op_fak (ltb rfl) fo94_1_M4 rfl) ?_
      refine TriL.c1 rfl (op_ldk (ltb rfl) lk92_M4 rfl rfl) ?_
      refine TriL.c1 rfl (op_mv (ltb rfl) rfl) ?_
      refine TriL.c1 rfl (op_iak (ltb rfl) ie92_M4 rfl rfl (Int.natCast_nonneg _) (ixm hk) rfl) ?_
      refine TriL.c1 rfl (op_fak (ltb rfl) fo96_1_M4 rfl) ?_
      refine TriL.c1 rfl (op_ldk (ltb rfl) lk3_M4 rfl rfl) ?_
      refine TriL.c1 rfl (op_lit («as» := [_]) (ltb rfl) se67_M4 zAe67_M4 rfl rfl rfl (leb rfl)) ?_
      refine TriL.c3 rfl (op_app (ltb rfl) se67_M4 rfl rfl rfl rfl rfl (by rw [hC]; simp; omega) (by rw [hC]; simp; omega)) ?_
      refine TriL.c1 rfl (op_as (ltb rfl) rfl) ?_
      refine TriL.nil ?_
      refine Tri.region ?_
      refine TriL.c1 rfl (op_mv (ltb rfl) rfl) ?_
      refine TriL.c1 rfl (op_bin (ltb rfl) rfl rfl rfl) ?_
      refine TriL.c1 rfl (op_as (ltb rfl) rfl) ?_
      refine TriL.kept (Kept.seti 7 rfl (inc (by omega)) (Kept.keep [.s 7, .s 6, .t 51, .h, .s 1, .b 1, .s 3, .s 4, .t 26, .s 5] rfl (by decide) (Kept.ren 51 27 (by decide) rfl (Kept.now ?_))))
      exact ⟨(k + 1, _), (by dsimp only; omega), take_app hk hC, rfl⟩
    · have hk := gem hc2
      have hC2 : c = (s.enums[i]'hi).values.map (fun v : Vlu => AV.int .i64 v.num) := by rw [hC, take_end hk]
      refine Tri.exit ?_
      refine Tri.region ?_
      refine TriL.c1 rfl (op_mv (ltb rfl) rfl) ?_
      refine TriL.c1 rfl (op_mv (ltb rfl) rfl) ?_
      refine TriL.split (d := 53) rfl (fun hg3 => ?_) (fun hg3 => ?_)
      · refine TriL.skipu rfl rfl (ltb rfl) (ltb rfl) rfl hg3 ?_
        refine TriL.skipu rfl rfl (ltb rfl) (ltb rfl) rfl hg3 ?_
        refine TriL.skipu rfl rfl (ltb rfl) (ltb rfl) rfl hg3 ?_
        refine TriL.c1 rfl (op_pickt (ltb rfl) rfl hg3 rfl) ?_
        refine TriL.c1 rfl (op_mv (ltb rfl) rfl) ?_
        refine TriL.skipu rfl rfl (ltb rfl) (ltb rfl) rfl rfl ?_
        refine TriL.skipu rfl rfl (ltb rfl) (ltb rfl) rfl rfl ?_
        refine TriL.skipu rfl rfl (ltb rfl) (ltb rfl) rfl rfl ?_
        refine TriL.skipu rfl rfl (ltb rfl) (ltb rfl) rfl rfl ?_
        refine TriL.c1 rfl (op_pickt (ltb rfl) rfl rfl rfl) ?_
        refine TriL.c1 rfl (op_mv (ltb rfl) rfl) ?_
        refine TriL.skipu rfl rfl (ltb rfl) (ltb rfl) rfl rfl ?_
        refine TriL.skipu rfl rfl (ltb rfl) (ltb rfl) rfl rfl ?_
        refine TriL.skipu rfl rfl (ltb rfl) (ltb rfl) rfl rfl ?_
        refine TriL.skipu rfl rfl (ltb rfl) (ltb rfl) rfl rfl ?_
        refine TriL.skipu rfl rfl (ltb rfl) (ltb rfl) rfl rfl ?_
        refine TriL.skipu rfl rfl (ltb rfl) (ltb rfl) rfl rfl ?_
        refine TriL.skipu rfl rfl (ltb rfl) (ltb rfl) rfl rfl ?_
        refine TriL.c1 rfl (op_pickt (ltb rfl) rfl rfl rfl) ?_
        refine TriL.c1 rfl (op_as (ltb rfl) rfl) ?_
        refine TriL.nil ?_
        refine Tri.region ?_
        refine TriL.c1 rfl (op_mv (ltb rfl) rfl) ?_
        refine TriL.c1 rfl (op_bin (ltb rfl) rfl rfl rfl) ?_
        refine TriL.c1 rfl (op_as (ltb rfl) rfl) ?_
        refine TriL.kept (Kept.seti 5 rfl (inc (by omega)) (Kept.keep [.s 5, .s 3, .s 4, .t 26, .h, .s 1, .b 1] rfl (by decide) (Kept.ren 26 10 (by decide) rfl (Kept.now ?_))))
        exact ⟨(i + 1, _, _), (by dsimp only; omega), ⟨take_app hi ha, by clear ha hC hC2 hn; grind⟩, rfl⟩
      · refine TriL.g1 rfl (ltb rfl) rfl hg3 (op_mv (ltb rfl) rfl) ?_
        refine TriL.g1 rfl (ltb rfl) rfl hg3 (op_call (ltb rfl) fn72_M4 rfl ((r_rises ((s.enums[i]'hi).values.map (·.num)) (by simp; omega)).at (by rw [hC2]; simp [iAV, Function.comp_def]))) ?_
        refine TriL.g1 rfl (ltb rfl) rfl hg3 (op_un (ltb rfl) rfl rfl) ?_
        refine TriL.c1 rfl (op_pickf (ltb rfl) rfl hg3 rfl) ?_
        refine TriL.c1 rfl (op_mv (ltb rfl) rfl) ?_
        refine TriL.split (d := 58) rfl (fun hg4 => ?_) (fun hg4 => ?_)
        · refine TriL.skipu rfl rfl (ltb rfl) (ltb rfl) rfl hg4 ?_
          refine TriL.skipu rfl rfl (ltb rfl) (ltb rfl) rfl hg4 ?_
          refine TriL.skipu rfl rfl (ltb rfl) (ltb rfl) rfl hg4 ?_
          refine TriL.skipu rfl rfl (ltb rfl) (ltb rfl) rfl hg4 ?_
          refine TriL.c1 rfl (op_pickt (ltb rfl) rfl hg4 rfl) ?_
          refine TriL.c1 rfl (op_mv (ltb rfl) rfl) ?_
          refine TriL.skipu rfl rfl (ltb rfl) (ltb rfl) rfl rfl ?_
          refine TriL.skipu rfl rfl (ltb rfl) (ltb rfl) rfl rfl ?_
          refine TriL.skipu rfl rfl (ltb rfl) (ltb rfl) rfl rfl ?_
          refine TriL.skipu rfl rfl (ltb rfl) (ltb rfl) rfl rfl ?_
          refine TriL.skipu rfl rfl (ltb rfl) (ltb rfl) rfl rfl ?_
          refine TriL.skipu rfl rfl (ltb rfl) (ltb rfl) rfl rfl ?_
          refine TriL.skipu rfl rfl (ltb rfl) (ltb rfl) rfl rfl ?_
          refine TriL.c1 rfl (op_pickt (ltb rfl) rfl rfl rfl) ?_
          refine TriL.c1 rfl (op_as (ltb rfl) rfl) ?_
          refine TriL.nil ?_
          refine Tri.region ?_
          refine TriL.c1 rfl (op_mv (ltb rfl) rfl) ?_
          refine TriL.c1 rfl (op_bin (ltb rfl) rfl rfl rfl) ?_
          refine TriL.c1 rfl (op_as (ltb rfl) rfl) ?_
          refine TriL.kept (Kept.seti 5 rfl (inc (by omega)) (Kept.keep [.s 5, .s 3, .s 4, .t 26, .h, .s 1, .b 1] rfl (by decide) (Kept.ren 26 10 (by decide) rfl (Kept.now ?_))))
          exact ⟨(i + 1, _, _), (by dsimp only; omega), ⟨take_app hi ha, by clear ha hC hC2 hn; grind⟩, rfl⟩
        · refine TriL.g1 rfl (ltb rfl) rfl hg4 (op_mv (ltb rfl) rfl) ?_
          refine TriL.g1 rfl (ltb rfl) rfl hg4 (op_iak (ltb rfl) ie67_M4 rfl rfl (by decide) (ixeq (i := 0) hC2 hv0) rfl) ?_
          refine TriL.g1 rfl (ltb rfl) rfl hg4 (op_ldk (ltb rfl) lk3_M4 rfl rfl) ?_
          refine TriL.g1 rfl (ltb rfl) rfl hg4 (op_bin (ltb rfl) rfl rfl rfl) ?_
          refine TriL.c1 rfl (op_pickf (ltb rfl) rfl hg4 rfl) ?_
          refine TriL.c1 rfl (op_mv (ltb rfl) rfl) ?_
          refine TriL.split (d := 64) rfl (fun hg5 => ?_) (fun hg5 => ?_)
          · refine TriL.skipu rfl rfl (ltb rfl) (ltb rfl) rfl hg5 ?_
            refine TriL.skipu rfl rfl (ltb rfl) (ltb rfl) rfl hg5 ?_
            refine TriL.skipu rfl rfl (ltb rfl) (ltb rfl) rfl hg5 ?_
            refine TriL.skipu rfl rfl (ltb rfl) (ltb rfl) rfl hg5 ?_
            refine TriL.skipu rfl rfl (ltb rfl) (ltb rfl) rfl hg5 ?_
            refine TriL.skipu rfl rfl (ltb rfl) (ltb rfl) rfl hg5 ?_
            refine TriL.skipu rfl rfl (ltb rfl) (ltb rfl) rfl hg5 ?_
            refine TriL.c1 rfl (op_pickt (ltb rfl) rfl hg5 rfl) ?_
            refine TriL.c1 rfl (op_as (ltb rfl) rfl) ?_
            refine TriL.nil ?_
            refine Tri.region ?_
            refine TriL.c1 rfl (op_mv (ltb rfl) rfl) ?_
            refine TriL.c1 rfl (op_bin (ltb rfl) rfl rfl rfl) ?_
            refine TriL.c1 rfl (op_as (ltb rfl) rfl) ?_
            refine TriL.kept (Kept.seti 5 rfl (inc (by omega)) (Kept.keep [.s 5, .s 3, .s 4, .t 26, .h, .s 1, .b 1] rfl (by decide) (Kept.ren 26 10 (by decide) rfl (Kept.now ?_))))
            exact ⟨(i + 1, _, _), (by dsimp only; omega), ⟨take_app hi ha, by clear ha hC hC2 hn; grind⟩, rfl⟩
          · refine TriL.g1 rfl (ltb rfl) rfl hg5 (op_mv (ltb rfl) rfl) ?_
            refine TriL.g1 rfl (ltb rfl) rfl hg5 (op_mv (ltb rfl) rfl) ?_
            refine TriL.g1 rfl (ltb rfl) rfl hg5 (op_lenl (ltb rfl) un67_M4 rfl) ?_
            refine TriL.g1 rfl (ltb rfl) rfl hg5 (op_bin (ltb rfl) rfl rfl rfl) ?_
            refine TriL.g1 rfl (ltb rfl) rfl hg5 (op_iak (ltb rfl) ie67_M4 rfl rfl (by rw [hC2, List.length_map, dec1 hv0 (by omega)]; exact Int.natCast_nonneg _) (ixeq1 (i := (s.enums[i]'hi).values.length - 1) (by rw [hC2, List.length_map]; exact dec1 hv0 (by omega)) hC2 (by omega)) rfl) ?_
            refine TriL.g1 rfl (ltb rfl) rfl hg5 (op_ldk (ltb rfl) lk3_M4 rfl rfl) ?_
            refine TriL.g1 rfl (ltb rfl) rfl hg5 (op_bin (ltb rfl) rfl rfl rfl) ?_
            refine TriL.c1 rfl (op_pickf (ltb rfl) rfl hg5 rfl) ?_
            refine TriL.c1 rfl (op_as (ltb rfl) rfl) ?_
            refine TriL.nil ?_
            refine Tri.region ?_
            refine TriL.c1 rfl (op_mv (ltb rfl) rfl) ?_
            refine TriL.c1 rfl (op_bin (ltb rfl) rfl rfl rfl) ?_
            refine TriL.c1 rfl (op_as (ltb rfl) rfl) ?_
            refine TriL.kept (Kept.seti 5 rfl (inc (by omega)) (Kept.keep [.s 5, .s 3, .s 4, .t 26, .h, .s 1, .b 1] rfl (by decide) (Kept.ren 26 10 (by decide) rfl (Kept.now ?_))))
            exact ⟨(i + 1, _, _), (by dsimp only; omega), ⟨take_app hi ha, by clear ha hC hC2 hn; grind⟩, rfl⟩
  · have hi := gem hc1
    have hS := any_end (p := Enm.order) hi
    have hT := take_end hi
    refine Tri.exit ?_
    refine Tri.joinu [.h, .s 1, .b 1] (fun (b1 : Bool) => [(.s 3, .sv (.v (.bool b1)))]) (fun (b1 : Bool) => b1 = (s.enums.any Enm.order || !riseS (s.enums.map (·.name)))) rfl ?_ ?_
    · -- region 13 ref.go:127
      refine Tri.region ?_
      refine TriL.c1 rfl (op_mv (ltb rfl) rfl) ?_
      refine TriL.c1 rfl (op_mv (ltb rfl) rfl) ?_
      refine TriL.split (d := 74) rfl (fun hg6 => ?_) (fun hg6 => ?_)
      · refine TriL.skipu rfl rfl (ltb rfl) (ltb rfl) rfl hg6 ?_
        refine TriL.skipu rfl rfl (ltb rfl) (ltb rfl) rfl hg6 ?_
        refine TriL.skipu rfl rfl (ltb rfl) (ltb rfl) rfl hg6 ?_
        refine TriL.c1 rfl (op_pickt (ltb rfl) rfl hg6 rfl) ?_
        refine TriL.c1 rfl (op_as (ltb rfl) rfl) ?_
        refine TriL.kept (Kept.keep [.s 3, .h, .s 1, .b 1] rfl (by decide) (Kept.now ?_))
        exact ⟨_, by grind, rfl⟩
      · refine TriL.g1 rfl (ltb rfl) rfl hg6 (op_mv (ltb rfl) rfl) ?_
        refine TriL.g1 rfl (ltb rfl) rfl hg6 (op_call (ltb rfl) fn73_M4 rfl ((r_riseS (s.enums.map (·.name)) (by simp; omega)).at (by rw [ha, hT]; simp [Function.comp_def]))) ?_
        refine TriL.g1 rfl (ltb rfl) rfl hg6 (op_un (ltb rfl) rfl rfl) ?_
        refine TriL.c1 rfl (op_pickf (ltb rfl) rfl hg6 rfl) ?_
        refine TriL.c1 rfl (op_as (ltb rfl) rfl) ?_
        refine TriL.kept (Kept.keep [.s 3, .h, .s 1, .b 1] rfl (by decide) (Kept.now ?_))
        exact ⟨_, by grind, rfl⟩
    · rintro b1 hF14
      refine Tri.seq ?_
      refine Tri.region ?_
      refine TriL.c2 rfl (op_litt («as» := []) (ltb rfl) se112_M4 zAe112_M4 rfl rfl rfl (leb rfl) rfl) ?_
      refine TriL.c1 rfl (op_as (ltb rfl) rfl) ?_
      refine TriL.nil ?_
      refine Tri.seq ?_
      refine Tri.seq ?_
      refine Tri.region ?_
      refine TriL.c1 rfl (op_as (ltb rfl) rfl) ?_
      refine TriL.nil ?_
      refine Tri.blk ?_
      refine Tri.ofKept (Kept.keep [.s 8, .s 3, .s 4, .t 79, .h, .s 1, .b 1] rfl (by decide) (Kept.now ?_))
      -- LOOP 3
      refine Tri.loopk (fun ((i, b, a) : Nat × Bool × List AV) => [(.s 8, .sv (.v (.int .i64 (i : Int)))), (.s 3, .sv (.v (.bool b))), (.s 4, .sv (.ow 79 a)), (.t 79, .tk false 9 1 a)]) _ (fun ((i, b, a) : Nat × Bool × List AV) => a = ((s.msgs.take i).drop 1).map (fun m : Msg => AV.str m.name) ∧ (b || (s.msgs.drop i).any Msg.order) = (s.enums.any Enm.order || !riseS (s.enums.map (·.name)) || s.msgs.any Msg.order)) (fun ((i, b, a) : Nat × Bool × List AV) => s.msgs.length - i) (0, _, _) rfl ⟨by simp, by grind⟩ ?_
      rintro ⟨i, b, a⟩ ⟨ha, hI⟩
      refine Tri.seq ?_
      refine Tri.seq ?_
      refine Tri.region ?_
      refine TriL.c1 rfl (op_mv (ltb rfl) rfl) ?_
      refine TriL.c1 rfl (op_fal (ltb rfl) fo25_1_M4 rfl) ?_
      refine TriL.c1 rfl (op_ldl (ltb rfl) lk23_M4 rfl rfl rfl) ?_
      refine TriL.c1 rfl (op_lenl (ltb rfl) un23_M4 rfl) ?_
      refine TriL.c1 rfl (op_bin (ltb rfl) rfl rfl rfl) ?_
      refine TriL.nil ?_
      refine Tri.cond rfl (fun hc7 => ?_) (fun hc7 => ?_)
      · have hi := ltm hc7
        have hS := any_step (p := Msg.order) hi
        have := hs.fi hi
        have := hs.bi hi
        have hO1 := Msg.order_pos (m := (s.msgs[i]'hi))
        have hO2 := Msg.order_nil (m := (s.msgs[i]'hi))
        refine Tri.skip ?_
        refine Tri.seq ?_
        refine Tri.blk ?_
        refine Tri.joinu [.h, .s 1, .b 1, .s 3, .s 8] (fun (a2 : List AV) => [(.s 4, .sv (.ow 79 a2)), (.t 79, .tk false 9 1 a2)]) (fun (a2 : List AV) => a2 = ((s.msgs.take (i + 1)).drop 1).map (fun m : Msg => AV.str m.name)) rfl ?_ ?_
        · refine Tri.seq ?_
          refine Tri.region ?_
          refine TriL.c1 rfl (op_mv (ltb rfl) rfl) ?_
          refine TriL.c1 rfl (op_bin (ltb rfl) rfl rfl rfl) ?_
          refine TriL.nil ?_
          refine Tri.cond rfl (fun hc8 => ?_) (fun hc8 => ?_)
          · -- region 19 ref.go:131
            refine Tri.region ?_
            refine TriL.c1 rfl (op_mv (ltb rfl) rfl) ?_
            refine TriL.c1 rfl (op_fal (ltb rfl) fo25_1_M4 rfl) ?_
            refine TriL.c1 rfl (op_ldl (ltb rfl) lk23_M4 rfl rfl rfl) ?_
            refine TriL.c1 rfl (op_mv (ltb rfl) rfl) ?_
            refine TriL.c1 rfl (op_iak (ltb rfl) ie23_M4 rfl rfl (Int.natCast_nonneg _) (ixm hi) rfl) ?_
            refine TriL.c1 rfl (op_fak (ltb rfl) fo78_0_M4 rfl) ?_
            refine TriL.c1 rfl (op_ldk (ltb rfl) lk9_M4 rfl rfl) ?_
            refine TriL.c1 rfl (op_lit («as» := [_]) (ltb rfl) se112_M4 zAe112_M4 rfl rfl rfl (leb rfl)) ?_
            refine TriL.c3 rfl (op_app (ltb rfl) se112_M4 rfl rfl rfl rfl rfl (by rw [ha]; simp; omega) (by rw [ha]; simp; omega)) ?_
            refine TriL.c1 rfl (op_as (ltb rfl) rfl) ?_
            refine TriL.kept (Kept.keep [.s 4, .t 97, .h, .s 1, .b 1, .s 3, .s 8] rfl (by decide) (Kept.ren 97 79 (by decide) rfl (Kept.now ?_)))
            exact ⟨a ++ [AV.str (s.msgs[i]'hi).name], (by rw [take_drop1 (by have := of_decide_eq_true hc8; omega) hi, List.map_append, ha]; rfl), rfl⟩
          · refine Tri.ofKept (Kept.keep [.s 4, .t 79, .h, .s 1, .b 1, .s 3, .s 8] rfl (by decide) (Kept.now ?_))
            refine Tri.skip ?_
            exact ⟨a, (by have h0 : i = 0 := (by have := of_decide_eq_false hc8; omega); subst h0; rw [take_drop0, ha]; simp), rfl⟩
        · rintro a2 ha2
          refine Tri.seq ?_
          refine Tri.region ?_
          refine TriL.c1 rfl (op_fal (ltb rfl) fo25_1_M4 rfl) ?_
          refine TriL.c1 rfl (op_ldl (ltb rfl) lk23_M4 rfl rfl rfl) ?_
          refine TriL.c1 rfl (op_mv (ltb rfl) rfl) ?_
          refine TriL.c1 rfl (op_iak (ltb rfl) ie23_M4 rfl rfl (Int.natCast_nonneg _) (ixm hi) rfl) ?_
          refine TriL.c1 rfl (op_fak (ltb rfl) fo78_2_M4 rfl) ?_
          refine TriL.c1 rfl (op_ldk (ltb rfl) lk67_M4 rfl rfl) ?_
          refine TriL.c1 rfl (op_as (ltb rfl) rfl) ?_
          refine TriL.nil ?_
          refine Tri.joinu [.h, .s 1, .b 1, .s 4, .t 79, .s 8, .s 9] (fun (b1 : Bool) => [(.s 3, .sv (.v (.bool b1)))]) (fun (b1 : Bool) => b1 = (b || !rises ((s.msgs[i]'hi).fields.map (·.num)) || !rises (s.msgs[i]'hi).barred)) rfl ?_ ?_
          · -- region 21 ref.go:134
            refine Tri.region ?_
            refine TriL.c1 rfl (op_mv (ltb rfl) rfl) ?_
            refine TriL.c1 rfl (op_mv (ltb rfl) rfl) ?_
            refine TriL.split (d := 105) rfl (fun hg9 => ?_) (fun hg9 => ?_)
            · refine TriL.skipu rfl rfl (ltb rfl) (ltb rfl) rfl hg9 ?_
              refine TriL.skipu rfl rfl (ltb rfl) (ltb rfl) rfl hg9 ?_
              refine TriL.skipu rfl rfl (ltb rfl) (ltb rfl) rfl hg9 ?_
              refine TriL.skipu rfl rfl (ltb rfl) (ltb rfl) rfl hg9 ?_
              refine TriL.skipu rfl rfl (ltb rfl) (ltb rfl) rfl hg9 ?_
              refine TriL.skipu rfl rfl (ltb rfl) (ltb rfl) rfl hg9 ?_
              refine TriL.skipu rfl rfl (ltb rfl) (ltb rfl) rfl hg9 ?_
              refine TriL.skipu rfl rfl (ltb rfl) (ltb rfl) rfl hg9 ?_
              refine TriL.c1 rfl (op_pickt (ltb rfl) rfl hg9 rfl) ?_
              refine TriL.c1 rfl (op_mv (ltb rfl) rfl) ?_
              refine TriL.skipu rfl rfl (ltb rfl) (ltb rfl) rfl rfl ?_
              refine TriL.skipu rfl rfl (ltb rfl) (ltb rfl) rfl rfl ?_
              refine TriL.skipu rfl rfl (ltb rfl) (ltb rfl) rfl rfl ?_
              refine TriL.c1 rfl (op_pickt (ltb rfl) rfl rfl rfl) ?_
              refine TriL.c1 rfl (op_as (ltb rfl) rfl) ?_
              refine TriL.kept (Kept.keep [.s 3, .h, .s 1, .b 1, .s 4, .t 79, .s 8, .s 9] rfl (by decide) (Kept.now ?_))
              exact ⟨_, by grind, rfl⟩
            · refine TriL.g1 rfl (ltb rfl) rfl hg9 (op_fal (ltb rfl) fo25_1_M4 rfl) ?_
              refine TriL.g1 rfl (ltb rfl) rfl hg9 (op_ldl (ltb rfl) lk23_M4 rfl rfl rfl) ?_
              refine TriL.g1 rfl (ltb rfl) rfl hg9 (op_mv (ltb rfl) rfl) ?_
              refine TriL.g1 rfl (ltb rfl) rfl hg9 (op_iak (ltb rfl) ie23_M4 rfl rfl (Int.natCast_nonneg _) (ixm hi) rfl) ?_
              refine TriL.g1 rfl (ltb rfl) rfl hg9 (op_ldk (ltb rfl) lk78_M4 rfl rfl) ?_
              refine TriL.g1 rfl (ltb rfl) rfl hg9 (op_call (ltb rfl) fn74_M4 rfl (r_nums _ (by omega))) ?_
              refine TriL.g1 rfl (ltb rfl) rfl hg9 (op_call (ltb rfl) fn72_M4 rfl ((r_rises ((s.msgs[i]'hi).fields.map (·.num)) (by simp; omega)).at (by simp [iAV, Function.comp_def]))) ?_
              refine TriL.g1 rfl (ltb rfl) rfl hg9 (op_un (ltb rfl) rfl rfl) ?_
              refine TriL.c1 rfl (op_pickf (ltb rfl) rfl hg9 rfl) ?_
              refine TriL.c1 rfl (op_mv (ltb rfl) rfl) ?_
              refine TriL.split (d := 115) rfl (fun hg10 => ?_) (fun hg10 => ?_)
              · refine TriL.skipu rfl rfl (ltb rfl) (ltb rfl) rfl hg10 ?_
                refine TriL.skipu rfl rfl (ltb rfl) (ltb rfl) rfl hg10 ?_
                refine TriL.skipu rfl rfl (ltb rfl) (ltb rfl) rfl hg10 ?_
                refine TriL.c1 rfl (op_pickt (ltb rfl) rfl hg10 rfl) ?_
                refine TriL.c1 rfl (op_as (ltb rfl) rfl) ?_
                refine TriL.kept (Kept.keep [.s 3, .h, .s 1, .b 1, .s 4, .t 79, .s 8, .s 9] rfl (by decide) (Kept.now ?_))
                exact ⟨_, by grind, rfl⟩
              · refine TriL.g1 rfl (ltb rfl) rfl hg10 (op_mv (ltb rfl) rfl) ?_
                refine TriL.g1 rfl (ltb rfl) rfl hg10 (op_call (ltb rfl) fn72_M4 rfl (r_rises (s.msgs[i]'hi).barred (by omega))) ?_
                refine TriL.g1 rfl (ltb rfl) rfl hg10 (op_un (ltb rfl) rfl rfl) ?_
                refine TriL.c1 rfl (op_pickf (ltb rfl) rfl hg10 rfl) ?_
                refine TriL.c1 rfl (op_as (ltb rfl) rfl) ?_
                refine TriL.kept (Kept.keep [.s 3, .h, .s 1, .b 1, .s 4, .t 79, .s 8, .s 9] rfl (by decide) (Kept.now ?_))
                exact ⟨_, by grind, rfl⟩
          · rintro b1 hF22
            refine Tri.region ?_
            refine TriL.c1 rfl (op_mv (ltb rfl) rfl) ?_
            refine TriL.c1 rfl (op_mv (ltb rfl) rfl) ?_
            refine TriL.split (d := 121) rfl (fun hg11 => ?_) (fun hg11 => ?_)
            · refine TriL.skipu rfl rfl (ltb rfl) (ltb rfl) rfl hg11 ?_
              refine TriL.skipu rfl rfl (ltb rfl) (ltb rfl) rfl hg11 ?_
              refine TriL.skipu rfl rfl (ltb rfl) (ltb rfl) rfl hg11 ?_
              refine TriL.skipu rfl rfl (ltb rfl) (ltb rfl) rfl hg11 ?_
              refine TriL.skipg rfl rfl (ltb rfl) (ltb rfl) rfl ?_
              refine TriL.skipg rfl rfl (ltb rfl) (ltb rfl) rfl ?_
              refine TriL.skipg rfl rfl (ltb rfl) (ltb rfl) rfl ?_
              refine TriL.skipg rfl rfl (ltb rfl) (ltb rfl) rfl ?_
              refine TriL.skipg rfl rfl (ltb rfl) (ltb rfl) rfl ?_
              refine TriL.skipg rfl rfl (ltb rfl) (ltb rfl) rfl ?_
              refine TriL.skipg rfl rfl (ltb rfl) (ltb rfl) rfl ?_
              refine TriL.skipg rfl rfl (ltb rfl) (ltb rfl) rfl ?_
              refine TriL.skipg rfl rfl (ltb rfl) (ltb rfl) rfl ?_
              refine TriL.skipg rfl rfl (ltb rfl) (ltb rfl) rfl ?_
              refine TriL.skipg rfl rfl (ltb rfl) (ltb rfl) rfl ?_
              refine TriL.skipg rfl rfl (ltb rfl) (ltb rfl) rfl ?_
              refine TriL.skipg rfl rfl (ltb rfl) (ltb rfl) rfl ?_
              refine TriL.skipu rfl rfl (ltb rfl) (ltb rfl) rfl hg11 ?_
              refine TriL.c1 rfl (op_pickt (ltb rfl) rfl hg11 rfl) ?_
              refine TriL.c1 rfl (op_as (ltb rfl) rfl) ?_
              refine TriL.nil ?_
              refine Tri.region ?_
              refine TriL.c1 rfl (op_mv (ltb rfl) rfl) ?_
              refine TriL.c1 rfl (op_bin (ltb rfl) rfl rfl rfl) ?_
              refine TriL.c1 rfl (op_as (ltb rfl) rfl) ?_
              refine TriL.kept (Kept.seti 8 rfl (inc (by omega)) (Kept.keep [.s 8, .s 3, .s 4, .t 79, .h, .s 1, .b 1] rfl (by decide) (Kept.now ?_)))
              exact ⟨(i + 1, _, _), (by dsimp only; omega), ⟨ha2, by clear ha ha2 hn; grind⟩, rfl⟩
            · refine TriL.g1 rfl (ltb rfl) rfl hg11 (op_mv (ltb rfl) rfl) ?_
              refine TriL.g1 rfl (ltb rfl) rfl hg11 (op_lenl (ltb rfl) un67_M4 rfl) ?_
              refine TriL.g1 rfl (ltb rfl) rfl hg11 (op_bin (ltb rfl) rfl rfl rfl) ?_
              refine TriL.g1 rfl (ltb rfl) rfl hg11 (op_mv (ltb rfl) rfl) ?_
              refine TriL.split (d := 125) rfl (fun hg12 => ?_) (fun hg12 => ?_)
              · refine TriL.g1 rfl (ltb rfl) rfl hg12 (op_mv (ltb rfl) rfl) ?_
                refine TriL.g1 rfl (ltb rfl) rfl hg12 (op_iak (ltb rfl) ie67_M4 rfl rfl (by decide) (ixm (i := 0) (by have := of_decide_eq_true hg12; rw [List.length_map] at this; omega)) rfl) ?_
                refine TriL.g1 rfl (ltb rfl) rfl hg12 (op_ldk (ltb rfl) lk3_M4 rfl rfl) ?_
                refine TriL.g1 rfl (ltb rfl) rfl hg12 (op_bin (ltb rfl) rfl rfl rfl) ?_
                refine TriL.g1 rfl (ltb rfl) rfl hg12 (op_mv (ltb rfl) rfl) ?_
                refine TriL.split (d := 130) rfl (fun hg13 => ?_) (fun hg13 => ?_)
                · refine TriL.skipu rfl rfl (ltb rfl) (ltb rfl) rfl hg13 ?_
                  refine TriL.skipu rfl rfl (ltb rfl) (ltb rfl) rfl hg13 ?_
                  refine TriL.skipu rfl rfl (ltb rfl) (ltb rfl) rfl hg13 ?_
                  refine TriL.skipu rfl rfl (ltb rfl) (ltb rfl) rfl hg13 ?_
                  refine TriL.skipu rfl rfl (ltb rfl) (ltb rfl) rfl hg13 ?_
                  refine TriL.skipu rfl rfl (ltb rfl) (ltb rfl) rfl hg13 ?_
                  refine TriL.skipu rfl rfl (ltb rfl) (ltb rfl) rfl hg13 ?_
                  refine TriL.g1 rfl (ltb rfl) rfl hg12 (op_pickt (ltb rfl) rfl hg13 rfl) ?_
                  refine TriL.g1 rfl (ltb rfl) rfl hg11 (op_pickt (ltb rfl) rfl hg12 rfl) ?_
                  refine TriL.c1 rfl (op_pickf (ltb rfl) rfl hg11 rfl) ?_
                  refine TriL.c1 rfl (op_as (ltb rfl) rfl) ?_
                  refine TriL.nil ?_
                  refine Tri.region ?_
                  refine TriL.c1 rfl (op_mv (ltb rfl) rfl) ?_
                  refine TriL.c1 rfl (op_bin (ltb rfl) rfl rfl rfl) ?_
                  refine TriL.c1 rfl (op_as (ltb rfl) rfl) ?_
                  refine TriL.kept (Kept.seti 8 rfl (inc (by omega)) (Kept.keep [.s 8, .s 3, .s 4, .t 79, .h, .s 1, .b 1] rfl (by decide) (Kept.now ?_)))
                  exact ⟨(i + 1, _, _), (by dsimp only; omega), ⟨ha2, by clear ha ha2 hn; grind⟩, rfl⟩
                · refine TriL.g1 rfl (ltb rfl) rfl hg13 (op_mv (ltb rfl) rfl) ?_
                  refine TriL.g1 rfl (ltb rfl) rfl hg13 (op_mv (ltb rfl) rfl) ?_
                  refine TriL.g1 rfl (ltb rfl) rfl hg13 (op_lenl (ltb rfl) un67_M4 rfl) ?_
                  refine TriL.g1 rfl (ltb rfl) rfl hg13 (op_bin (ltb rfl) rfl rfl rfl) ?_
                  refine TriL.g1 rfl (ltb rfl) rfl hg13 (op_iak (ltb rfl) ie67_M4 rfl rfl (by rw [List.length_map, dec1 (by have := of_decide_eq_true hg12; rw [List.length_map] at this; omega) (by omega)]; exact Int.natCast_nonneg _) (ixm1 (i := (s.msgs[i]'hi).barred.length - 1) (by rw [List.length_map]; exact dec1 (by have := of_decide_eq_true hg12; rw [List.length_map] at this; omega) (by omega)) (by have := of_decide_eq_true hg12; rw [List.length_map] at this; omega)) rfl) ?_
                  refine TriL.g1 rfl (ltb rfl) rfl hg13 (op_ldk (ltb rfl) lk3_M4 rfl rfl) ?_
                  refine TriL.g1 rfl (ltb rfl) rfl hg13 (op_bin (ltb rfl) rfl rfl rfl) ?_
                  refine TriL.g1 rfl (ltb rfl) rfl hg12 (op_pickf (ltb rfl) rfl hg13 rfl) ?_
                  refine TriL.g1 rfl (ltb rfl) rfl hg11 (op_pickt (ltb rfl) rfl hg12 rfl) ?_
                  refine TriL.c1 rfl (op_pickf (ltb rfl) rfl hg11 rfl) ?_
                  refine TriL.c1 rfl (op_as (ltb rfl) rfl) ?_
                  refine TriL.nil ?_
                  refine Tri.region ?_
                  refine TriL.c1 rfl (op_mv (ltb rfl) rfl) ?_
                  refine TriL.c1 rfl (op_bin (ltb rfl) rfl rfl rfl) ?_
                  refine TriL.c1 rfl (op_as (ltb rfl) rfl) ?_
                  refine TriL.kept (Kept.seti 8 rfl (inc (by omega)) (Kept.keep [.s 8, .s 3, .s 4, .t 79, .h, .s 1, .b 1] rfl (by decide) (Kept.now ?_)))
                  exact ⟨(i + 1, _, _), (by dsimp only; omega), ⟨ha2, by clear ha ha2 hn; grind⟩, rfl⟩
              · refine TriL.skipu rfl rfl (ltb rfl) (ltb rfl) rfl hg12 ?_
                refine TriL.skipu rfl rfl (ltb rfl) (ltb rfl) rfl hg12 ?_
                refine TriL.skipu rfl rfl (ltb rfl) (ltb rfl) rfl hg12 ?_
                refine TriL.skipu rfl rfl (ltb rfl) (ltb rfl) rfl hg12 ?_
                refine TriL.skipu rfl rfl (ltb rfl) (ltb rfl) rfl hg12 ?_
                refine TriL.skipg rfl rfl (ltb rfl) (ltb rfl) rfl ?_
                refine TriL.skipg rfl rfl (ltb rfl) (ltb rfl) rfl ?_
                refine TriL.skipg rfl rfl (ltb rfl) (ltb rfl) rfl ?_
                refine TriL.skipg rfl rfl (ltb rfl) (ltb rfl) rfl ?_
                refine TriL.skipg rfl rfl (ltb rfl) (ltb rfl) rfl ?_
                refine TriL.skipg rfl rfl (ltb rfl) (ltb rfl) rfl ?_
                refine TriL.skipg rfl rfl (ltb rfl) (ltb rfl) rfl ?_
                refine TriL.skipu rfl rfl (ltb rfl) (ltb rfl) rfl hg12 ?_
                refine TriL.g1 rfl (ltb rfl) rfl hg11 (op_pickf (ltb rfl) rfl hg12 rfl) ?_
                refine TriL.c1 rfl (op_pickf (ltb rfl) rfl hg11 rfl) ?_
                refine TriL.c1 rfl (op_as (ltb rfl) rfl) ?_
                refine TriL.nil ?_
                refine Tri.region ?_
                refine TriL.c1 rfl (op_mv (ltb rfl) rfl) ?_
                refine TriL.c1 rfl (op_bin (ltb rfl) rfl rfl rfl) ?_
                refine TriL.c1 rfl (op_as (ltb rfl) rfl) ?_
                refine TriL.kept (Kept.seti 8 rfl (inc (by omega)) (Kept.keep [.s 8, .s 3, .s 4, .t 79, .h, .s 1, .b 1] rfl (by decide) (Kept.now ?_)))
                exact ⟨(i + 1, _, _), (by dsimp only; omega), ⟨ha2, by clear ha ha2 hn; grind⟩, rfl⟩
      · have hi := gem hc7
        have hS := any_end (p := Msg.order) hi
        have hT := take_end hi
        refine Tri.exit ?_
        refine Tri.seq ?_
        refine Tri.region ?_
        refine TriL.c1 rfl (op_mv (ltb rfl) rfl) ?_
        refine TriL.c1 rfl (op_mv (ltb rfl) rfl) ?_
        refine TriL.split (d := 142) rfl (fun hg14 => ?_) (fun hg14 => ?_)
        · refine TriL.skipu rfl rfl (ltb rfl) (ltb rfl) rfl hg14 ?_
          refine TriL.skipu rfl rfl (ltb rfl) (ltb rfl) rfl hg14 ?_
          refine TriL.skipu rfl rfl (ltb rfl) (ltb rfl) rfl hg14 ?_
          refine TriL.c1 rfl (op_pickt (ltb rfl) rfl hg14 rfl) ?_
          refine TriL.c1 rfl (op_as (ltb rfl) rfl) ?_
          refine TriL.nil ?_
          refine Tri.ret ?_
          exact ⟨.inr rfl, (ResOK.r1 rfl (.tmp rfl .nil)).cast (congrArg AV.bool (by grind [Sch.order])), rfl⟩
        · refine TriL.g1 rfl (ltb rfl) rfl hg14 (op_mv (ltb rfl) rfl) ?_
          refine TriL.g1 rfl (ltb rfl) rfl hg14 (op_call (ltb rfl) fn73_M4 rfl ((r_riseS ((s.msgs.drop 1).map (·.name)) (by simp; omega)).at (by rw [ha, hT]; simp [Function.comp_def]))) ?_
          refine TriL.g1 rfl (ltb rfl) rfl hg14 (op_un (ltb rfl) rfl rfl) ?_
          refine TriL.c1 rfl (op_pickf (ltb rfl) rfl hg14 rfl) ?_
          refine TriL.c1 rfl (op_as (ltb rfl) rfl) ?_
          refine TriL.nil ?_
          refine Tri.ret ?_
          exact ⟨.inr rfl, (ResOK.r1 rfl (.tmp rfl .nil)).cast (congrArg AV.bool (by grind [Sch.order])), rfl⟩
end Go.Proofs.YtnpgcmeclkncnaaGreatDoor.X
