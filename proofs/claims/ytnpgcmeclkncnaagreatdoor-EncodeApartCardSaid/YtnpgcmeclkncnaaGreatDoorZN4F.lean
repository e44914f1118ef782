/- the document: names that stand twice, order, what is asked of a schema. -/
import Derived.Test.YtnpgcmeclkncnaaGreatDoorZN4E
import Derived.Test.YtnpgcmeclkncnaaGreatDoorZN4D
set_option linter.unusedVariables false
set_option linter.unusedSimpArgs false
set_option linter.unusedSectionVars false
set_option maxRecDepth 100000
namespace Go.Proofs.YtnpgcmeclkncnaaGreatDoor.X
open Go Go.RowKit Go.Proofs
theorem fn71_M4 : isFn Tryz.prog 71 = true := by kernel_rfl
theorem fn72_M4 : isFn Tryz.prog 72 = true := by kernel_rfl
theorem fn73_M4 : isFn Tryz.prog 73 = true := by kernel_rfl
theorem fn74_M4 : isFn Tryz.prog 74 = true := by kernel_rfl
theorem fo25_0_M4 : fo Tryz.prog 25 0 = some 0 := by kernel_rfl
theorem fo25_1_M4 : fo Tryz.prog 25 1 = some 1 := by kernel_rfl
theorem fo78_0_M4 : fo Tryz.prog 78 0 = some 0 := by kernel_rfl
theorem fo78_1_M4 : fo Tryz.prog 78 1 = some 1 := by kernel_rfl
theorem fo78_2_M4 : fo Tryz.prog 78 2 = some 2 := by kernel_rfl
theorem fo94_0_M4 : fo Tryz.prog 94 0 = some 0 := by kernel_rfl
theorem fo94_1_M4 : fo Tryz.prog 94 1 = some 1 := by kernel_rfl
theorem fo96_0_M4 : fo Tryz.prog 96 0 = some 0 := by kernel_rfl
theorem fo96_1_M4 : fo Tryz.prog 96 1 = some 1 := by kernel_rfl
theorem fo98_0_M4 : fo Tryz.prog 98 0 = some 0 := by kernel_rfl
theorem fo98_1_M4 : fo Tryz.prog 98 1 = some 1 := by kernel_rfl
theorem fo98_6_M4 : fo Tryz.prog 98 6 = some 6 := by kernel_rfl
theorem ie22_M4 : ie Tryz.prog 22 = some 2 := by kernel_rfl
theorem ie23_M4 : ie Tryz.prog 23 = some 3 := by kernel_rfl
theorem ie67_M4 : ie Tryz.prog 67 = some 1 := by kernel_rfl
theorem ie76_M4 : ie Tryz.prog 76 = some 7 := by kernel_rfl
theorem ie92_M4 : ie Tryz.prog 92 = some 2 := by kernel_rfl
theorem lk22_M4 : lk Tryz.prog 22 = some (false, 1) := by kernel_rfl
theorem lk23_M4 : lk Tryz.prog 23 = some (false, 1) := by kernel_rfl
theorem lk3_M4 : lk Tryz.prog 3 = some (false, 1) := by kernel_rfl
theorem lk67_M4 : lk Tryz.prog 67 = some (false, 1) := by kernel_rfl
theorem lk76_M4 : lk Tryz.prog 76 = some (false, 1) := by kernel_rfl
theorem lk78_M4 : lk Tryz.prog 78 = some (true, 3) := by kernel_rfl
theorem lk9_M4 : lk Tryz.prog 9 = some (false, 1) := by kernel_rfl
theorem lk92_M4 : lk Tryz.prog 92 = some (false, 1) := by kernel_rfl
theorem se112_M4 : se Tryz.prog 112 = some (9, 1, 16) := by kernel_rfl
theorem se67_M4 : se Tryz.prog 67 = some (3, 1, 8) := by kernel_rfl
theorem un22_M4 : Tryz.prog.underlying 22 = some (TypeDesc.slice 94) := Tryz.underlying22
theorem un23_M4 : Tryz.prog.underlying 23 = some (TypeDesc.slice 78) := Tryz.underlying23
theorem un67_M4 : Tryz.prog.underlying 67 = some (TypeDesc.slice 3) := Tryz.underlying67
theorem un76_M4 : Tryz.prog.underlying 76 = some (TypeDesc.slice 98) := Tryz.underlying76
theorem un92_M4 : Tryz.prog.underlying 92 = some (TypeDesc.slice 96) := Tryz.underlying92
theorem zAe112_M4 : zeroA Tryz.prog 9 = some [AV.str []] := by kernel_rfl
theorem zAe67_M4 : zeroA Tryz.prog 3 = some [AV.int IntKind.i64 (0)] := by kernel_rfl
theorem r_twice (s : Sch) (hs : s.sm) : Pure Tryz.prog 40 [s.av] (.bool s.twice) := by
  have := hs.e
  have := hs.m
  refine Pure.of_tri Tryz.func40 rfl rfl (ltb rfl) fun H => ?_
  refine Tri.seq ?_
  refine Tri.region ?_
  refine TriL.c2 rfl (op_box (ltb rfl) rfl rfl rfl) ?_
  refine TriL.c1 rfl (op_as (ltb rfl) rfl) ?_
  refine TriL.nil ?_
  refine Tri.seq ?_
  refine Tri.region ?_
  refine TriL.c2 rfl (op_litt («as» := []) (ltb rfl) se112_M4 zAe112_M4 rfl rfl rfl (leb rfl) rfl) ?_
  refine TriL.c1 rfl (op_as (ltb rfl) rfl) ?_
  refine TriL.nil ?_
  refine Tri.seq ?_
  refine Tri.region ?_
  refine TriL.c1 rfl (op_as (ltb rfl) rfl) ?_
  refine TriL.nil ?_
  refine Tri.seq ?_
  refine Tri.seq ?_
  refine Tri.region ?_
  refine TriL.c1 rfl (op_as (ltb rfl) rfl) ?_
  refine TriL.nil ?_
  refine Tri.blk ?_
  refine Tri.ofKept (Kept.keep [.s 5, .s 4, .s 3, .t 13, .h, .s 1, .b 1] rfl (by decide) (Kept.now ?_))
  -- LOOP 1
  refine Tri.loopk (fun ((i, b, a) : Nat × Bool × List AV) => [(.s 5, .sv (.v (.int .i64 (i : Int)))), (.s 4, .sv (.v (.bool b))), (.s 3, .sv (.ow 13 a)), (.t 13, .tk false 9 1 a)]) _ (fun ((i, b, a) : Nat × Bool × List AV) => a = (s.enums.take i).map (fun e : Enm => AV.str e.name) ∧ (b || (s.enums.drop i).any (fun e : Enm => !once (e.values.map (·.name)))) = s.enums.any (fun e : Enm => !once (e.values.map (·.name)))) (fun ((i, b, a) : Nat × Bool × List AV) => s.enums.length - i) (0, _, _) rfl ⟨rfl, by grind⟩ ?_
  rintro ⟨i, b, a⟩ ⟨ha, hI⟩
  refine Tri.seq ?_
  refine Tri.seq ?_
  refine Tri.region ?_
  refine TriL.c1 rfl (op_mv (ltb rfl) rfl) ?_
  refine TriL.c1 rfl (op_fal (ltb rfl) fo25_0_M4 rfl) ?_
  refine TriL.c1 rfl (op_ldl (ltb rfl) lk22_M4 rfl rfl rfl) ?_
  refine TriL.c1 rfl (op_lenl (ltb rfl) un22_M4 rfl) ?_
  refine TriL.c1 rfl (op_bin (ltb rfl) rfl rfl rfl) ?_
  refine TriL.nil ?_
  refine Tri.cond rfl (fun hc1 => ?_) (fun hc1 => ?_)
  · have hi := ltm hc1
    have hS := any_step (p := (fun e : Enm => !once (e.values.map (·.name)))) hi
    have := hs.vi hi
    refine Tri.skip ?_
    refine Tri.seq ?_
    refine Tri.blk ?_
    refine Tri.seq ?_
    refine Tri.region ?_
    refine TriL.c1 rfl (op_mv (ltb rfl) rfl) ?_
    refine TriL.c1 rfl (op_fal (ltb rfl) fo25_0_M4 rfl) ?_
    refine TriL.c1 rfl (op_ldl (ltb rfl) lk22_M4 rfl rfl rfl) ?_
    refine TriL.c1 rfl (op_mv (ltb rfl) rfl) ?_
    refine TriL.c1 rfl (op_iak (ltb rfl) ie22_M4 rfl rfl (Int.natCast_nonneg _) (ixm hi) rfl) ?_
    refine TriL.c1 rfl (op_fak (ltb rfl) fo94_0_M4 rfl) ?_
    refine TriL.c1 rfl (op_ldk (ltb rfl) lk9_M4 rfl rfl) ?_
    refine TriL.c1 rfl (op_lit («as» := [_]) (ltb rfl) se112_M4 zAe112_M4 rfl rfl rfl (leb rfl)) ?_
    refine TriL.c3 rfl (op_app (ltb rfl) se112_M4 rfl rfl rfl rfl rfl (by rw [ha]; simp; omega) (by rw [ha]; simp; omega)) ?_
    refine TriL.c1 rfl (op_as (ltb rfl) rfl) ?_
    refine TriL.nil ?_
    refine Tri.seq ?_
    refine Tri.region ?_
    refine TriL.c2 rfl (op_litt («as» := []) (ltb rfl) se112_M4 zAe112_M4 rfl rfl rfl (leb rfl) rfl) ?_
    refine TriL.c1 rfl (op_as (ltb rfl) rfl) ?_
    refine TriL.nil ?_
    refine Tri.seq ?_
    refine Tri.seq ?_
    refine Tri.region ?_
    refine TriL.c1 rfl (op_as (ltb rfl) rfl) ?_
    refine TriL.nil ?_
    refine Tri.blk ?_
    refine Tri.ofKept (Kept.keep [.s 7, .s 6, .t 30, .h, .s 1, .b 1, .s 3, .t 29, .s 4, .s 5] rfl (by decide) (Kept.now ?_))
    -- LOOP 2
    refine Tri.loopk (fun ((k, c) : Nat × List AV) => [(.s 7, .sv (.v (.int .i64 (k : Int)))), (.s 6, .sv (.ow 30 c)), (.t 30, .tk false 9 1 c)]) _ (fun ((k, c) : Nat × List AV) => c = ((s.enums[i]'hi).values.take k).map (fun v : Vlu => AV.str v.name)) (fun ((k, c) : Nat × List AV) => (s.enums[i]'hi).values.length - k) (0, _) rfl rfl ?_
    rintro ⟨k, c⟩ hC
    refine Tri.seq ?_
    refine Tri.seq ?_
    refine Tri.region ?_
    refine TriL.c1 rfl (op_mv (ltb rfl) rfl) ?_
    refine TriL.c1 rfl (op_fal (ltb rfl) fo25_0_M4 rfl) ?_
    refine TriL.c1 rfl (op_ldl (ltb rfl) lk22_M4 rfl rfl rfl) ?_
    refine TriL.c1 rfl (op_mv (ltb rfl) rfl) ?_
    refine TriL.c1 rfl (op_iak (ltb rfl) ie22_M4 rfl rfl (Int.natCast_nonneg _) (ixm hi) rfl) ?_
    refine TriL.c1 rfl (op_fak (ltb rfl) fo94_1_M4 rfl) ?_
    refine TriL.c1 rfl (op_ldk (ltb rfl) lk92_M4 rfl rfl) ?_
    refine TriL.c1 rfl (op_lenl (ltb rfl) un92_M4 rfl) ?_
    refine TriL.c1 rfl (op_bin (ltb rfl) rfl rfl rfl) ?_
    refine TriL.nil ?_
    refine Tri.cond rfl (fun hc2 => ?_) (fun hc2 => ?_)
    · have hk := ltm hc2
      refine Tri.skip ?_
      refine Tri.seq ?_
      refine Tri.blk ?_
      refine Tri.region ?_
      refine TriL.c1 rfl (op_mv (ltb rfl) rfl) ?_
      refine TriL.c1 rfl (op_fal (ltb rfl) fo25_0_M4 rfl) ?_
      refine TriL.c1 rfl (op_ldl (ltb rfl) lk22_M4 rfl rfl rfl) ?_
      refine TriL.c1 rfl (op_mv (ltb rfl) rfl) ?_
      refine TriL.c1 rfl (op_iak (ltb rfl) ie22_M4 rfl rfl (Int.natCast_nonneg _) (ixm hi) rfl) ?_
      refine TriL.c1 rfl (op_fak (ltb rfl) fo94_1_M4 rfl) ?_
      refine TriL.c1 rfl (op_ldk (ltb rfl) lk92_M4 rfl rfl) ?_
      refine TriL.c1 rfl (op_mv (ltb rfl) rfl) ?_
      refine TriL.c1 rfl (op_iak (ltb rfl) ie92_M4 rfl rfl (Int.natCast_nonneg _) (ixm hk) rfl) ?_
      refine TriL.c1 rfl (op_fak (ltb rfl) fo96_0_M4 rfl) ?_
      refine TriL.c1 rfl (op_ldk (ltb rfl) lk9_M4 rfl rfl) ?_
      refine TriL.c1 rfl (op_lit («as» := [_]) (ltb rfl) se112_M4 zAe112_M4 rfl rfl rfl (leb rfl)) ?_
      refine TriL.c3 rfl (op_app (ltb rfl) se112_M4 rfl rfl rfl rfl rfl (by rw [hC]; simp; omega) (by rw [hC]; simp; omega)) ?_
      refine TriL.c1 rfl (op_as (ltb rfl) rfl) ?_
      refine TriL.nil ?_
      refine Tri.region ?_
      refine TriL.c1 rfl (op_mv (ltb rfl) rfl) ?_
      refine TriL.c1 rfl (op_bin (ltb rfl) rfl rfl rfl) ?_
      refine TriL.c1 rfl (op_as (ltb rfl) rfl) ?_
      refine TriL.kept (Kept.seti 7 rfl (inc (by omega)) (Kept.keep [.s 7, .s 6, .t 54, .h, .s 1, .b 1, .s 3, .t 29, .s 4, .s 5] rfl (by decide) (Kept.ren 54 30 (by decide) rfl (Kept.now ?_))))
      exact ⟨(k + 1, _), (by dsimp only; omega), take_app hk hC, rfl⟩
    · have hk := gem hc2
      have hTk := take_end hk
      refine Tri.exit ?_
      refine Tri.region ?_
      refine TriL.c1 rfl (op_mv (ltb rfl) rfl) ?_
      refine TriL.c1 rfl (op_mv (ltb rfl) rfl) ?_
      refine TriL.split (d := 56) rfl (fun hg3 => ?_) (fun hg3 => ?_)
      · refine TriL.skipu rfl rfl (ltb rfl) (ltb rfl) rfl hg3 ?_
        refine TriL.skipu rfl rfl (ltb rfl) (ltb rfl) rfl hg3 ?_
        refine TriL.skipu rfl rfl (ltb rfl) (ltb rfl) rfl hg3 ?_
        refine TriL.c1 rfl (op_pickt (ltb rfl) rfl hg3 rfl) ?_
        refine TriL.c1 rfl (op_as (ltb rfl) rfl) ?_
        refine TriL.nil ?_
        refine Tri.region ?_
        refine TriL.c1 rfl (op_mv (ltb rfl) rfl) ?_
        refine TriL.c1 rfl (op_bin (ltb rfl) rfl rfl rfl) ?_
        refine TriL.c1 rfl (op_as (ltb rfl) rfl) ?_
        refine TriL.kept (Kept.seti 5 rfl (inc (by omega)) (Kept.keep [.s 5, .s 4, .s 3, .t 29, .h, .s 1, .b 1] rfl (by decide) (Kept.ren 29 13 (by decide) rfl (Kept.now ?_))))
        exact ⟨(i + 1, _, _), (by dsimp only; omega), ⟨take_app hi ha, by grind⟩, rfl⟩
      · refine TriL.g1 rfl (ltb rfl) rfl hg3 (op_mv (ltb rfl) rfl) ?_
        refine TriL.g1 rfl (ltb rfl) rfl hg3 (op_call (ltb rfl) fn71_M4 rfl ((r_once ((s.enums[i]'hi).values.map (·.name)) (by simp; omega)).at (by rw [hC, hTk]; simp [Function.comp_def]))) ?_
        refine TriL.g1 rfl (ltb rfl) rfl hg3 (op_un (ltb rfl) rfl rfl) ?_
        refine TriL.c1 rfl (op_pickf (ltb rfl) rfl hg3 rfl) ?_
        refine TriL.c1 rfl (op_as (ltb rfl) rfl) ?_
        refine TriL.nil ?_
        refine Tri.region ?_
        refine TriL.c1 rfl (op_mv (ltb rfl) rfl) ?_
        refine TriL.c1 rfl (op_bin (ltb rfl) rfl rfl rfl) ?_
        refine TriL.c1 rfl (op_as (ltb rfl) rfl) ?_
        refine TriL.kept (Kept.seti 5 rfl (inc (by omega)) (Kept.keep [.s 5, .s 4, .s 3, .t 29, .h, .s 1, .b 1] rfl (by decide) (Kept.ren 29 13 (by decide) rfl (Kept.now ?_))))
        exact ⟨(i + 1, _, _), (by dsimp only; omega), ⟨take_app hi ha, by grind⟩, rfl⟩
  · have hi := gem hc1
    have hS := any_end (p := (fun e : Enm => !once (e.values.map (·.name)))) hi
    have hT := take_end hi
    refine Tri.exit ?_
    refine Tri.seq ?_
    refine Tri.seq ?_
    refine Tri.region ?_
    refine TriL.c1 rfl (op_as (ltb rfl) rfl) ?_
    refine TriL.nil ?_
    refine Tri.blk ?_
    refine Tri.ofKept (Kept.keep [.s 8, .s 4, .s 3, .t 13, .h, .s 1, .b 1] rfl (by decide) (Kept.now ?_))
    -- LOOP 3
    refine Tri.loopk (fun ((i, b, a) : Nat × Bool × List AV) => [(.s 8, .sv (.v (.int .i64 (i : Int)))), (.s 4, .sv (.v (.bool b))), (.s 3, .sv (.ow 13 a)), (.t 13, .tk false 9 1 a)]) _ (fun ((i, b, a) : Nat × Bool × List AV) => a = s.enums.map (fun e : Enm => AV.str e.name) ++ (s.msgs.take i).map (fun m : Msg => AV.str m.name) ∧ (b || (s.msgs.drop i).any Msg.twice) = (s.enums.any (fun e : Enm => !once (e.values.map (·.name))) || s.msgs.any Msg.twice)) (fun ((i, b, a) : Nat × Bool × List AV) => s.msgs.length - i) (0, _, _) rfl ⟨by grind, by grind⟩ ?_
    rintro ⟨i, b, a⟩ ⟨ha, hI⟩
    refine Tri.seq ?_
    refine Tri.seq ?_
    refine Tri.region ?_
    refine TriL.c1 rfl (op_mv (ltb rfl) rfl) ?_
    refine TriL.c1 rfl (op_fal (ltb rfl) fo25_1_M4 rfl) ?_
    refine TriL.c1 rfl (op_ldl (ltb rfl) lk23_M4 rfl rfl rfl) ?_
    refine TriL.c1 rfl (op_lenl (ltb rfl) un23_M4 rfl) ?_
    refine TriL.c1 rfl (op_bin (ltb rfl) rfl rfl rfl) ?_
    refine TriL.nil ?_
    refine Tri.cond rfl (fun hc4 => ?_) (fun hc4 => ?_)
    · have hi := ltm hc4
      have hS := any_step (p := Msg.twice) hi
      have := hs.fi hi
      have := hs.bi hi
      refine Tri.skip ?_
      refine Tri.seq ?_
      refine Tri.blk ?_
      refine Tri.seq ?_
      refine Tri.region ?_
      refine TriL.c1 rfl (op_mv (ltb rfl) rfl) ?_
      refine TriL.c1 rfl (op_fal (ltb rfl) fo25_1_M4 rfl) ?_
      refine TriL.c1 rfl (op_ldl (ltb rfl) lk23_M4 rfl rfl rfl) ?_
      refine TriL.c1 rfl (op_mv (ltb rfl) rfl) ?_
      refine TriL.c1 rfl (op_iak (ltb rfl) ie23_M4 rfl rfl (Int.natCast_nonneg _) (ixm hi) rfl) ?_
      refine TriL.c1 rfl (op_fak (ltb rfl) fo78_0_M4 rfl) ?_
      refine TriL.c1 rfl (op_ldk (ltb rfl) lk9_M4 rfl rfl) ?_
      refine TriL.c1 rfl (op_lit («as» := [_]) (ltb rfl) se112_M4 zAe112_M4 rfl rfl rfl (leb rfl)) ?_
      refine TriL.c3 rfl (op_app (ltb rfl) se112_M4 rfl rfl rfl rfl rfl (by rw [ha]; simp; omega) (by rw [ha]; simp; omega)) ?_
      refine TriL.c1 rfl (op_as (ltb rfl) rfl) ?_
      refine TriL.nil ?_
      refine Tri.seq ?_
      refine Tri.region ?_
      refine TriL.c1 rfl (op_fal (ltb rfl) fo25_1_M4 rfl) ?_
      refine TriL.c1 rfl (op_ldl (ltb rfl) lk23_M4 rfl rfl rfl) ?_
      refine TriL.c1 rfl (op_mv (ltb rfl) rfl) ?_
      refine TriL.c1 rfl (op_iak (ltb rfl) ie23_M4 rfl rfl (Int.natCast_nonneg _) (ixm hi) rfl) ?_
      refine TriL.c1 rfl (op_fak (ltb rfl) fo78_1_M4 rfl) ?_
      refine TriL.c1 rfl (op_ldk (ltb rfl) lk76_M4 rfl rfl) ?_
      refine TriL.c1 rfl (op_as (ltb rfl) rfl) ?_
      refine TriL.nil ?_
      refine Tri.seq ?_
      refine Tri.region ?_
      refine TriL.c2 rfl (op_litt («as» := []) (ltb rfl) se112_M4 zAe112_M4 rfl rfl rfl (leb rfl) rfl) ?_
      refine TriL.c1 rfl (op_as (ltb rfl) rfl) ?_
      refine TriL.nil ?_
      refine Tri.seq ?_
      refine Tri.seq ?_
      refine Tri.region ?_
      refine TriL.c1 rfl (op_as (ltb rfl) rfl) ?_
      refine TriL.nil ?_
      refine Tri.blk ?_
      refine Tri.ofKept (Kept.keep [.s 11, .s 10, .t 83, .h, .s 1, .b 1, .s 3, .t 76, .s 4, .s 8, .s 9] rfl (by decide) (Kept.now ?_))
      -- LOOP 4
      refine Tri.loopk (fun ((k, c) : Nat × List AV) => [(.s 11, .sv (.v (.int .i64 (k : Int)))), (.s 10, .sv (.ow 83 c)), (.t 83, .tk false 9 1 c)]) _ (fun ((k, c) : Nat × List AV) => c = ((s.msgs[i]'hi).fields.take k).map (fun f : Fld => AV.str f.name)) (fun ((k, c) : Nat × List AV) => (s.msgs[i]'hi).fields.length - k) (0, _) rfl rfl ?_
      rintro ⟨k, c⟩ hC
      refine Tri.seq ?_
      refine Tri.seq ?_
      refine Tri.region ?_
      refine TriL.c1 rfl (op_mv (ltb rfl) rfl) ?_
      refine TriL.c1 rfl (op_mv (ltb rfl) rfl) ?_
      refine TriL.c1 rfl (op_lenl (ltb rfl) un76_M4 rfl) ?_
      refine TriL.c1 rfl (op_bin (ltb rfl) rfl rfl rfl) ?_
      refine TriL.nil ?_
      refine Tri.cond rfl (fun hc5 => ?_) (fun hc5 => ?_)
      · have hk := ltm hc5
        refine Tri.skip ?_
        refine Tri.seq ?_
        refine Tri.blk ?_
        refine Tri.region ?_
        refine TriL.c1 rfl (op_mv (ltb rfl) rfl) ?_
        refine TriL.c1 rfl (op_mv (ltb rfl) rfl) ?_
        refine TriL.c1 rfl (op_mv (ltb rfl) rfl) ?_
        refine TriL.c1 rfl (op_iak (ltb rfl) ie76_M4 rfl rfl (Int.natCast_nonneg _) (ixm hk) rfl) ?_
        refine TriL.c1 rfl (op_fak (ltb rfl) fo98_0_M4 rfl) ?_
        refine TriL.c1 rfl (op_ldk (ltb rfl) lk9_M4 rfl rfl) ?_
        refine TriL.c1 rfl (op_lit («as» := [_]) (ltb rfl) se112_M4 zAe112_M4 rfl rfl rfl (leb rfl)) ?_
        refine TriL.c3 rfl (op_app (ltb rfl) se112_M4 rfl rfl rfl rfl rfl (by rw [hC]; simp; omega) (by rw [hC]; simp; omega)) ?_
        refine TriL.c1 rfl (op_as (ltb rfl) rfl) ?_
        refine TriL.nil ?_
        refine Tri.region ?_
        refine TriL.c1 rfl (op_mv (ltb rfl) rfl) ?_
        refine TriL.c1 rfl (op_bin (ltb rfl) rfl rfl rfl) ?_
        refine TriL.c1 rfl (op_as (ltb rfl) rfl) ?_
        refine TriL.kept (Kept.seti 11 rfl (inc (by omega)) (Kept.keep [.s 11, .s 10, .t 97, .h, .s 1, .b 1, .s 3, .t 76, .s 4, .s 8, .s 9] rfl (by decide) (Kept.ren 97 83 (by decide) rfl (Kept.now ?_))))
        exact ⟨(k + 1, _), (by dsimp only; omega), take_app hk hC, rfl⟩
      · have hk := gem hc5
        have hTk := take_end hk
        refine Tri.exit ?_
        refine Tri.joinu [.h, .s 1, .b 1, .s 3, .t 76, .s 8, .s 9, .s 10, .t 83] (fun (b1 : Bool) => [(.s 4, .sv (.v (.bool b1)))]) (fun (b1 : Bool) => b1 = (b || !once ((s.msgs[i]'hi).fields.map (·.name)))) rfl ?_ ?_
        · -- region 23 ref.go:88
          refine Tri.region ?_
          refine TriL.c1 rfl (op_mv (ltb rfl) rfl) ?_
          refine TriL.c1 rfl (op_mv (ltb rfl) rfl) ?_
          refine TriL.split (d := 99) rfl (fun hg6 => ?_) (fun hg6 => ?_)
          · refine TriL.skipu rfl rfl (ltb rfl) (ltb rfl) rfl hg6 ?_
            refine TriL.skipu rfl rfl (ltb rfl) (ltb rfl) rfl hg6 ?_
            refine TriL.skipu rfl rfl (ltb rfl) (ltb rfl) rfl hg6 ?_
            refine TriL.c1 rfl (op_pickt (ltb rfl) rfl hg6 rfl) ?_
            refine TriL.c1 rfl (op_as (ltb rfl) rfl) ?_
            refine TriL.kept (Kept.keep [.s 4, .h, .s 1, .b 1, .s 3, .t 76, .s 8, .s 9, .s 10, .t 83] rfl (by decide) (Kept.now ?_))
            exact ⟨_, by grind, rfl⟩
          · refine TriL.g1 rfl (ltb rfl) rfl hg6 (op_mv (ltb rfl) rfl) ?_
            refine TriL.g1 rfl (ltb rfl) rfl hg6 (op_call (ltb rfl) fn71_M4 rfl ((r_once ((s.msgs[i]'hi).fields.map (·.name)) (by simp; omega)).at (by rw [hC, hTk]; simp [Function.comp_def]))) ?_
            refine TriL.g1 rfl (ltb rfl) rfl hg6 (op_un (ltb rfl) rfl rfl) ?_
            refine TriL.c1 rfl (op_pickf (ltb rfl) rfl hg6 rfl) ?_
            refine TriL.c1 rfl (op_as (ltb rfl) rfl) ?_
            refine TriL.kept (Kept.keep [.s 4, .h, .s 1, .b 1, .s 3, .t 76, .s 8, .s 9, .s 10, .t 83] rfl (by decide) (Kept.now ?_))
            exact ⟨_, by grind, rfl⟩
        · rintro b1 hF24
          refine Tri.seq ?_
          refine Tri.region ?_
          refine TriL.c1 rfl (op_as (ltb rfl) rfl) ?_
          refine TriL.nil ?_
          refine Tri.blk ?_
          refine Tri.ofKept (Kept.keep [.s 12, .s 4, .h, .s 1, .b 1, .s 3, .t 76, .s 8, .s 9, .s 10, .t 83] rfl (by decide) (Kept.now ?_))
          -- LOOP 5
          refine Tri.loopk (fun ((k, b) : Nat × Bool) => [(.s 12, .sv (.v (.int .i64 (k : Int)))), (.s 4, .sv (.v (.bool b)))]) _ (fun ((k, b) : Nat × Bool) => (b || ((s.msgs[i]'hi).fields.drop k).any (fun f : Fld => !(f.one == []) && !once ((s.msgs[i]'hi).fields.map (·.name) ++ [f.one]))) = (b1 || (s.msgs[i]'hi).fields.any (fun f : Fld => !(f.one == []) && !once ((s.msgs[i]'hi).fields.map (·.name) ++ [f.one])))) (fun ((k, b) : Nat × Bool) => (s.msgs[i]'hi).fields.length - k) (0, _) rfl (by grind) ?_
          rintro ⟨k, b⟩ hI
          refine Tri.seq ?_
          refine Tri.seq ?_
          refine Tri.region ?_
          refine TriL.c1 rfl (op_mv (ltb rfl) rfl) ?_
          refine TriL.c1 rfl (op_mv (ltb rfl) rfl) ?_
          refine TriL.c1 rfl (op_lenl (ltb rfl) un76_M4 rfl) ?_
          refine TriL.c1 rfl (op_bin (ltb rfl) rfl rfl rfl) ?_
          refine TriL.nil ?_
          refine Tri.cond rfl (fun hc7 => ?_) (fun hc7 => ?_)
          · have hk := ltm hc7
            have hU := any_step (p := (fun f : Fld => !(f.one == []) && !once ((s.msgs[i]'hi).fields.map (·.name) ++ [f.one]))) hk
            refine Tri.skip ?_
            refine Tri.seq ?_
            refine Tri.blk ?_
            refine Tri.drawn mixed rfl ?_
            refine TriD.c1 rfl (op_mv (ltb rfl) rfl) ?_
            refine TriD.c1 rfl (op_mv (ltb rfl) rfl) ?_
            refine TriD.split (d := 111) rfl (fun hg8 => ?_) (fun hg8 => ?_)
            · refine TriD.skipu rfl rfl (ltb rfl) (ltb rfl) rfl hg8 ?_
              refine TriD.skipu rfl rfl (ltb rfl) (ltb rfl) rfl hg8 ?_
              refine TriD.skipu rfl rfl (ltb rfl) (ltb rfl) rfl hg8 ?_
              refine TriD.skipu rfl rfl (ltb rfl) (ltb rfl) rfl hg8 ?_
              refine TriD.skipu rfl rfl (ltb rfl) (ltb rfl) rfl hg8 ?_
              refine TriD.skipu rfl rfl (ltb rfl) (ltb rfl) rfl hg8 ?_
              refine TriD.skipu rfl rfl (ltb rfl) (ltb rfl) rfl hg8 ?_
              refine TriD.skipg rfl rfl (ltb rfl) (ltb rfl) rfl ?_
              refine TriD.skipg rfl rfl (ltb rfl) (ltb rfl) rfl ?_
              refine TriD.skipg rfl rfl (ltb rfl) (ltb rfl) rfl ?_
              refine TriD.skipg rfl rfl (ltb rfl) (ltb rfl) rfl ?_
              refine TriD.skipg rfl rfl (ltb rfl) (ltb rfl) rfl ?_
              refine TriD.skipg rfl rfl (ltb rfl) (ltb rfl) rfl ?_
              refine TriD.skipg rfl rfl (ltb rfl) (ltb rfl) rfl ?_
              refine TriD.skipg rfl rfl (ltb rfl) (ltb rfl) rfl ?_
              refine TriD.skipg rfl rfl (ltb rfl) (ltb rfl) rfl ?_
              refine TriD.skipg rfl rfl (ltb rfl) (ltb rfl) rfl ?_
              refine TriD.skipg rfl rfl (ltb rfl) (ltb rfl) rfl ?_
              refine TriD.skipg rfl rfl (ltb rfl) (ltb rfl) rfl ?_
              refine TriD.skipu rfl rfl (ltb rfl) (ltb rfl) rfl hg8 ?_
              refine TriD.c1 rfl (op_pickt (ltb rfl) rfl hg8 rfl) ?_
              refine TriD.c1 rfl (op_as (ltb rfl) rfl) ?_
              refine TriD.nil (by kernel_rfl) (Kept.now ?_)
              refine Tri.region ?_
              refine TriL.c1 rfl (op_mv (ltb rfl) rfl) ?_
              refine TriL.c1 rfl (op_bin (ltb rfl) rfl rfl rfl) ?_
              refine TriL.c1 rfl (op_as (ltb rfl) rfl) ?_
              refine TriL.kept (Kept.seti 12 rfl (inc (by omega)) (Kept.keep [.s 12, .s 4, .h, .s 1, .b 1, .s 3, .t 76, .s 8, .s 9, .s 10, .t 83] rfl (by decide) (Kept.now ?_)))
              exact ⟨(k + 1, _), (by dsimp only; omega), by grind, rfl⟩
            · refine TriD.g1 rfl (ltb rfl) rfl hg8 (op_mv (ltb rfl) rfl) ?_
              refine TriD.g1 rfl (ltb rfl) rfl hg8 (op_mv (ltb rfl) rfl) ?_
              refine TriD.g1 rfl (ltb rfl) rfl hg8 (op_iak (ltb rfl) ie76_M4 rfl rfl (Int.natCast_nonneg _) (ixm hk) rfl) ?_
              refine TriD.g1 rfl (ltb rfl) rfl hg8 (op_fak (ltb rfl) fo98_6_M4 rfl) ?_
              refine TriD.g1 rfl (ltb rfl) rfl hg8 (op_ldk (ltb rfl) lk9_M4 rfl rfl) ?_
              refine TriD.g1 rfl (ltb rfl) rfl hg8 (op_bin (ltb rfl) rfl rfl rfl) ?_
              refine TriD.g1 rfl (ltb rfl) rfl hg8 (op_mv (ltb rfl) rfl) ?_
              refine TriD.split (d := 118) rfl (fun hg9 => ?_) (fun hg9 => ?_)
              · refine TriD.g2 rfl (ltb rfl) rfl hg9 (op_litt («as» := []) (ltb rfl) se112_M4 zAe112_M4 rfl rfl rfl (leb rfl) rfl) ?_
                refine TriD.g1 rfl (ltb rfl) rfl hg9 (op_mv (ltb rfl) rfl) ?_
                refine TriD.g3 rfl (ltb rfl) rfl hg9 (op_app (ltb rfl) se112_M4 rfl rfl rfl (by rw [hC]; exact okEls_str _ _) rfl (by rw [hC]; simp; omega) (by rw [hC]; simp; omega)) ?_
                refine TriD.g1 rfl (ltb rfl) rfl hg9 (op_mv (ltb rfl) rfl) ?_
                refine TriD.g1 rfl (ltb rfl) rfl hg9 (op_mv (ltb rfl) rfl) ?_
                refine TriD.g1 rfl (ltb rfl) rfl hg9 (op_iak (ltb rfl) ie76_M4 rfl rfl (Int.natCast_nonneg _) (ixm hk) rfl) ?_
                refine TriD.g1 rfl (ltb rfl) rfl hg9 (op_fak (ltb rfl) fo98_6_M4 rfl) ?_
                refine TriD.g1 rfl (ltb rfl) rfl hg9 (op_ldk (ltb rfl) lk9_M4 rfl rfl) ?_
                refine TriD.g1 rfl (ltb rfl) rfl hg9 (op_lit («as» := [_]) (ltb rfl) se112_M4 zAe112_M4 rfl rfl rfl (leb rfl)) ?_
                refine TriD.g3 rfl (ltb rfl) rfl hg9 (op_app (ltb rfl) se112_M4 rfl rfl rfl rfl rfl (by rw [hC]; simp; omega) (by rw [hC]; simp; omega)) ?_
                refine TriD.g1 rfl (ltb rfl) rfl hg9 (op_call (ltb rfl) fn71_M4 rfl ((r_once ((s.msgs[i]'hi).fields.map (·.name) ++ [((s.msgs[i]'hi).fields[k]'hk).one]) (by simp; omega)).at (by rw [hC, hTk]; simp [Function.comp_def]))) ?_
                refine TriD.g1 rfl (ltb rfl) rfl hg9 (op_un (ltb rfl) rfl rfl) ?_
                refine TriD.g1 rfl (ltb rfl) rfl hg8 (op_pickt (ltb rfl) rfl hg9 rfl) ?_
                refine TriD.c1 rfl (op_pickf (ltb rfl) rfl hg8 rfl) ?_
                refine TriD.c1 rfl (op_as (ltb rfl) rfl) ?_
                refine TriD.nil (by kernel_rfl) (Kept.now ?_)
                refine Tri.region ?_
                refine TriL.c1 rfl (op_mv (ltb rfl) rfl) ?_
                refine TriL.c1 rfl (op_bin (ltb rfl) rfl rfl rfl) ?_
                refine TriL.c1 rfl (op_as (ltb rfl) rfl) ?_
                refine TriL.kept (Kept.seti 12 rfl (inc (by omega)) (Kept.keep [.s 12, .s 4, .h, .s 1, .b 1, .s 3, .t 76, .s 8, .s 9, .s 10, .t 83] rfl (by decide) (Kept.now ?_)))
                exact ⟨(k + 1, _), (by dsimp only; omega), by grind, rfl⟩
              · refine TriD.skipu rfl rfl (ltb rfl) (ltb rfl) rfl hg9 ?_
                refine TriD.skipu rfl rfl (ltb rfl) (ltb rfl) rfl hg9 ?_
                refine TriD.skipu rfl rfl (ltb rfl) (ltb rfl) rfl hg9 ?_
                refine TriD.skipu rfl rfl (ltb rfl) (ltb rfl) rfl hg9 ?_
                refine TriD.skipu rfl rfl (ltb rfl) (ltb rfl) rfl hg9 ?_
                refine TriD.skipu rfl rfl (ltb rfl) (ltb rfl) rfl hg9 ?_
                refine TriD.skipu rfl rfl (ltb rfl) (ltb rfl) rfl hg9 ?_
                refine TriD.skipu rfl rfl (ltb rfl) (ltb rfl) rfl hg9 ?_
                refine TriD.skipu rfl rfl (ltb rfl) (ltb rfl) rfl hg9 ?_
                refine TriD.skipu rfl rfl (ltb rfl) (ltb rfl) rfl hg9 ?_
                refine TriD.skipu rfl rfl (ltb rfl) (ltb rfl) rfl hg9 ?_
                refine TriD.skipu rfl rfl (ltb rfl) (ltb rfl) rfl hg9 ?_
                refine TriD.g1 rfl (ltb rfl) rfl hg8 (op_pickf (ltb rfl) rfl hg9 rfl) ?_
                refine TriD.c1 rfl (op_pickf (ltb rfl) rfl hg8 rfl) ?_
                refine TriD.c1 rfl (op_as (ltb rfl) rfl) ?_
                refine TriD.nil (by kernel_rfl) (Kept.now ?_)
                refine Tri.region ?_
                refine TriL.c1 rfl (op_mv (ltb rfl) rfl) ?_
                refine TriL.c1 rfl (op_bin (ltb rfl) rfl rfl rfl) ?_
                refine TriL.c1 rfl (op_as (ltb rfl) rfl) ?_
                refine TriL.kept (Kept.seti 12 rfl (inc (by omega)) (Kept.keep [.s 12, .s 4, .h, .s 1, .b 1, .s 3, .t 76, .s 8, .s 9, .s 10, .t 83] rfl (by decide) (Kept.now ?_)))
                exact ⟨(k + 1, _), (by dsimp only; omega), by grind, rfl⟩
          · have hk := gem hc7
            have hU := any_end (p := (fun f : Fld => !(f.one == []) && !once ((s.msgs[i]'hi).fields.map (·.name) ++ [f.one]))) hk
            refine Tri.exit ?_
            refine Tri.region ?_
            refine TriL.c1 rfl (op_mv (ltb rfl) rfl) ?_
            refine TriL.c1 rfl (op_bin (ltb rfl) rfl rfl rfl) ?_
            refine TriL.c1 rfl (op_as (ltb rfl) rfl) ?_
            refine TriL.kept (Kept.seti 8 rfl (inc (by omega)) (Kept.keep [.s 8, .s 4, .s 3, .t 76, .h, .s 1, .b 1] rfl (by decide) (Kept.ren 76 13 (by decide) rfl (Kept.now ?_))))
            exact ⟨(i + 1, _, _), (by dsimp only; omega), ⟨take_app2 hi ha, by grind [Msg.twice]⟩, rfl⟩
    · have hi := gem hc4
      have hS := any_end (p := Msg.twice) hi
      have hT := take_end hi
      refine Tri.exit ?_
      refine Tri.seq ?_
      refine Tri.region ?_
      refine TriL.c1 rfl (op_mv (ltb rfl) rfl) ?_
      refine TriL.c1 rfl (op_mv (ltb rfl) rfl) ?_
      refine TriL.split (d := 134) rfl (fun hg10 => ?_) (fun hg10 => ?_)
      · refine TriL.skipu rfl rfl (ltb rfl) (ltb rfl) rfl hg10 ?_
        refine TriL.skipu rfl rfl (ltb rfl) (ltb rfl) rfl hg10 ?_
        refine TriL.skipu rfl rfl (ltb rfl) (ltb rfl) rfl hg10 ?_
        refine TriL.c1 rfl (op_pickt (ltb rfl) rfl hg10 rfl) ?_
        refine TriL.c1 rfl (op_as (ltb rfl) rfl) ?_
        refine TriL.nil ?_
        refine Tri.ret ?_
        exact ⟨.inr rfl, (ResOK.r1 rfl (.tmp rfl .nil)).cast (congrArg AV.bool (by grind [Sch.twice])), rfl⟩
      · refine TriL.g1 rfl (ltb rfl) rfl hg10 (op_mv (ltb rfl) rfl) ?_
        refine TriL.g1 rfl (ltb rfl) rfl hg10 (op_call (ltb rfl) fn71_M4 rfl ((r_once (s.enums.map (·.name) ++ s.msgs.map (·.name)) (by simp; omega)).at (by rw [ha, hT]; simp [Function.comp_def]))) ?_
        refine TriL.g1 rfl (ltb rfl) rfl hg10 (op_un (ltb rfl) rfl rfl) ?_
        refine TriL.c1 rfl (op_pickf (ltb rfl) rfl hg10 rfl) ?_
        refine TriL.c1 rfl (op_as (ltb rfl) rfl) ?_
        refine TriL.nil ?_
        refine Tri.ret ?_
        exact ⟨.inr rfl, (ResOK.r1 rfl (.tmp rfl .nil)).cast (congrArg AV.bool (by grind [Sch.twice])), rfl⟩
theorem r_nums (m : Msg) (hl : m.fields.length ≤ 1000) : Pure Tryz.prog 74 [m.av] (.sl (m.fields.map (fun f : Fld => AV.int .i64 f.num))) := by
  refine Pure.of_tri Tryz.func74 rfl rfl (ltb rfl) fun H => ?_
  refine Tri.seq ?_
  refine Tri.region ?_
  refine TriL.c2 rfl (op_box (ltb rfl) rfl rfl rfl) ?_
  refine TriL.c1 rfl (op_as (ltb rfl) rfl) ?_
  refine TriL.nil ?_
  refine Tri.seq ?_
  refine Tri.region ?_
  refine TriL.c2 rfl (op_litt («as» := []) (ltb rfl) se67_M4 zAe67_M4 rfl rfl rfl (leb rfl) rfl) ?_
  refine TriL.c1 rfl (op_as (ltb rfl) rfl) ?_
  refine TriL.nil ?_
  refine Tri.seq ?_
  refine Tri.seq ?_
  refine Tri.region ?_
  refine TriL.c1 rfl (op_as (ltb rfl) rfl) ?_
  refine TriL.nil ?_
  refine Tri.blk ?_
  refine Tri.ofKept (Kept.keep [.s 4, .s 3, .t 5, .h, .s 1, .b 1] rfl (by decide) (Kept.now ?_))
  -- LOOP 1
  refine Tri.loopk (fun ((i, a) : Nat × List AV) => [(.s 4, .sv (.v (.int .i64 (i : Int)))), (.s 3, .sv (.ow 5 a)), (.t 5, .tk false 3 1 a)]) _ (fun ((i, a) : Nat × List AV) => a = (m.fields.take i).map (fun f : Fld => AV.int .i64 f.num)) (fun ((i, a) : Nat × List AV) => m.fields.length - i) (0, _) rfl rfl ?_
  rintro ⟨i, a⟩ ha
  refine Tri.seq ?_
  refine Tri.seq ?_
  refine Tri.region ?_
  refine TriL.c1 rfl (op_mv (ltb rfl) rfl) ?_
  refine TriL.c1 rfl (op_fal (ltb rfl) fo78_1_M4 rfl) ?_
  refine TriL.c1 rfl (op_ldl (ltb rfl) lk76_M4 rfl rfl rfl) ?_
  refine TriL.c1 rfl (op_lenl (ltb rfl) un76_M4 rfl) ?_
  refine TriL.c1 rfl (op_bin (ltb rfl) rfl rfl rfl) ?_
  refine TriL.nil ?_
  refine Tri.cond rfl (fun hc1 => ?_) (fun hc1 => ?_)
  · have hi := ltm hc1
    refine Tri.skip ?_
    refine Tri.seq ?_
    refine Tri.blk ?_
    refine Tri.region ?_
    refine TriL.c1 rfl (op_mv (ltb rfl) rfl) ?_
    refine TriL.c1 rfl (op_fal (ltb rfl) fo78_1_M4 rfl) ?_
    refine TriL.c1 rfl (op_ldl (ltb rfl) lk76_M4 rfl rfl rfl) ?_
    refine TriL.c1 rfl (op_mv (ltb rfl) rfl) ?_
    refine TriL.c1 rfl (op_iak (ltb rfl) ie76_M4 rfl rfl (Int.natCast_nonneg _) (ixm hi) rfl) ?_
    refine TriL.c1 rfl (op_fak (ltb rfl) fo98_1_M4 rfl) ?_
    refine TriL.c1 rfl (op_ldk (ltb rfl) lk3_M4 rfl rfl) ?_
    refine TriL.c1 rfl (op_lit («as» := [_]) (ltb rfl) se67_M4 zAe67_M4 rfl rfl rfl (leb rfl)) ?_
    refine TriL.c3 rfl (op_app (ltb rfl) se67_M4 rfl rfl rfl rfl rfl (by rw [ha]; simp; omega) (by rw [ha]; simp; omega)) ?_
    refine TriL.c1 rfl (op_as (ltb rfl) rfl) ?_
    refine TriL.nil ?_
    refine Tri.region ?_
    refine TriL.c1 rfl (op_mv (ltb rfl) rfl) ?_
    refine TriL.c1 rfl (op_bin (ltb rfl) rfl rfl rfl) ?_
    refine TriL.c1 rfl (op_as (ltb rfl) rfl) ?_
    refine TriL.kept (Kept.seti 4 rfl (inc (by omega)) (Kept.keep [.s 4, .s 3, .t 21, .h, .s 1, .b 1] rfl (by decide) (Kept.ren 21 5 (by decide) rfl (Kept.now ?_))))
    exact ⟨(i + 1, _), (by dsimp only; omega), take_app hi ha, rfl⟩
  · have hi := gem hc1
    have hT := take_end hi
    refine Tri.exit ?_
    refine Tri.seq ?_
    refine Tri.region ?_
    refine TriL.c1 rfl (op_mv (ltb rfl) rfl) ?_
    refine TriL.c1 rfl (op_as (ltb rfl) rfl) ?_
    refine TriL.nil ?_
    refine Tri.ret ?_
    exact ⟨.inr rfl, (ResOK.r1 rfl (.tmp rfl .nil)).cast (by rw [ha, hT]), rfl⟩
theorem r_order (s : Sch) (hs : s.sm) (hn : ∀ x ∈ s.enums, 0 < x.values.length) : Pure Tryz.prog 41 [s.av] (.bool s.order) := by
  have := hs.e
  have := hs.m
  refine Pure.of_tri Tryz.func41 rfl rfl (ltb rfl) fun H => ?_
  refine Tri.seq ?_
  refine Tri.region ?_
  refine TriL.c2 rfl (op_box (ltb rfl) rfl rfl rfl) ?_
  refine TriL.c1 rfl (op_as (ltb rfl) rfl) ?_
  refine TriL.nil ?_
  refine Tri.seq ?_
  refine Tri.region ?_
  refine TriL.c1 rfl (op_as (ltb rfl) rfl) ?_
  refine TriL.nil ?_
  refine Tri.seq ?_
  refine Tri.region ?_
  refine TriL.c2 rfl (op_litt («as» := []) (ltb rfl) se112_M4 zAe112_M4 rfl rfl rfl (leb rfl) rfl) ?_
  refine TriL.c1 rfl (op_as (ltb rfl) rfl) ?_
  refine TriL.nil ?_
  refine Tri.seq ?_
  refine Tri.seq ?_
  refine Tri.region ?_
  refine TriL.c1 rfl (op_as (ltb rfl) rfl) ?_
  refine TriL.nil ?_
  refine Tri.blk ?_
  refine Tri.ofKept (Kept.keep [.s 5, .s 3, .s 4, .t 10, .h, .s 1, .b 1] rfl (by decide) (Kept.now ?_))
  -- LOOP 1
  refine Tri.loopk (fun ((i, b, a) : Nat × Bool × List AV) => [(.s 5, .sv (.v (.int .i64 (i : Int)))), (.s 3, .sv (.v (.bool b))), (.s 4, .sv (.ow 10 a)), (.t 10, .tk false 9 1 a)]) _ (fun ((i, b, a) : Nat × Bool × List AV) => a = (s.enums.take i).map (fun e : Enm => AV.str e.name) ∧ (b || (s.enums.drop i).any Enm.order) = s.enums.any Enm.order) (fun ((i, b, a) : Nat × Bool × List AV) => s.enums.length - i) (0, _, _) rfl ⟨rfl, by simp⟩ ?_
  rintro ⟨i, b, a⟩ ⟨ha, hI⟩
  refine Tri.seq ?_
  refine Tri.seq ?_
  refine Tri.region ?_
  refine TriL.c1 rfl (op_mv (ltb rfl) rfl) ?_
  refine TriL.c1 rfl (op_fal (ltb rfl) fo25_0_M4 rfl) ?_
  refine TriL.c1 rfl (op_ldl (ltb rfl) lk22_M4 rfl rfl rfl) ?_
  refine TriL.c1 rfl (op_lenl (ltb rfl) un22_M4 rfl) ?_
  refine TriL.c1 rfl (op_bin (ltb rfl) rfl rfl rfl) ?_
  refine TriL.nil ?_
  refine Tri.cond rfl (fun hc1 => ?_) (fun hc1 => ?_)
  · have hi := ltm hc1
    have hS := any_step (p := Enm.order) hi
    have := hs.vi hi
    have hv0 : 0 < (s.enums[i]'hi).values.length := hn _ (List.getElem_mem hi)
    have hO := Enm.order_pos hv0
    refine Tri.skip ?_
    refine Tri.seq ?_
    refine Tri.blk ?_
    refine Tri.seq ?_
    refine Tri.region ?_
    refine TriL.c1 rfl (op_mv (ltb rfl) rfl) ?_
    refine TriL.c1 rfl (op_fal (ltb rfl) fo25_0_M4 rfl) ?_
    refine TriL.c1 rfl (op_ldl (ltb rfl) lk22_M4 rfl rfl rfl) ?_
    refine TriL.c1 rfl (op_mv (ltb rfl) rfl) ?_
    refine TriL.c1 rfl (op_iak (ltb rfl) ie22_M4 rfl rfl (Int.natCast_nonneg _) (ixm hi) rfl) ?_
    refine TriL.c1 rfl (op_fak (ltb rfl) fo94_0_M4 rfl) ?_
    refine TriL.c1 rfl (op_ldk (ltb rfl) lk9_M4 rfl rfl) ?_
    refine TriL.c1 rfl (op_lit («as» := [_]) (ltb rfl) se112_M4 zAe112_M4 rfl rfl rfl (leb rfl)) ?_
    refine TriL.c3 rfl (op_app (ltb rfl) se112_M4 rfl rfl rfl rfl rfl (by rw [ha]; simp; omega) (by rw [ha]; simp; omega)) ?_
    refine TriL.c1 rfl (op_as (ltb rfl) rfl) ?_
    refine TriL.nil ?_
    refine Tri.seq ?_
    refine Tri.region ?_
    refine TriL.c2 rfl (op_litt («as» := []) (ltb rfl) se67_M4 zAe67_M4 rfl rfl rfl (leb rfl) rfl) ?_
    refine TriL.c1 rfl (op_as (ltb rfl) rfl) ?_
    refine TriL.nil ?_
    refine Tri.seq ?_
    refine Tri.seq ?_
    refine Tri.region ?_
    refine TriL.c1 rfl (op_as (ltb rfl) rfl) ?_
    refine TriL.nil ?_
    refine Tri.blk ?_
    refine Tri.ofKept (Kept.keep [.s 7, .s 6, .t 27, .h, .s 1, .b 1, .s 3, .s 4, .t 26, .s 5] rfl (by decide) (Kept.now ?_))
    -- LOOP 2
    refine Tri.loopk (fun ((k, c) : Nat × List AV) => [(.s 7, .sv (.v (.int .i64 (k : Int)))), (.s 6, .sv (.ow 27 c)), (.t 27, .tk false 3 1 c)]) _ (fun ((k, c) : Nat × List AV) => c = ((s.enums[i]'hi).values.take k).map (fun v : Vlu => AV.int .i64 v.num)) (fun ((k, c) : Nat × List AV) => (s.enums[i]'hi).values.length - k) (0, _) rfl rfl ?_
    rintro ⟨k, c⟩ hC
    refine Tri.seq ?_
    refine Tri.seq ?_
    refine Tri.region ?_
    refine TriL.c1 rfl (op_mv (ltb rfl) rfl) ?_
    refine TriL.c1 rfl (op_fal (ltb rfl) fo25_0_M4 rfl) ?_
    refine TriL.c1 rfl (op_ldl (ltb rfl) lk22_M4 rfl rfl rfl) ?_
    refine TriL.c1 rfl (op_mv (ltb rfl) rfl) ?_
    refine TriL.c1 rfl (op_iak (ltb rfl) ie22_M4 rfl rfl (Int.natCast_nonneg _) (ixm hi) rfl) ?_
    refine TriL.c1 rfl (op_fak (ltb rfl) fo94_1_M4 rfl) ?_
    refine TriL.c1 rfl (op_ldk (ltb rfl) lk92_M4 rfl rfl) ?_
    refine TriL.c1 rfl (op_lenl (ltb rfl) un92_M4 rfl) ?_
    refine TriL.c1 rfl (op_bin (ltb rfl) rfl rfl rfl) ?_
    refine TriL.nil ?_
    refine Tri.cond rfl (fun hc2 => ?_) (fun hc2 => ?_)
    · have hk := ltm hc2
      refine Tri.skip ?_
      refine Tri.seq ?_
      refine Tri.blk ?_
      refine Tri.region ?_
      refine TriL.c1 rfl (op_mv (ltb rfl) rfl) ?_
      refine TriL.c1 rfl (op_fal (ltb rfl) fo25_0_M4 rfl) ?_
      refine TriL.c1 rfl (op_ldl (ltb rfl) lk22_M4 rfl rfl rfl) ?_
      refine TriL.c1 rfl (op_mv (ltb rfl) rfl) ?_
      refine TriL.c1 rfl (op_iak (ltb rfl) ie22_M4 rfl rfl (Int.natCast_nonneg _) (ixm hi) rfl) ?_
      refine TriL.c1 rfl (op_fak (ltb rfl) fo94_1_M4 rfl) ?_
      refine TriL.c1 rfl (op_ldk (ltb rfl) lk92_M4 rfl rfl) ?_
      refine TriL.c1 rfl (op_mv (ltb rfl) rfl) ?_
      refine TriL.c1 rfl (op_iak (ltb rfl) ie92_M4 rfl rfl (Int.natCast_nonneg _) (ixm hk) rfl) ?_
      refine TriL.c1 rfl (op_fak (ltb rfl) fo96_1_M4 rfl) ?_
      refine TriL.c1 rfl (op_ldk (ltb rfl) lk3_M4 rfl rfl) ?_
      refine TriL.c1 rfl (op_lit («as» := [_]) (ltb rfl) se67_M4 zAe67_M4 rfl rfl rfl (leb rfl)) ?_
      refine TriL.c3 rfl (op_app (ltb rfl) se67_M4 rfl rfl rfl rfl rfl (by rw [hC]; simp; omega) (by rw [hC]; simp; omega)) ?_
      refine TriL.c1 rfl (op_as (ltb rfl) rfl) ?_
      refine TriL.nil ?_
      refine Tri.region ?_
      refine TriL.c1 rfl (op_mv (ltb rfl) rfl) ?_
      refine TriL.c1 rfl (op_bin (ltb rfl) rfl rfl rfl) ?_
      refine TriL.c1 rfl (op_as (ltb rfl) rfl) ?_
      refine TriL.kept (Kept.seti 7 rfl (inc (by omega)) (Kept.keep [.s 7, .s 6, .t 51, .h, .s 1, .b 1, .s 3, .s 4, .t 26, .s 5] rfl (by decide) (Kept.ren 51 27 (by decide) rfl (Kept.now ?_))))
      exact ⟨(k + 1, _), (by dsimp only; omega), take_app hk hC, rfl⟩
    · have hk := gem hc2
      have hC2 : c = (s.enums[i]'hi).values.map (fun v : Vlu => AV.int .i64 v.num) := by rw [hC, take_end hk]
      refine Tri.exit ?_
      refine Tri.region ?_
      refine TriL.c1 rfl (op_mv (ltb rfl) rfl) ?_
      refine TriL.c1 rfl (op_mv (ltb rfl) rfl) ?_
      refine TriL.split (d := 53) rfl (fun hg3 => ?_) (fun hg3 => ?_)
      · refine TriL.skipu rfl rfl (ltb rfl) (ltb rfl) rfl hg3 ?_
        refine TriL.skipu rfl rfl (ltb rfl) (ltb rfl) rfl hg3 ?_
        refine TriL.skipu rfl rfl (ltb rfl) (ltb rfl) rfl hg3 ?_
        refine TriL.c1 rfl (op_pickt (ltb rfl) rfl hg3 rfl) ?_
        refine TriL.c1 rfl (op_mv (ltb rfl) rfl) ?_
        refine TriL.skipu rfl rfl (ltb rfl) (ltb rfl) rfl rfl ?_
        refine TriL.skipu rfl rfl (ltb rfl) (ltb rfl) rfl rfl ?_
        refine TriL.skipu rfl rfl (ltb rfl) (ltb rfl) rfl rfl ?_
        refine TriL.skipu rfl rfl (ltb rfl) (ltb rfl) rfl rfl ?_
        refine TriL.c1 rfl (op_pickt (ltb rfl) rfl rfl rfl) ?_
        refine TriL.c1 rfl (op_mv (ltb rfl) rfl) ?_
        refine TriL.skipu rfl rfl (ltb rfl) (ltb rfl) rfl rfl ?_
        refine TriL.skipu rfl rfl (ltb rfl) (ltb rfl) rfl rfl ?_
        refine TriL.skipu rfl rfl (ltb rfl) (ltb rfl) rfl rfl ?_
        refine TriL.skipu rfl rfl (ltb rfl) (ltb rfl) rfl rfl ?_
        refine TriL.skipu rfl rfl (ltb rfl) (ltb rfl) rfl rfl ?_
        refine TriL.skipu rfl rfl (ltb rfl) (ltb rfl) rfl rfl ?_
        refine TriL.skipu rfl rfl (ltb rfl) (ltb rfl) rfl rfl ?_
        refine TriL.c1 rfl (op_pickt (ltb rfl) rfl rfl rfl) ?_
        refine TriL.c1 rfl (op_as (ltb rfl) rfl) ?_
        refine TriL.nil ?_
        refine Tri.region ?_
        refine TriL.c1 rfl (op_mv (ltb rfl) rfl) ?_
        refine TriL.c1 rfl (op_bin (ltb rfl) rfl rfl rfl) ?_
        refine TriL.c1 rfl (op_as (ltb rfl) rfl) ?_
        refine TriL.kept (Kept.seti 5 rfl (inc (by omega)) (Kept.keep [.s 5, .s 3, .s 4, .t 26, .h, .s 1, .b 1] rfl (by decide) (Kept.ren 26 10 (by decide) rfl (Kept.now ?_))))
        exact ⟨(i + 1, _, _), (by dsimp only; omega), ⟨take_app hi ha, by clear ha hC hC2 hn; grind⟩, rfl⟩
      · refine TriL.g1 rfl (ltb rfl) rfl hg3 (op_mv (ltb rfl) rfl) ?_
        refine TriL.g1 rfl (ltb rfl) rfl hg3 (op_call (ltb rfl) fn72_M4 rfl ((r_rises ((s.enums[i]'hi).values.map (·.num)) (by simp; omega)).at (by rw [hC2]; simp [iAV, Function.comp_def]))) ?_
        refine TriL.g1 rfl (ltb rfl) rfl hg3 (op_un (ltb rfl) rfl rfl) ?_
        refine TriL.c1 rfl (op_pickf (ltb rfl) rfl hg3 rfl) ?_
        refine TriL.c1 rfl (op_mv (ltb rfl) rfl) ?_
        refine TriL.split (d := 58) rfl (fun hg4 => ?_) (fun hg4 => ?_)
        · refine TriL.skipu rfl rfl (ltb rfl) (ltb rfl) rfl hg4 ?_
          refine TriL.skipu rfl rfl (ltb rfl) (ltb rfl) rfl hg4 ?_
          refine TriL.skipu rfl rfl (ltb rfl) (ltb rfl) rfl hg4 ?_
          refine TriL.skipu rfl rfl (ltb rfl) (ltb rfl) rfl hg4 ?_
          refine TriL.c1 rfl (op_pickt (ltb rfl) rfl hg4 rfl) ?_
          refine TriL.c1 rfl (op_mv (ltb rfl) rfl) ?_
          refine TriL.skipu rfl rfl (ltb rfl) (ltb rfl) rfl rfl ?_
          refine TriL.skipu rfl rfl (ltb rfl) (ltb rfl) rfl rfl ?_
          refine TriL.skipu rfl rfl (ltb rfl) (ltb rfl) rfl rfl ?_
          refine TriL.skipu rfl rfl (ltb rfl) (ltb rfl) rfl rfl ?_
          refine TriL.skipu rfl rfl (ltb rfl) (ltb rfl) rfl rfl ?_
          refine TriL.skipu rfl rfl (ltb rfl) (ltb rfl) rfl rfl ?_
          refine TriL.skipu rfl rfl (ltb rfl) (ltb rfl) rfl rfl ?_
          refine TriL.c1 rfl (op_pickt (ltb rfl) rfl rfl rfl) ?_
          refine TriL.c1 rfl (op_as (ltb rfl) rfl) ?_
          refine TriL.nil ?_
          refine Tri.region ?_
          refine TriL.c1 rfl (op_mv (ltb rfl) rfl) ?_
          refine TriL.c1 rfl (op_bin (ltb rfl) rfl rfl rfl) ?_
          refine TriL.c1 rfl (op_as (ltb rfl) rfl) ?_
          refine TriL.kept (Kept.seti 5 rfl (inc (by omega)) (Kept.keep [.s 5, .s 3, .s 4, .t 26, .h, .s 1, .b 1] rfl (by decide) (Kept.ren 26 10 (by decide) rfl (Kept.now ?_))))
          exact ⟨(i + 1, _, _), (by dsimp only; omega), ⟨take_app hi ha, by clear ha hC hC2 hn; grind⟩, rfl⟩
        · refine TriL.g1 rfl (ltb rfl) rfl hg4 (op_mv (ltb rfl) rfl) ?_
          refine TriL.g1 rfl (ltb rfl) rfl hg4 (op_iak (ltb rfl) ie67_M4 rfl rfl (by decide) (ixeq (i := 0) hC2 hv0) rfl) ?_
          refine TriL.g1 rfl (ltb rfl) rfl hg4 (op_ldk (ltb rfl) lk3_M4 rfl rfl) ?_
          refine TriL.g1 rfl (ltb rfl) rfl hg4 (op_bin (ltb rfl) rfl rfl rfl) ?_
          refine TriL.c1 rfl (op_pickf (ltb rfl) rfl hg4 rfl) ?_
          refine TriL.c1 rfl (op_mv (ltb rfl) rfl) ?_
          refine TriL.split (d := 64) rfl (fun hg5 => ?_) (fun hg5 => ?_)
          · refine TriL.skipu rfl rfl (ltb rfl) (ltb rfl) rfl hg5 ?_
            refine TriL.skipu rfl rfl (ltb rfl) (ltb rfl) rfl hg5 ?_
            refine TriL.skipu rfl rfl (ltb rfl) (ltb rfl) rfl hg5 ?_
            refine TriL.skipu rfl rfl (ltb rfl) (ltb rfl) rfl hg5 ?_
            refine TriL.skipu rfl rfl (ltb rfl) (ltb rfl) rfl hg5 ?_
            refine TriL.skipu rfl rfl (ltb rfl) (ltb rfl) rfl hg5 ?_
            refine TriL.skipu rfl rfl (ltb rfl) (ltb rfl) rfl hg5 ?_
            refine TriL.c1 rfl (op_pickt (ltb rfl) rfl hg5 rfl) ?_
            refine TriL.c1 rfl (op_as (ltb rfl) rfl) ?_
            refine TriL.nil ?_
            refine Tri.region ?_
            refine TriL.c1 rfl (op_mv (ltb rfl) rfl) ?_
            refine TriL.c1 rfl (op_bin (ltb rfl) rfl rfl rfl) ?_
            refine TriL.c1 rfl (op_as (ltb rfl) rfl) ?_
            refine TriL.kept (Kept.seti 5 rfl (inc (by omega)) (Kept.keep [.s 5, .s 3, .s 4, .t 26, .h, .s 1, .b 1] rfl (by decide) (Kept.ren 26 10 (by decide) rfl (Kept.now ?_))))
            exact ⟨(i + 1, _, _), (by dsimp only; omega), ⟨take_app hi ha, by clear ha hC hC2 hn; grind⟩, rfl⟩
          · refine TriL.g1 rfl (ltb rfl) rfl hg5 (op_mv (ltb rfl) rfl) ?_
            refine TriL.g1 rfl (ltb rfl) rfl hg5 (op_mv (ltb rfl) rfl) ?_
            refine TriL.g1 rfl (ltb rfl) rfl hg5 (op_lenl (ltb rfl) un67_M4 rfl) ?_
            refine TriL.g1 rfl (ltb rfl) rfl hg5 (op_bin (ltb rfl) rfl rfl rfl) ?_
            refine TriL.g1 rfl (ltb rfl) rfl hg5 (op_iak (ltb rfl) ie67_M4 rfl rfl (by rw [hC2, List.length_map, dec1 hv0 (by omega)]; exact Int.natCast_nonneg _) (ixeq1 (i := (s.enums[i]'hi).values.length - 1) (by rw [hC2, List.length_map]; exact dec1 hv0 (by omega)) hC2 (by omega)) rfl) ?_
            refine TriL.g1 rfl (ltb rfl) rfl hg5 (op_ldk (ltb rfl) lk3_M4 rfl rfl) ?_
            refine TriL.g1 rfl (ltb rfl) rfl hg5 (op_bin (ltb rfl) rfl rfl rfl) ?_
            refine TriL.c1 rfl (op_pickf (ltb rfl) rfl hg5 rfl) ?_
            refine TriL.c1 rfl (op_as (ltb rfl) rfl) ?_
            refine TriL.nil ?_
            refine Tri.region ?_
            refine TriL.c1 rfl (op_mv (ltb rfl) rfl) ?_
            refine TriL.c1 rfl (op_bin (ltb rfl) rfl rfl rfl) ?_
            refine TriL.c1 rfl (op_as (ltb rfl) rfl) ?_
            refine TriL.kept (Kept.seti 5 rfl (inc (by omega)) (Kept.keep [.s 5, .s 3, .s 4, .t 26, .h, .s 1, .b 1] rfl (by decide) (Kept.ren 26 10 (by decide) rfl (Kept.now ?_))))
            exact ⟨(i + 1, _, _), (by dsimp only; omega), ⟨take_app hi ha, by clear ha hC hC2 hn; grind⟩, rfl⟩
  · have hi := gem hc1
    have hS := any_end (p := Enm.order) hi
    have hT := take_end hi
    refine Tri.exit ?_
    refine Tri.joinu [.h, .s 1, .b 1] (fun (b1 : Bool) => [(.s 3, .sv (.v (.bool b1)))]) (fun (b1 : Bool) => b1 = (s.enums.any Enm.order || !riseS (s.enums.map (·.name)))) rfl ?_ ?_
    · -- region 13 ref.go:127
      refine Tri.region ?_
      refine TriL.c1 rfl (op_mv (ltb rfl) rfl) ?_
      refine TriL.c1 rfl (op_mv (ltb rfl) rfl) ?_
      refine TriL.split (d := 74) rfl (fun hg6 => ?_) (fun hg6 => ?_)
      · refine TriL.skipu rfl rfl (ltb rfl) (ltb rfl) rfl hg6 ?_
        refine TriL.skipu rfl rfl (ltb rfl) (ltb rfl) rfl hg6 ?_
        refine TriL.skipu rfl rfl (ltb rfl) (ltb rfl) rfl hg6 ?_
        refine TriL.c1 rfl (op_pickt (ltb rfl) rfl hg6 rfl) ?_
        refine TriL.c1 rfl (op_as (ltb rfl) rfl) ?_
        refine TriL.kept (Kept.keep [.s 3, .h, .s 1, .b 1] rfl (by decide) (Kept.now ?_))
        exact ⟨_, by grind, rfl⟩
      · refine TriL.g1 rfl (ltb rfl) rfl hg6 (op_mv (ltb rfl) rfl) ?_
        refine TriL.g1 rfl (ltb rfl) rfl hg6 (op_call (ltb rfl) fn73_M4 rfl ((r_riseS (s.enums.map (·.name)) (by simp; omega)).at (by rw [ha, hT]; simp [Function.comp_def]))) ?_
        refine TriL.g1 rfl (ltb rfl) rfl hg6 (op_un (ltb rfl) rfl rfl) ?_
        refine TriL.c1 rfl (op_pickf (ltb rfl) rfl hg6 rfl) ?_
        refine TriL.c1 rfl (op_as (ltb rfl) rfl) ?_
        refine TriL.kept (Kept.keep [.s 3, .h, .s 1, .b 1] rfl (by decide) (Kept.now ?_))
        exact ⟨_, by grind, rfl⟩
    · rintro b1 hF14
      refine Tri.seq ?_
      refine Tri.region ?_
      refine TriL.c2 rfl (op_litt («as» := []) (ltb rfl) se112_M4 zAe112_M4 rfl rfl rfl (leb rfl) rfl) ?_
      refine TriL.c1 rfl (op_as (ltb rfl) rfl) ?_
      refine TriL.nil ?_
      refine Tri.seq ?_
      refine Tri.seq ?_
      refine Tri.region ?_
      refine TriL.c1 rfl (op_as (ltb rfl) rfl) ?_
      refine TriL.nil ?_
      refine Tri.blk ?_
      refine Tri.ofKept (Kept.keep [.s 8, .s 3, .s 4, .t 79, .h, .s 1, .b 1] rfl (by decide) (Kept.now ?_))
      -- LOOP 3
      refine Tri.loopk (fun ((i, b, a) : Nat × Bool × List AV) => [(.s 8, .sv (.v (.int .i64 (i : Int)))), (.s 3, .sv (.v (.bool b))), (.s 4, .sv (.ow 79 a)), (.t 79, .tk false 9 1 a)]) _ (fun ((i, b, a) : Nat × Bool × List AV) => a = ((s.msgs.take i).drop 1).map (fun m : Msg => AV.str m.name) ∧ (b || (s.msgs.drop i).any Msg.order) = (s.enums.any Enm.order || !riseS (s.enums.map (·.name)) || s.msgs.any Msg.order)) (fun ((i, b, a) : Nat × Bool × List AV) => s.msgs.length - i) (0, _, _) rfl ⟨by simp, by grind⟩ ?_
      rintro ⟨i, b, a⟩ ⟨ha, hI⟩
      refine Tri.seq ?_
      refine Tri.seq ?_
      refine Tri.region ?_
      refine TriL.c1 rfl (op_mv (ltb rfl) rfl) ?_
      refine TriL.c1 rfl (op_fal (ltb rfl) fo25_1_M4 rfl) ?_
      refine TriL.c1 rfl (op_ldl (ltb rfl) lk23_M4 rfl rfl rfl) ?_
      refine TriL.c1 rfl (op_lenl (ltb rfl) un23_M4 rfl) ?_
      refine TriL.c1 rfl (op_bin (ltb rfl) rfl rfl rfl) ?_
      refine TriL.nil ?_
      refine Tri.cond rfl (fun hc7 => ?_) (fun hc7 => ?_)
      · have hi := ltm hc7
        have hS := any_step (p := Msg.order) hi
        have := hs.fi hi
        have := hs.bi hi
        have hO1 := Msg.order_pos (m := (s.msgs[i]'hi))
        have hO2 := Msg.order_nil (m := (s.msgs[i]'hi))
        refine Tri.skip ?_
        refine Tri.seq ?_
        refine Tri.blk ?_
        refine Tri.joinu [.h, .s 1, .b 1, .s 3, .s 8] (fun (a2 : List AV) => [(.s 4, .sv (.ow 79 a2)), (.t 79, .tk false 9 1 a2)]) (fun (a2 : List AV) => a2 = ((s.msgs.take (i + 1)).drop 1).map (fun m : Msg => AV.str m.name)) rfl ?_ ?_
        · refine Tri.seq ?_
          refine Tri.region ?_
          refine TriL.c1 rfl (op_mv (ltb rfl) rfl) ?_
          refine TriL.c1 rfl (op_bin (ltb rfl) rfl rfl rfl) ?_
          refine TriL.nil ?_
          refine Tri.cond rfl (fun hc8 => ?_) (fun hc8 => ?_)
          · -- region 19 ref.go:131
            refine Tri.region ?_
            refine TriL.c1 rfl (op_mv (ltb rfl) rfl) ?_
            refine TriL.c1 rfl (op_fal (ltb rfl) fo25_1_M4 rfl) ?_
            refine TriL.c1 rfl (op_ldl (ltb rfl) lk23_M4 rfl rfl rfl) ?_
            refine TriL.c1 rfl (op_mv (ltb rfl) rfl) ?_
            refine TriL.c1 rfl (op_iak (ltb rfl) ie23_M4 rfl rfl (Int.natCast_nonneg _) (ixm hi) rfl) ?_
            refine TriL.c1 rfl (op_fak (ltb rfl) fo78_0_M4 rfl) ?_
            refine TriL.c1 rfl (op_ldk (ltb rfl) lk9_M4 rfl rfl) ?_
            refine TriL.c1 rfl (op_lit («as» := [_]) (ltb rfl) se112_M4 zAe112_M4 rfl rfl rfl (leb rfl)) ?_
            refine TriL.c3 rfl (op_app (ltb rfl) se112_M4 rfl rfl rfl rfl rfl (by rw [ha]; simp; omega) (by rw [ha]; simp; omega)) ?_
            refine TriL.c1 rfl (op_as (ltb rfl) rfl) ?_
            refine TriL.kept (Kept.keep [.s 4, .t 97, .h, .s 1, .b 1, .s 3, .s 8] rfl (by decide) (Kept.ren 97 79 (by decide) rfl (Kept.now ?_)))
            exact ⟨a ++ [AV.str (s.msgs[i]'hi).name], (by rw [take_drop1 (by have := of_decide_eq_true hc8; omega) hi, List.map_append, ha]; rfl), rfl⟩
          · refine Tri.ofKept (Kept.keep [.s 4, .t 79, .h, .s 1, .b 1, .s 3, .s 8] rfl (by decide) (Kept.now ?_))
            refine Tri.skip ?_
            exact ⟨a, (by have h0 : i = 0 := (by have := of_decide_eq_false hc8; omega); subst h0; rw [take_drop0, ha]; simp), rfl⟩
        · rintro a2 ha2
          refine Tri.seq ?_
          refine Tri.region ?_
          refine TriL.c1 rfl (op_fal (ltb rfl) fo25_1_M4 rfl) ?_
          refine TriL.c1 rfl (op_ldl (ltb rfl) lk23_M4 rfl rfl rfl) ?_
          refine TriL.c1 rfl (op_mv (ltb rfl) rfl) ?_
          refine TriL.c1 rfl (op_iak (ltb rfl) ie23_M4 rfl rfl (Int.natCast_nonneg _) (ixm hi) rfl) ?_
          refine TriL.c1 rfl (op_fak (ltb rfl) fo78_2_M4 rfl) ?_
          refine TriL.c1 rfl (op_ldk (ltb rfl) lk67_M4 rfl rfl) ?_
          refine TriL.c1 rfl (op_as (ltb rfl) rfl) ?_
          refine TriL.nil ?_
          refine Tri.joinu [.h, .s 1, .b 1, .s 4, .t 79, .s 8, .s 9] (fun (b1 : Bool) => [(.s 3, .sv (.v (.bool b1)))]) (fun (b1 : Bool) => b1 = (b || !rises ((s.msgs[i]'hi).fields.map (·.num)) || !rises (s.msgs[i]'hi).barred)) rfl ?_ ?_
          · -- region 21 ref.go:134
            refine Tri.region ?_
            refine TriL.c1 rfl (op_mv (ltb rfl) rfl) ?_
            refine TriL.c1 rfl (op_mv (ltb rfl) rfl) ?_
            refine TriL.split (d := 105) rfl (fun hg9 => ?_) (fun hg9 => ?_)
            · refine TriL.skipu rfl rfl (ltb rfl) (ltb rfl) rfl hg9 ?_
              refine TriL.skipu rfl rfl (ltb rfl) (ltb rfl) rfl hg9 ?_
              refine TriL.skipu rfl rfl (ltb rfl) (ltb rfl) rfl hg9 ?_
              refine TriL.skipu rfl rfl (ltb rfl) (ltb rfl) rfl hg9 ?_
              refine TriL.skipu rfl rfl (ltb rfl) (ltb rfl) rfl hg9 ?_
              refine TriL.skipu rfl rfl (ltb rfl) (ltb rfl) rfl hg9 ?_
              refine TriL.skipu rfl rfl (ltb rfl) (ltb rfl) rfl hg9 ?_
              refine TriL.skipu rfl rfl (ltb rfl) (ltb rfl) rfl hg9 ?_
              refine TriL.c1 rfl (op_pickt (ltb rfl) rfl hg9 rfl) ?_
              refine TriL.c1 rfl (op_mv (ltb rfl) rfl) ?_
              refine TriL.skipu rfl rfl (ltb rfl) (ltb rfl) rfl rfl ?_
              refine TriL.skipu rfl rfl (ltb rfl) (ltb rfl) rfl rfl ?_
              refine TriL.skipu rfl rfl (ltb rfl) (ltb rfl) rfl rfl ?_
              refine TriL.c1 rfl (op_pickt (ltb rfl) rfl rfl rfl) ?_
              refine TriL.c1 rfl (op_as (ltb rfl) rfl) ?_
              refine TriL.kept (Kept.keep [.s 3, .h, .s 1, .b 1, .s 4, .t 79, .s 8, .s 9] rfl (by decide) (Kept.now ?_))
              exact ⟨_, by grind, rfl⟩
            · refine TriL.g1 rfl (ltb rfl) rfl hg9 (op_fal (ltb rfl) fo25_1_M4 rfl) ?_
              refine TriL.g1 rfl (ltb rfl) rfl hg9 (op_ldl (ltb rfl) lk23_M4 rfl rfl rfl) ?_
              refine TriL.g1 rfl (ltb rfl) rfl hg9 (op_mv (ltb rfl) rfl) ?_
              refine TriL.g1 rfl (ltb rfl) rfl hg9 (op_iak (ltb rfl) ie23_M4 rfl rfl (Int.natCast_nonneg _) (ixm hi) rfl) ?_
              refine TriL.g1 rfl (ltb rfl) rfl hg9 (op_ldk (ltb rfl) lk78_M4 rfl rfl) ?_
              refine TriL.g1 rfl (ltb rfl) rfl hg9 (op_call (ltb rfl) fn74_M4 rfl (r_nums _ (by omega))) ?_
              refine TriL.g1 rfl (ltb rfl) rfl hg9 (op_call (ltb rfl) fn72_M4 rfl ((r_rises ((s.msgs[i]'hi).fields.map (·.num)) (by simp; omega)).at (by simp [iAV, Function.comp_def]))) ?_
              refine TriL.g1 rfl (ltb rfl) rfl hg9 (op_un (ltb rfl) rfl rfl) ?_
              refine TriL.c1 rfl (op_pickf (ltb rfl) rfl hg9 rfl) ?_
              refine TriL.c1 rfl (op_mv (ltb rfl) rfl) ?_
              refine TriL.split (d := 115) rfl (fun hg10 => ?_) (fun hg10 => ?_)
              · refine TriL.skipu rfl rfl (ltb rfl) (ltb rfl) rfl hg10 ?_
                refine TriL.skipu rfl rfl (ltb rfl) (ltb rfl) rfl hg10 ?_
                refine TriL.skipu rfl rfl (ltb rfl) (ltb rfl) rfl hg10 ?_
                refine TriL.c1 rfl (op_pickt (ltb rfl) rfl hg10 rfl) ?_
                refine TriL.c1 rfl (op_as (ltb rfl) rfl) ?_
                refine TriL.kept (Kept.keep [.s 3, .h, .s 1, .b 1, .s 4, .t 79, .s 8, .s 9] rfl (by decide) (Kept.now ?_))
                exact ⟨_, by grind, rfl⟩
              · refine TriL.g1 rfl (ltb rfl) rfl hg10 (op_mv (ltb rfl) rfl) ?_
                refine TriL.g1 rfl (ltb rfl) rfl hg10 (op_call (ltb rfl) fn72_M4 rfl (r_rises (s.msgs[i]'hi).barred (by omega))) ?_
                refine TriL.g1 rfl (ltb rfl) rfl hg10 (op_un (ltb rfl) rfl rfl) ?_
                refine TriL.c1 rfl (op_pickf (ltb rfl) rfl hg10 rfl) ?_
                refine TriL.c1 rfl (op_as (ltb rfl) rfl) ?_
                refine TriL.kept (Kept.keep [.s 3, .h, .s 1, .b 1, .s 4, .t 79, .s 8, .s 9] rfl (by decide) (Kept.now ?_))
                exact ⟨_, by grind, rfl⟩
          · rintro b1 hF22
            refine Tri.region ?_
            refine TriL.c1 rfl (op_mv (ltb rfl) rfl) ?_
            refine TriL.c1 rfl (op_mv (ltb rfl) rfl) ?_
            refine TriL.split (d := 121) rfl (fun hg11 => ?_) (fun hg11 => ?_)
            · refine TriL.skipu rfl rfl (ltb rfl) (ltb rfl) rfl hg11 ?_
              refine TriL.skipu rfl rfl (ltb rfl) (ltb rfl) rfl hg11 ?_
              refine TriL.skipu rfl rfl (ltb rfl) (ltb rfl) rfl hg11 ?_
              refine TriL.skipu rfl rfl (ltb rfl) (ltb rfl) rfl hg11 ?_
              refine TriL.skipg rfl rfl (ltb rfl) (ltb rfl) rfl ?_
              refine TriL.skipg rfl rfl (ltb rfl) (ltb rfl) rfl ?_
              refine TriL.skipg rfl rfl (ltb rfl) (ltb rfl) rfl ?_
              refine TriL.skipg rfl rfl (ltb rfl) (ltb rfl) rfl ?_
              refine TriL.skipg rfl rfl (ltb rfl) (ltb rfl) rfl ?_
              refine TriL.skipg rfl rfl (ltb rfl) (ltb rfl) rfl ?_
              refine TriL.skipg rfl rfl (ltb rfl) (ltb rfl) rfl ?_
              refine TriL.skipg rfl rfl (ltb rfl) (ltb rfl) rfl ?_
              refine TriL.skipg rfl rfl (ltb rfl) (ltb rfl) rfl ?_
              refine TriL.skipg rfl rfl (ltb rfl) (ltb rfl) rfl ?_
              refine TriL.skipg rfl rfl (ltb rfl) (ltb rfl) rfl ?_
              refine TriL.skipg rfl rfl (ltb rfl) (ltb rfl) rfl ?_
              refine TriL.skipg rfl rfl (ltb rfl) (ltb rfl) rfl ?_
              refine TriL.skipu rfl rfl (ltb rfl) (ltb rfl) rfl hg11 ?_
              refine TriL.c1 rfl (op_pickt (ltb rfl) rfl hg11 rfl) ?_
              refine TriL.c1 rfl (op_as (ltb rfl) rfl) ?_
              refine TriL.nil ?_
              refine Tri.region ?_
              refine TriL.c1 rfl (op_mv (ltb rfl) rfl) ?_
              refine TriL.c1 rfl (op_bin (ltb rfl) rfl rfl rfl) ?_
              refine TriL.c1 rfl (op_as (ltb rfl) rfl) ?_
              refine TriL.kept (Kept.seti 8 rfl (inc (by omega)) (Kept.keep [.s 8, .s 3, .s 4, .t 79, .h, .s 1, .b 1] rfl (by decide) (Kept.now ?_)))
              exact ⟨(i + 1, _, _), (by dsimp only; omega), ⟨ha2, by clear ha ha2 hn; grind⟩, rfl⟩
            · refine TriL.g1 rfl (ltb rfl) rfl hg11 (op_mv (ltb rfl) rfl) ?_
              refine TriL.g1 rfl (ltb rfl) rfl hg11 (op_lenl (ltb rfl) un67_M4 rfl) ?_
              refine TriL.g1 rfl (ltb rfl) rfl hg11 (op_bin (ltb rfl) rfl rfl rfl) ?_
              refine TriL.g1 rfl (ltb rfl) rfl hg11 (op_mv (ltb rfl) rfl) ?_
              refine TriL.split (d := 125) rfl (fun hg12 => ?_) (fun hg12 => ?_)
              · refine TriL.g1 rfl (ltb rfl) rfl hg12 (op_mv (ltb rfl) rfl) ?_
                refine TriL.g1 rfl (ltb rfl) rfl hg12 (op_iak (ltb rfl) ie67_M4 rfl rfl (by decide) (ixm (i := 0) (by have := of_decide_eq_true hg12; rw [List.length_map] at this; omega)) rfl) ?_
                refine TriL.g1 rfl (ltb rfl) rfl hg12 (op_ldk (ltb rfl) lk3_M4 rfl rfl) ?_
                refine TriL.g1 rfl (ltb rfl) rfl hg12 (op_bin (ltb rfl) rfl rfl rfl) ?_
                refine TriL.g1 rfl (ltb rfl) rfl hg12 (op_mv (ltb rfl) rfl) ?_
                refine TriL.split (d := 130) rfl (fun hg13 => ?_) (fun hg13 => ?_)
                · refine TriL.skipu rfl rfl (ltb rfl) (ltb rfl) rfl hg13 ?_
                  refine TriL.skipu rfl rfl (ltb rfl) (ltb rfl) rfl hg13 ?_
                  refine TriL.skipu rfl rfl (ltb rfl) (ltb rfl) rfl hg13 ?_
                  refine TriL.skipu rfl rfl (ltb rfl) (ltb rfl) rfl hg13 ?_
                  refine TriL.skipu rfl rfl (ltb rfl) (ltb rfl) rfl hg13 ?_
                  refine TriL.skipu rfl rfl (ltb rfl) (ltb rfl) rfl hg13 ?_
                  refine TriL.skipu rfl rfl (ltb rfl) (ltb rfl) rfl hg13 ?_
                  refine TriL.g1 rfl (ltb rfl) rfl hg12 (op_pickt (ltb rfl) rfl hg13 rfl) ?_
                  refine TriL.g1 rfl (ltb rfl) rfl hg11 (op_pickt (ltb rfl) rfl hg12 rfl) ?_
                  refine TriL.c1 rfl (op_pickf (ltb rfl) rfl hg11 rfl) ?_
                  refine TriL.c1 rfl (op_as (ltb rfl) rfl) ?_
                  refine TriL.nil ?_
                  refine Tri.region ?_
                  refine TriL.c1 rfl (op_mv (ltb rfl) rfl) ?_
                  refine TriL.c1 rfl (op_bin (ltb rfl) rfl rfl rfl) ?_
                  refine TriL.c1 rfl (op_as (ltb rfl) rfl) ?_
                  refine TriL.kept (Kept.seti 8 rfl (inc (by omega)) (Kept.keep [.s 8, .s 3, .s 4, .t 79, .h, .s 1, .b 1] rfl (by decide) (Kept.now ?_)))
                  exact ⟨(i + 1, _, _), (by dsimp only; omega), ⟨ha2, by clear ha ha2 hn; grind⟩, rfl⟩
                · refine TriL.g1 rfl (ltb rfl) rfl hg13 (op_mv (ltb rfl) rfl) ?_
                  refine TriL.g1 rfl (ltb rfl) rfl hg13 (op_mv (ltb rfl) rfl) ?_
                  refine TriL.g1 rfl (ltb rfl) rfl hg13 (op_lenl (ltb rfl) un67_M4 rfl) ?_
                  refine TriL.g1 rfl (ltb rfl) rfl hg13 (op_bin (ltb rfl) rfl rfl rfl) ?_
                  refine TriL.g1 rfl (ltb rfl) rfl hg13 (op_iak (ltb rfl) ie67_M4 rfl rfl (by rw [List.length_map, dec1 (by have := of_decide_eq_true hg12; rw [List.length_map] at this; omega) (by omega)]; exact Int.natCast_nonneg _) (ixm1 (i := (s.msgs[i]'hi).barred.length - 1) (by rw [List.length_map]; exact dec1 (by have := of_decide_eq_true hg12; rw [List.length_map] at this; omega) (by omega)) (by have := of_decide_eq_true hg12; rw [List.length_map] at this; omega)) rfl) ?_
                  refine TriL.g1 rfl (ltb rfl) rfl hg13 (op_ldk (ltb rfl) lk3_M4 rfl rfl) ?_
                  refine TriL.g1 rfl (ltb rfl) rfl hg13 (op_bin (ltb rfl) rfl rfl rfl) ?_
                  refine TriL.g1 rfl (ltb rfl) rfl hg12 (op_pickf (ltb rfl) rfl hg13 rfl) ?_
                  refine TriL.g1 rfl (ltb rfl) rfl hg11 (op_pickt (ltb rfl) rfl hg12 rfl) ?_
                  refine TriL.c1 rfl (op_pickf (ltb rfl) rfl hg11 rfl) ?_
                  refine TriL.c1 rfl (op_as (ltb rfl) rfl) ?_
                  refine TriL.nil ?_
                  refine Tri.region ?_
                  refine TriL.c1 rfl (op_mv (ltb rfl) rfl) ?_
                  refine TriL.c1 rfl (op_bin (ltb rfl) rfl rfl rfl) ?_
                  refine TriL.c1 rfl (op_as (ltb rfl) rfl) ?_
                  refine TriL.kept (Kept.seti 8 rfl (inc (by omega)) (Kept.keep [.s 8, .s 3, .s 4, .t 79, .h, .s 1, .b 1] rfl (by decide) (Kept.now ?_)))
                  exact ⟨(i + 1, _, _), (by dsimp only; omega), ⟨ha2, by clear ha ha2 hn; grind⟩, rfl⟩
              · refine TriL.skipu rfl rfl (ltb rfl) (ltb rfl) rfl hg12 ?_
                refine TriL.skipu rfl rfl (ltb rfl) (ltb rfl) rfl hg12 ?_
                refine TriL.skipu rfl rfl (ltb rfl) (ltb rfl) rfl hg12 ?_
                refine TriL.skipu rfl rfl (ltb rfl) (ltb rfl) rfl hg12 ?_
                refine TriL.skipu rfl rfl (ltb rfl) (ltb rfl) rfl hg12 ?_
                refine TriL.skipg rfl rfl (ltb rfl) (ltb rfl) rfl ?_
                refine TriL.skipg rfl rfl (ltb rfl) (ltb rfl) rfl ?_
                refine TriL.skipg rfl rfl (ltb rfl) (ltb rfl) rfl ?_
                refine TriL.skipg rfl rfl (ltb rfl) (ltb rfl) rfl ?_
                refine TriL.skipg rfl rfl (ltb rfl) (ltb rfl) rfl ?_
                refine TriL.skipg rfl rfl (ltb rfl) (ltb rfl) rfl ?_
                refine TriL.skipg rfl rfl (ltb rfl) (ltb rfl) rfl ?_
                refine TriL.skipu rfl rfl (ltb rfl) (ltb rfl) rfl hg12 ?_
                refine TriL.g1 rfl (ltb rfl) rfl hg11 (op_pickf (ltb rfl) rfl hg12 rfl) ?_
                refine TriL.c1 rfl (op_pickf (ltb rfl) rfl hg11 rfl) ?_
                refine TriL.c1 rfl (op_as (ltb rfl) rfl) ?_
                refine TriL.nil ?_
                refine Tri.region ?_
                refine TriL.c1 rfl (op_mv (ltb rfl) rfl) ?_
                refine TriL.c1 rfl (op_bin (ltb rfl) rfl rfl rfl) ?_
                refine TriL.c1 rfl (op_as (ltb rfl) rfl) ?_
                refine TriL.kept (Kept.seti 8 rfl (inc (by omega)) (Kept.keep [.s 8, .s 3, .s 4, .t 79, .h, .s 1, .b 1] rfl (by decide) (Kept.now ?_)))
                exact ⟨(i + 1, _, _), (by dsimp only; omega), ⟨ha2, by clear ha ha2 hn; grind⟩, rfl⟩
      · have hi := gem hc7
        have hS := any_end (p := Msg.order) hi
        have hT := take_end hi
        refine Tri.exit ?_
        refine Tri.seq ?_
        refine Tri.region ?_
        refine TriL.c1 rfl (op_mv (ltb rfl) rfl) ?_
        refine TriL.c1 rfl (op_mv (ltb rfl) rfl) ?_
        refine TriL.split (d := 142) rfl (fun hg14 => ?_) (fun hg14 => ?_)
        · refine TriL.skipu rfl rfl (ltb rfl) (ltb rfl) rfl hg14 ?_
          refine TriL.skipu rfl rfl (ltb rfl) (ltb rfl) rfl hg14 ?_
          refine TriL.skipu rfl rfl (ltb rfl) (ltb rfl) rfl hg14 ?_
          refine TriL.c1 rfl (op_pickt (ltb rfl) rfl hg14 rfl) ?_
          refine TriL.c1 rfl (op_as (ltb rfl) rfl) ?_
          refine TriL.nil ?_
          refine Tri.ret ?_
          exact ⟨.inr rfl, (ResOK.r1 rfl (.tmp rfl .nil)).cast (congrArg AV.bool (by grind [Sch.order])), rfl⟩
        · refine TriL.g1 rfl (ltb rfl) rfl hg14 (op_mv (ltb rfl) rfl) ?_
          refine TriL.g1 rfl (ltb rfl) rfl hg14 (op_call (ltb rfl) fn73_M4 rfl ((r_riseS ((s.msgs.drop 1).map (·.name)) (by simp; omega)).at (by rw [ha, hT]; simp [Function.comp_def]))) ?_
          refine TriL.g1 rfl (ltb rfl) rfl hg14 (op_un (ltb rfl) rfl rfl) ?_
          refine TriL.c1 rfl (op_pickf (ltb rfl) rfl hg14 rfl) ?_
          refine TriL.c1 rfl (op_as (ltb rfl) rfl) ?_
          refine TriL.nil ?_
          refine Tri.ret ?_
          exact ⟨.inr rfl, (ResOK.r1 rfl (.tmp rfl .nil)).cast (congrArg AV.bool (by grind [Sch.order])), rfl⟩
end Go.Proofs.YtnpgcmeclkncnaaGreatDoor.X
/- the document: a schema checked; values: how great, the same, how deep. -/
set_option linter.unusedVariables false
set_option linter.unusedSimpArgs false
set_option linter.unusedSectionVars false
set_option maxRecDepth 100000
namespace Go.Proofs.YtnpgcmeclkncnaaGreatDoor.X
open Go Go.RowKit Go.Proofs
theorem fn36_M5 : isFn Tryz.prog 36 = true := by kernel_rfl
theorem fn37_M5 : isFn Tryz.prog 37 = true := by kernel_rfl
theorem fn38_M5 : isFn Tryz.prog 38 = true := by kernel_rfl
theorem fn39_M5 : isFn Tryz.prog 39 = true := by kernel_rfl
theorem fn40_M5 : isFn Tryz.prog 40 = true := by kernel_rfl
theorem fn41_M5 : isFn Tryz.prog 41 = true := by kernel_rfl
theorem fn42_M5 : isFn Tryz.prog 42 = true := by kernel_rfl
theorem fn43_M5 : isFn Tryz.prog 43 = true := by kernel_rfl
theorem fn44_M5 : isFn Tryz.prog 44 = true := by kernel_rfl
theorem fo131_3_M5 : fo Tryz.prog 131 3 = some 3 := by kernel_rfl
theorem fo32_0_M5 : fo Tryz.prog 32 0 = some 0 := by kernel_rfl
theorem fo32_1_M5 : fo Tryz.prog 32 1 = some 1 := by kernel_rfl
theorem fo83_1_M5 : fo Tryz.prog 83 1 = some 1 := by kernel_rfl
theorem fo86_1_M5 : fo Tryz.prog 86 1 = some 1 := by kernel_rfl
theorem fo86_2_M5 : fo Tryz.prog 86 2 = some 2 := by kernel_rfl
theorem ie29_M5 : ie Tryz.prog 29 = some 2 := by kernel_rfl
theorem ie30_M5 : ie Tryz.prog 30 = some 4 := by kernel_rfl
theorem ie63_M5 : ie Tryz.prog 63 = some 2 := by kernel_rfl
theorem ie81_M5 : ie Tryz.prog 81 = some 3 := by kernel_rfl
theorem lk25_M5 : lk Tryz.prog 25 = some (true, 2) := by kernel_rfl
theorem lk29_M5 : lk Tryz.prog 29 = some (false, 1) := by kernel_rfl
theorem lk30_M5 : lk Tryz.prog 30 = some (false, 1) := by kernel_rfl
theorem lk32_M5 : lk Tryz.prog 32 = some (true, 2) := by kernel_rfl
theorem lk63_M5 : lk Tryz.prog 63 = some (false, 1) := by kernel_rfl
theorem lk81_M5 : lk Tryz.prog 81 = some (false, 1) := by kernel_rfl
theorem lk9_M5 : lk Tryz.prog 9 = some (false, 1) := by kernel_rfl
theorem un29_M5 : Tryz.prog.underlying 29 = some (TypeDesc.slice 83) := Tryz.underlying29
theorem un30_M5 : Tryz.prog.underlying 30 = some (TypeDesc.slice 131) := Tryz.underlying30
theorem un63_M5 : Tryz.prog.underlying 63 = some (TypeDesc.slice 32) := Tryz.underlying63
theorem un81_M5 : Tryz.prog.underlying 81 = some (TypeDesc.slice 86) := Tryz.underlying81
theorem un9_M5 : Tryz.prog.underlying 9 = some TypeDesc.string := Tryz.underlying9
theorem r_chk (s : Sch) (hs : s.big) : Pure Tryz.prog 21 [s.av] (.int .i64 s.chk) := by
  refine Pure.of_tri Tryz.func21 rfl rfl (ltb rfl) fun H => ?_
  refine Tri.seq ?_
  refine Tri.region ?_
  refine TriL.c2 rfl (op_box (ltb rfl) rfl rfl rfl) ?_
  refine TriL.c1 rfl (op_as (ltb rfl) rfl) ?_
  refine TriL.nil ?_
  refine Tri.seq ?_
  refine Tri.seq ?_
  refine Tri.region ?_
  refine TriL.c1 rfl (op_ldl (ltb rfl) lk25_M5 rfl rfl rfl) ?_
  refine TriL.c1 rfl (op_call (ltb rfl) fn36_M5 rfl (r_many _ hs)) ?_
  refine TriL.nil ?_
  refine Tri.cond rfl (fun hc1 => ?_) (fun hc1 => ?_)
  · refine Tri.seq ?_
    refine Tri.region ?_
    refine TriL.c1 rfl (op_as (ltb rfl) rfl) ?_
    refine TriL.nil ?_
    refine Tri.ret ?_
    exact ⟨.inr rfl, (ResOK.r1 rfl (.tmp rfl .nil)).cast (congrArg (AV.int .i64) (by grind [Sch.chk])), rfl⟩
  · have hs2 := Sch.sm_of hc1
    refine Tri.skip ?_
    refine Tri.seq ?_
    refine Tri.seq ?_
    refine Tri.region ?_
    refine TriL.c1 rfl (op_ldl (ltb rfl) lk25_M5 rfl rfl rfl) ?_
    refine TriL.c1 rfl (op_call (ltb rfl) fn37_M5 rfl (r_none _ hs2)) ?_
    refine TriL.nil ?_
    refine Tri.cond rfl (fun hc2 => ?_) (fun hc2 => ?_)
    · refine Tri.seq ?_
      refine Tri.region ?_
      refine TriL.c1 rfl (op_as (ltb rfl) rfl) ?_
      refine TriL.nil ?_
      refine Tri.ret ?_
      exact ⟨.inr rfl, (ResOK.r1 rfl (.tmp rfl .nil)).cast (congrArg (AV.int .i64) (by grind [Sch.chk])), rfl⟩
    · have hn2 := (Sch.none_of hc2).2
      refine Tri.skip ?_
      refine Tri.seq ?_
      refine Tri.seq ?_
      refine Tri.region ?_
      refine TriL.c1 rfl (op_ldl (ltb rfl) lk25_M5 rfl rfl rfl) ?_
      refine TriL.c1 rfl (op_call (ltb rfl) fn38_M5 rfl (r_text _ hs2)) ?_
      refine TriL.nil ?_
      refine Tri.cond rfl (fun hc3 => ?_) (fun hc3 => ?_)
      · refine Tri.seq ?_
        refine Tri.region ?_
        refine TriL.c1 rfl (op_as (ltb rfl) rfl) ?_
        refine TriL.nil ?_
        refine Tri.ret ?_
        exact ⟨.inr rfl, (ResOK.r1 rfl (.tmp rfl .nil)).cast (congrArg (AV.int .i64) (by grind [Sch.chk])), rfl⟩
      · refine Tri.skip ?_
        refine Tri.seq ?_
        refine Tri.seq ?_
        refine Tri.region ?_
        refine TriL.c1 rfl (op_ldl (ltb rfl) lk25_M5 rfl rfl rfl) ?_
        refine TriL.c1 rfl (op_call (ltb rfl) fn39_M5 rfl (r_fields _ hs2)) ?_
        refine TriL.c1 rfl (op_as (ltb rfl) rfl) ?_
        refine TriL.nil ?_
        refine Tri.seq ?_
        refine Tri.region ?_
        refine TriL.c1 rfl (op_mv (ltb rfl) rfl) ?_
        refine TriL.c1 rfl (op_bin (ltb rfl) rfl rfl rfl) ?_
        refine TriL.nil ?_
        refine Tri.cond rfl (fun hc4 => ?_) (fun hc4 => ?_)
        · refine Tri.seq ?_
          refine Tri.region ?_
          refine TriL.c1 rfl (op_mv (ltb rfl) rfl) ?_
          refine TriL.c1 rfl (op_as (ltb rfl) rfl) ?_
          refine TriL.nil ?_
          refine Tri.ret ?_
          exact ⟨.inr rfl, (ResOK.r1 rfl (.tmp rfl .nil)).cast (congrArg (AV.int .i64) (by grind [Sch.chk])), rfl⟩
        · refine Tri.skip ?_
          refine Tri.seq ?_
          refine Tri.seq ?_
          refine Tri.region ?_
          refine TriL.c1 rfl (op_ldl (ltb rfl) lk25_M5 rfl rfl rfl) ?_
          refine TriL.c1 rfl (op_call (ltb rfl) fn40_M5 rfl (r_twice _ hs2)) ?_
          refine TriL.nil ?_
          refine Tri.cond rfl (fun hc5 => ?_) (fun hc5 => ?_)
          · refine Tri.seq ?_
            refine Tri.region ?_
            refine TriL.c1 rfl (op_as (ltb rfl) rfl) ?_
            refine TriL.nil ?_
            refine Tri.ret ?_
            exact ⟨.inr rfl, (ResOK.r1 rfl (.tmp rfl .nil)).cast (congrArg (AV.int .i64) (by grind [Sch.chk])), rfl⟩
          · refine Tri.skip ?_
            refine Tri.seq ?_
            refine Tri.seq ?_
            refine Tri.region ?_
            refine TriL.c1 rfl (op_ldl (ltb rfl) lk25_M5 rfl rfl rfl) ?_
            refine TriL.c1 rfl (op_call (ltb rfl) fn41_M5 rfl (r_order _ hs2 hn2)) ?_
            refine TriL.nil ?_
            refine Tri.cond rfl (fun hc6 => ?_) (fun hc6 => ?_)
            · refine Tri.seq ?_
              refine Tri.region ?_
              refine TriL.c1 rfl (op_as (ltb rfl) rfl) ?_
              refine TriL.nil ?_
              refine Tri.ret ?_
              exact ⟨.inr rfl, (ResOK.r1 rfl (.tmp rfl .nil)).cast (congrArg (AV.int .i64) (by grind [Sch.chk])), rfl⟩
            · refine Tri.skip ?_
              refine Tri.seq ?_
              refine Tri.seq ?_
              refine Tri.region ?_
              refine TriL.c1 rfl (op_ldl (ltb rfl) lk25_M5 rfl rfl rfl) ?_
              refine TriL.c1 rfl (op_call (ltb rfl) fn42_M5 rfl (r_barred _ hs2)) ?_
              refine TriL.nil ?_
              refine Tri.cond rfl (fun hc7 => ?_) (fun hc7 => ?_)
              · refine Tri.seq ?_
                refine Tri.region ?_
                refine TriL.c1 rfl (op_as (ltb rfl) rfl) ?_
                refine TriL.nil ?_
                refine Tri.ret ?_
                exact ⟨.inr rfl, (ResOK.r1 rfl (.tmp rfl .nil)).cast (congrArg (AV.int .i64) (by grind [Sch.chk])), rfl⟩
              · refine Tri.skip ?_
                refine Tri.seq ?_
                refine Tri.seq ?_
                refine Tri.region ?_
                refine TriL.c1 rfl (op_ldl (ltb rfl) lk25_M5 rfl rfl rfl) ?_
                refine TriL.c1 rfl (op_call (ltb rfl) fn43_M5 rfl (r_refs _ hs2)) ?_
                refine TriL.nil ?_
                refine Tri.cond rfl (fun hc8 => ?_) (fun hc8 => ?_)
                · refine Tri.seq ?_
                  refine Tri.region ?_
                  refine TriL.c1 rfl (op_as (ltb rfl) rfl) ?_
                  refine TriL.nil ?_
                  refine Tri.ret ?_
                  exact ⟨.inr rfl, (ResOK.r1 rfl (.tmp rfl .nil)).cast (congrArg (AV.int .i64) (by grind [Sch.chk])), rfl⟩
                · refine Tri.skip ?_
                  refine Tri.seq ?_
                  refine Tri.region ?_
                  refine TriL.c1 rfl (op_as (ltb rfl) rfl) ?_
                  refine TriL.nil ?_
                  refine Tri.ret ?_
                  exact ⟨.inr rfl, (ResOK.r1 rfl (.tmp rfl .nil)).cast (congrArg (AV.int .i64) (by grind [Sch.chk])), rfl⟩
theorem r_left1 (t : Tree) (hb : t.big) (ih : ∀ x ∈ t.slots, ∀ v ∈ x.vals, ∀ u ∈ v.m, ∀ n d : Int, Pure Tryz.prog 44 [.agg u.cells, .int .i64 n, .int .i64 d] (.int .i64 (u.left n d))) (n d : Int) : Pure Tryz.prog 44 [.agg t.cells, .int .i64 n, .int .i64 d] (.int .i64 (t.left n d)) := by
  have hb1 := hb.here.s
  have hb2 := hb.here.r
  refine Pure.of_tri Tryz.func44 rfl rfl (ltb rfl) fun H => ?_
  refine Tri.seq ?_
  refine Tri.region ?_
  refine TriL.c2 rfl (op_box (ltb rfl) rfl rfl rfl) ?_
  refine TriL.c1 rfl (op_as (ltb rfl) rfl) ?_
  refine TriL.nil ?_
  refine Tri.seq ?_
  refine Tri.region ?_
  refine TriL.c1 rfl (op_mv (ltb rfl) rfl) ?_
  refine TriL.c1 rfl (op_fal (ltb rfl) fo32_1_M5 rfl) ?_
  refine TriL.c1 rfl (op_ldl (ltb rfl) lk30_M5 rfl rfl rfl) ?_
  refine TriL.c1 rfl (op_lenl (ltb rfl) un30_M5 rfl) ?_
  refine TriL.c1 rfl (op_bin (ltb rfl) rfl rfl rfl) ?_
  refine TriL.c1 rfl (op_fal (ltb rfl) fo32_0_M5 rfl) ?_
  refine TriL.c1 rfl (op_ldl (ltb rfl) lk29_M5 rfl rfl rfl) ?_
  refine TriL.c1 rfl (op_lenl (ltb rfl) un29_M5 rfl) ?_
  refine TriL.c1 rfl (op_bin (ltb rfl) rfl rfl rfl) ?_
  refine TriL.c1 rfl (op_as (ltb rfl) rfl) ?_
  refine TriL.nil ?_
  refine Tri.seq ?_
  refine Tri.seq ?_
  refine Tri.region ?_
  refine TriL.c1 rfl (op_mv (ltb rfl) rfl) ?_
  refine TriL.c1 rfl (op_bin (ltb rfl) rfl rfl rfl) ?_
  refine TriL.nil ?_
  refine Tri.cond rfl (fun hc1 => ?_) (fun hc1 => ?_)
  · refine Tri.seq ?_
    refine Tri.region ?_
    refine TriL.c1 rfl (op_as (ltb rfl) rfl) ?_
    refine TriL.nil ?_
    refine Tri.ret ?_
    exact ⟨.inr rfl, (ResOK.r1 rfl (.tmp rfl .nil)).cast (congrArg (AV.int .i64) (by grind [Tree.left_eq, leftS_neg, leftV_neg, leftT_neg, leftR_neg])), rfl⟩
  · refine Tri.skip ?_
    refine Tri.joinu [.h, .s 2, .s 3, .b 3] (fun (m : Int) => [(.s 1, .sv (.v (.int .i64 m)))]) (fun (m : Int) => m = leftR t.rest (w64 (w64 (n - (t.rest.length : Int)) - (t.slots.length : Int)))) rfl ?_ ?_
    · refine Tri.seq ?_
      refine Tri.region ?_
      refine TriL.c1 rfl (op_as (ltb rfl) rfl) ?_
      refine TriL.nil ?_
      refine Tri.blk ?_
      refine Tri.ofKept (Kept.keep [.s 7, .s 1, .h, .s 2, .s 3, .b 3] rfl (by decide) (Kept.now ?_))
      -- LOOP 1
      refine Tri.loopk (fun ((i, m) : Nat × Int) => [(.s 7, .sv (.v (.int .i64 (i : Int)))), (.s 1, .sv (.v (.int .i64 m)))]) _ (fun ((i, m) : Nat × Int) => leftR (t.rest.drop i) m = leftR t.rest (w64 (w64 (n - (t.rest.length : Int)) - (t.slots.length : Int)))) (fun ((i, m) : Nat × Int) => t.rest.length - i) (0, _) rfl (by simp) ?_
      rintro ⟨i, m⟩ hI
      refine Tri.seq ?_
      refine Tri.seq ?_
      refine Tri.region ?_
      refine TriL.c1 rfl (op_mv (ltb rfl) rfl) ?_
      refine TriL.c1 rfl (op_fal (ltb rfl) fo32_1_M5 rfl) ?_
      refine TriL.c1 rfl (op_ldl (ltb rfl) lk30_M5 rfl rfl rfl) ?_
      refine TriL.c1 rfl (op_lenl (ltb rfl) un30_M5 rfl) ?_
      refine TriL.c1 rfl (op_bin (ltb rfl) rfl rfl rfl) ?_
      refine TriL.c1 rfl (op_mv (ltb rfl) rfl) ?_
      refine TriL.split (d := 27) rfl (fun hg2 => ?_) (fun hg2 => ?_)
      · have hi := ltm hg2
        have hS := @leftR_step t.rest i m hi
        refine TriL.g1 rfl (ltb rfl) rfl hg2 (op_mv (ltb rfl) rfl) ?_
        refine TriL.g1 rfl (ltb rfl) rfl hg2 (op_bin (ltb rfl) rfl rfl rfl) ?_
        refine TriL.c1 rfl (op_pickt (ltb rfl) rfl hg2 rfl) ?_
        refine TriL.nil ?_
        refine Tri.cond rfl (fun hc3 => ?_) (fun hc3 => ?_)
        · refine Tri.skip ?_
          refine Tri.seq ?_
          refine Tri.blk ?_
          refine Tri.region ?_
          refine TriL.c1 rfl (op_mv (ltb rfl) rfl) ?_
          refine TriL.c1 rfl (op_fal (ltb rfl) fo32_1_M5 rfl) ?_
          refine TriL.c1 rfl (op_ldl (ltb rfl) lk30_M5 rfl rfl rfl) ?_
          refine TriL.c1 rfl (op_mv (ltb rfl) rfl) ?_
          refine TriL.c1 rfl (op_iak (ltb rfl) ie30_M5 rfl rfl (Int.natCast_nonneg _) (ixm hi) rfl) ?_
          refine TriL.c1 rfl (op_fak (ltb rfl) fo131_3_M5 rfl) ?_
          refine TriL.c1 rfl (op_ldk (ltb rfl) lk9_M5 rfl rfl) ?_
          refine TriL.c1 rfl (op_lens (ltb rfl) un9_M5 rfl) ?_
          refine TriL.c1 rfl (op_bin (ltb rfl) rfl rfl rfl) ?_
          refine TriL.c1 rfl (op_bin (ltb rfl) rfl rfl rfl) ?_
          refine TriL.c1 rfl (op_as (ltb rfl) rfl) ?_
          refine TriL.nil ?_
          refine Tri.region ?_
          refine TriL.c1 rfl (op_mv (ltb rfl) rfl) ?_
          refine TriL.c1 rfl (op_bin (ltb rfl) rfl rfl rfl) ?_
          refine TriL.c1 rfl (op_as (ltb rfl) rfl) ?_
          refine TriL.kept (Kept.seti 7 rfl (inc (by omega)) (Kept.keep [.s 7, .s 1, .h, .s 2, .s 3, .b 3] rfl (by decide) (Kept.now ?_)))
          exact ⟨(i + 1, _), (by dsimp only; omega), by grind, rfl⟩
        · refine Tri.ofKept (Kept.keep [.s 1, .h, .s 2, .s 3, .b 3] rfl (by decide) (Kept.now ?_))
          refine Tri.exit ?_
          exact ⟨_, by grind [leftR_neg], rfl⟩
      · have hi := gem hg2
        have hS := @leftR_end t.rest i m hi
        refine TriL.skipu rfl rfl (ltb rfl) (ltb rfl) rfl hg2 ?_
        refine TriL.skipu rfl rfl (ltb rfl) (ltb rfl) rfl hg2 ?_
        refine TriL.c1 rfl (op_pickf (ltb rfl) rfl hg2 rfl) ?_
        refine TriL.nil ?_
        refine Tri.condF rfl rfl ?_
        refine Tri.ofKept (Kept.keep [.s 1, .h, .s 2, .s 3, .b 3] rfl (by decide) (Kept.now ?_))
        refine Tri.exit ?_
        exact ⟨_, by grind [leftR_neg], rfl⟩
    · rintro m hF8
      refine Tri.seq ?_
      refine Tri.seq ?_
      refine Tri.region ?_
      refine TriL.c1 rfl (op_as (ltb rfl) rfl) ?_
      refine TriL.nil ?_
      refine Tri.blk ?_
      refine Tri.ofKept (Kept.keep [.s 8, .s 1, .h, .s 2, .s 3, .b 3] rfl (by decide) (Kept.now ?_))
      -- LOOP 2
      refine Tri.loopk (fun ((j, m) : Nat × Int) => [(.s 8, .sv (.v (.int .i64 (j : Int)))), (.s 1, .sv (.v (.int .i64 m)))]) _ (fun ((j, m) : Nat × Int) => leftS (t.slots.drop j) m d = t.left n d) (fun ((j, m) : Nat × Int) => t.slots.length - j) (0, _) rfl (by rw [Tree.left_eq, if_neg (by have := of_decide_eq_false hc1; omega)]; grind) ?_
      rintro ⟨j, m⟩ hI
      refine Tri.seq ?_
      refine Tri.seq ?_
      refine Tri.region ?_
      refine TriL.c1 rfl (op_mv (ltb rfl) rfl) ?_
      refine TriL.c1 rfl (op_fal (ltb rfl) fo32_0_M5 rfl) ?_
      refine TriL.c1 rfl (op_ldl (ltb rfl) lk29_M5 rfl rfl rfl) ?_
      refine TriL.c1 rfl (op_lenl (ltb rfl) un29_M5 rfl) ?_
      refine TriL.c1 rfl (op_bin (ltb rfl) rfl rfl rfl) ?_
      refine TriL.c1 rfl (op_mv (ltb rfl) rfl) ?_
      refine TriL.split (d := 48) rfl (fun hg4 => ?_) (fun hg4 => ?_)
      · have hj := ltm hg4
        have hS := @leftS_step t.slots j m d hj
        have hSl := Slot.left_eq (t.slots[j]'hj) m d
        have hv := hb.here.v _ (List.getElem_mem hj)
        refine TriL.g1 rfl (ltb rfl) rfl hg4 (op_mv (ltb rfl) rfl) ?_
        refine TriL.g1 rfl (ltb rfl) rfl hg4 (op_bin (ltb rfl) rfl rfl rfl) ?_
        refine TriL.c1 rfl (op_pickt (ltb rfl) rfl hg4 rfl) ?_
        refine TriL.nil ?_
        refine Tri.cond rfl (fun hc5 => ?_) (fun hc5 => ?_)
        · refine Tri.skip ?_
          refine Tri.seq ?_
          refine Tri.blk ?_
          refine Tri.seq ?_
          refine Tri.region ?_
          refine TriL.c1 rfl (op_mv (ltb rfl) rfl) ?_
          refine TriL.c1 rfl (op_fal (ltb rfl) fo32_0_M5 rfl) ?_
          refine TriL.c1 rfl (op_ldl (ltb rfl) lk29_M5 rfl rfl rfl) ?_
          refine TriL.c1 rfl (op_mv (ltb rfl) rfl) ?_
          refine TriL.c1 rfl (op_iak (ltb rfl) ie29_M5 rfl rfl (Int.natCast_nonneg _) (ixmE Slot.av_eq hj) rfl) ?_
          refine TriL.c1 rfl (op_fak (ltb rfl) fo83_1_M5 rfl) ?_
          refine TriL.c1 rfl (op_ldk (ltb rfl) lk81_M5 rfl rfl) ?_
          refine TriL.c1 rfl (op_lenl (ltb rfl) un81_M5 rfl) ?_
          refine TriL.c1 rfl (op_bin (ltb rfl) rfl rfl rfl) ?_
          refine TriL.c1 rfl (op_as (ltb rfl) rfl) ?_
          refine TriL.nil ?_
          refine Tri.seq ?_
          refine Tri.region ?_
          refine TriL.c1 rfl (op_as (ltb rfl) rfl) ?_
          refine TriL.nil ?_
          refine Tri.blk ?_
          refine Tri.ofKept (Kept.keep [.s 9, .s 1, .h, .s 2, .s 3, .b 3, .s 8] rfl (by decide) (Kept.now ?_))
          -- LOOP 3
          refine Tri.loopk (fun ((k, p) : Nat × Int) => [(.s 9, .sv (.v (.int .i64 (k : Int)))), (.s 1, .sv (.v (.int .i64 p)))]) _ (fun ((k, p) : Nat × Int) => leftV ((t.slots[j]'hj).vals.drop k) p d = (t.slots[j]'hj).left m d) (fun ((k, p) : Nat × Int) => (t.slots[j]'hj).vals.length - k) (0, _) rfl (by rw [hSl]; simp) ?_
          rintro ⟨k, p⟩ hI
          refine Tri.seq ?_
          refine Tri.seq ?_
          refine Tri.region ?_
          refine TriL.c1 rfl (op_mv (ltb rfl) rfl) ?_
          refine TriL.c1 rfl (op_fal (ltb rfl) fo32_0_M5 rfl) ?_
          refine TriL.c1 rfl (op_ldl (ltb rfl) lk29_M5 rfl rfl rfl) ?_
          refine TriL.c1 rfl (op_mv (ltb rfl) rfl) ?_
          refine TriL.c1 rfl (op_iak (ltb rfl) ie29_M5 rfl rfl (Int.natCast_nonneg _) (ixmE Slot.av_eq hj) rfl) ?_
          refine TriL.c1 rfl (op_fak (ltb rfl) fo83_1_M5 rfl) ?_
          refine TriL.c1 rfl (op_ldk (ltb rfl) lk81_M5 rfl rfl) ?_
          refine TriL.c1 rfl (op_lenl (ltb rfl) un81_M5 rfl) ?_
          refine TriL.c1 rfl (op_bin (ltb rfl) rfl rfl rfl) ?_
          refine TriL.c1 rfl (op_mv (ltb rfl) rfl) ?_
          refine TriL.split (d := 72) rfl (fun hg6 => ?_) (fun hg6 => ?_)
          · have hk := ltm hg6
            have hT := @leftV_step (t.slots[j]'hj).vals k p d hk
            have hVl := Val.left_eq ((t.slots[j]'hj).vals[k]'hk) p d
            have hm := hb.here.m _ (List.getElem_mem hj) _ (List.getElem_mem hk)
            refine TriL.g1 rfl (ltb rfl) rfl hg6 (op_mv (ltb rfl) rfl) ?_
            refine TriL.g1 rfl (ltb rfl) rfl hg6 (op_bin (ltb rfl) rfl rfl rfl) ?_
            refine TriL.c1 rfl (op_pickt (ltb rfl) rfl hg6 rfl) ?_
            refine TriL.nil ?_
            refine Tri.cond rfl (fun hc7 => ?_) (fun hc7 => ?_)
            · refine Tri.skip ?_
              refine Tri.seq ?_
              refine Tri.blk ?_
              refine Tri.seq ?_
              refine Tri.region ?_
              refine TriL.c1 rfl (op_mv (ltb rfl) rfl) ?_
              refine TriL.c1 rfl (op_fal (ltb rfl) fo32_0_M5 rfl) ?_
              refine TriL.c1 rfl (op_ldl (ltb rfl) lk29_M5 rfl rfl rfl) ?_
              refine TriL.c1 rfl (op_mv (ltb rfl) rfl) ?_
              refine TriL.c1 rfl (op_iak (ltb rfl) ie29_M5 rfl rfl (Int.natCast_nonneg _) (ixmE Slot.av_eq hj) rfl) ?_
              refine TriL.c1 rfl (op_fak (ltb rfl) fo83_1_M5 rfl) ?_
              refine TriL.c1 rfl (op_ldk (ltb rfl) lk81_M5 rfl rfl) ?_
              refine TriL.c1 rfl (op_mv (ltb rfl) rfl) ?_
              refine TriL.c1 rfl (op_iak (ltb rfl) ie81_M5 rfl rfl (Int.natCast_nonneg _) (ixmE Val.av_eq hk) rfl) ?_
              refine TriL.c1 rfl (op_fak (ltb rfl) fo86_1_M5 rfl) ?_
              refine TriL.c1 rfl (op_ldk (ltb rfl) lk9_M5 rfl rfl) ?_
              refine TriL.c1 rfl (op_lens (ltb rfl) un9_M5 rfl) ?_
              refine TriL.c1 rfl (op_bin (ltb rfl) rfl rfl rfl) ?_
              refine TriL.c1 rfl (op_bin (ltb rfl) rfl rfl rfl) ?_
              refine TriL.c1 rfl (op_as (ltb rfl) rfl) ?_
              refine TriL.nil ?_
              refine Tri.seq ?_
              refine Tri.region ?_
              refine TriL.c1 rfl (op_as (ltb rfl) rfl) ?_
              refine TriL.nil ?_
              refine Tri.blk ?_
              refine Tri.ofKept (Kept.keep [.s 10, .s 1, .h, .s 2, .s 3, .b 3, .s 8, .s 9] rfl (by decide) (Kept.now ?_))
              -- LOOP 4
              refine Tri.loopk (fun ((l, q) : Nat × Int) => [(.s 10, .sv (.v (.int .i64 (l : Int)))), (.s 1, .sv (.v (.int .i64 q)))]) _ (fun ((l, q) : Nat × Int) => leftT (((t.slots[j]'hj).vals[k]'hk).m.drop l) q d = ((t.slots[j]'hj).vals[k]'hk).left p d) (fun ((l, q) : Nat × Int) => ((t.slots[j]'hj).vals[k]'hk).m.length - l) (0, _) rfl (by rw [hVl]; simp) ?_
              rintro ⟨l, q⟩ hI
              refine Tri.seq ?_
              refine Tri.seq ?_
              refine Tri.region ?_
              refine TriL.c1 rfl (op_mv (ltb rfl) rfl) ?_
              refine TriL.c1 rfl (op_fal (ltb rfl) fo32_0_M5 rfl) ?_
              refine TriL.c1 rfl (op_ldl (ltb rfl) lk29_M5 rfl rfl rfl) ?_
              refine TriL.c1 rfl (op_mv (ltb rfl) rfl) ?_
              refine TriL.c1 rfl (op_iak (ltb rfl) ie29_M5 rfl rfl (Int.natCast_nonneg _) (ixmE Slot.av_eq hj) rfl) ?_
              refine TriL.c1 rfl (op_fak (ltb rfl) fo83_1_M5 rfl) ?_
              refine TriL.c1 rfl (op_ldk (ltb rfl) lk81_M5 rfl rfl) ?_
              refine TriL.c1 rfl (op_mv (ltb rfl) rfl) ?_
              refine TriL.c1 rfl (op_iak (ltb rfl) ie81_M5 rfl rfl (Int.natCast_nonneg _) (ixmE Val.av_eq hk) rfl) ?_
              refine TriL.c1 rfl (op_fak (ltb rfl) fo86_2_M5 rfl) ?_
              refine TriL.c1 rfl (op_ldk (ltb rfl) lk63_M5 rfl rfl) ?_
              refine TriL.c1 rfl (op_lenl (ltb rfl) un63_M5 rfl) ?_
              refine TriL.c1 rfl (op_bin (ltb rfl) rfl rfl rfl) ?_
              refine TriL.c1 rfl (op_mv (ltb rfl) rfl) ?_
              refine TriL.split (d := 105) rfl (fun hg8 => ?_) (fun hg8 => ?_)
              · have hl := ltm hg8
                have hU := @leftT_step ((t.slots[j]'hj).vals[k]'hk).m l q d hl
                refine TriL.g1 rfl (ltb rfl) rfl hg8 (op_mv (ltb rfl) rfl) ?_
                refine TriL.g1 rfl (ltb rfl) rfl hg8 (op_bin (ltb rfl) rfl rfl rfl) ?_
                refine TriL.c1 rfl (op_pickt (ltb rfl) rfl hg8 rfl) ?_
                refine TriL.nil ?_
                refine Tri.cond rfl (fun hc9 => ?_) (fun hc9 => ?_)
                · refine Tri.skip ?_
                  refine Tri.seq ?_
                  refine Tri.blk ?_
                  refine Tri.region ?_
                  refine TriL.c1 rfl (op_fal (ltb rfl) fo32_0_M5 rfl) ?_
                  refine TriL.c1 rfl (op_ldl (ltb rfl) lk29_M5 rfl rfl rfl) ?_
                  refine TriL.c1 rfl (op_mv (ltb rfl) rfl) ?_
                  refine TriL.c1 rfl (op_iak (ltb rfl) ie29_M5 rfl rfl (Int.natCast_nonneg _) (ixmE Slot.av_eq hj) rfl) ?_
                  refine TriL.c1 rfl (op_fak (ltb rfl) fo83_1_M5 rfl) ?_
                  refine TriL.c1 rfl (op_ldk (ltb rfl) lk81_M5 rfl rfl) ?_
                  refine TriL.c1 rfl (op_mv (ltb rfl) rfl) ?_
                  refine TriL.c1 rfl (op_iak (ltb rfl) ie81_M5 rfl rfl (Int.natCast_nonneg _) (ixmE Val.av_eq hk) rfl) ?_
                  refine TriL.c1 rfl (op_fak (ltb rfl) fo86_2_M5 rfl) ?_
                  refine TriL.c1 rfl (op_ldk (ltb rfl) lk63_M5 rfl rfl) ?_
                  refine TriL.c1 rfl (op_mv (ltb rfl) rfl) ?_
                  refine TriL.c1 rfl (op_iak (ltb rfl) ie63_M5 rfl rfl (Int.natCast_nonneg _) (ixmE Tree.av_eq hl) rfl) ?_
                  refine TriL.c1 rfl (op_ldk (ltb rfl) lk32_M5 rfl rfl) ?_
                  refine TriL.c1 rfl (op_mv (ltb rfl) rfl) ?_
                  refine TriL.c1 rfl (op_bin (ltb rfl) rfl rfl rfl) ?_
                  refine TriL.c1 rfl (op_mv (ltb rfl) rfl) ?_
                  refine TriL.c1 rfl (op_bin (ltb rfl) rfl rfl rfl) ?_
                  refine TriL.c1 rfl (op_call (ltb rfl) fn44_M5 rfl (ih _ (List.getElem_mem hj) _ (List.getElem_mem hk) _ (List.getElem_mem hl) _ _)) ?_
                  refine TriL.c1 rfl (op_as (ltb rfl) rfl) ?_
                  refine TriL.nil ?_
                  refine Tri.region ?_
                  refine TriL.c1 rfl (op_mv (ltb rfl) rfl) ?_
                  refine TriL.c1 rfl (op_bin (ltb rfl) rfl rfl rfl) ?_
                  refine TriL.c1 rfl (op_as (ltb rfl) rfl) ?_
                  refine TriL.kept (Kept.seti 10 rfl (inc (by omega)) (Kept.keep [.s 10, .s 1, .h, .s 2, .s 3, .b 3, .s 8, .s 9] rfl (by decide) (Kept.now ?_)))
                  exact ⟨(l + 1, _), (by dsimp only; omega), by grind, rfl⟩
                · refine Tri.exit ?_
                  refine Tri.region ?_
                  refine TriL.c1 rfl (op_mv (ltb rfl) rfl) ?_
                  refine TriL.c1 rfl (op_bin (ltb rfl) rfl rfl rfl) ?_
                  refine TriL.c1 rfl (op_as (ltb rfl) rfl) ?_
                  refine TriL.kept (Kept.seti 9 rfl (inc (by omega)) (Kept.keep [.s 9, .s 1, .h, .s 2, .s 3, .b 3, .s 8] rfl (by decide) (Kept.now ?_)))
                  exact ⟨(k + 1, _), (by dsimp only; omega), by grind, rfl⟩
              · have hl := gem hg8
                have hU := @leftT_end ((t.slots[j]'hj).vals[k]'hk).m l q d hl
                refine TriL.skipu rfl rfl (ltb rfl) (ltb rfl) rfl hg8 ?_
                refine TriL.skipu rfl rfl (ltb rfl) (ltb rfl) rfl hg8 ?_
                refine TriL.c1 rfl (op_pickf (ltb rfl) rfl hg8 rfl) ?_
                refine TriL.nil ?_
                refine Tri.condF rfl rfl ?_
                refine Tri.exit ?_
                refine Tri.region ?_
                refine TriL.c1 rfl (op_mv (ltb rfl) rfl) ?_
                refine TriL.c1 rfl (op_bin (ltb rfl) rfl rfl rfl) ?_
                refine TriL.c1 rfl (op_as (ltb rfl) rfl) ?_
                refine TriL.kept (Kept.seti 9 rfl (inc (by omega)) (Kept.keep [.s 9, .s 1, .h, .s 2, .s 3, .b 3, .s 8] rfl (by decide) (Kept.now ?_)))
                exact ⟨(k + 1, _), (by dsimp only; omega), by grind, rfl⟩
            · refine Tri.exit ?_
              refine Tri.region ?_
              refine TriL.c1 rfl (op_mv (ltb rfl) rfl) ?_
              refine TriL.c1 rfl (op_bin (ltb rfl) rfl rfl rfl) ?_
              refine TriL.c1 rfl (op_as (ltb rfl) rfl) ?_
              refine TriL.kept (Kept.seti 8 rfl (inc (by omega)) (Kept.keep [.s 8, .s 1, .h, .s 2, .s 3, .b 3] rfl (by decide) (Kept.now ?_)))
              exact ⟨(j + 1, _), (by dsimp only; omega), by grind, rfl⟩
          · have hk := gem hg6
            have hT := @leftV_end (t.slots[j]'hj).vals k p d hk
            refine TriL.skipu rfl rfl (ltb rfl) (ltb rfl) rfl hg6 ?_
            refine TriL.skipu rfl rfl (ltb rfl) (ltb rfl) rfl hg6 ?_
            refine TriL.c1 rfl (op_pickf (ltb rfl) rfl hg6 rfl) ?_
            refine TriL.nil ?_
            refine Tri.condF rfl rfl ?_
            refine Tri.exit ?_
            refine Tri.region ?_
            refine TriL.c1 rfl (op_mv (ltb rfl) rfl) ?_
            refine TriL.c1 rfl (op_bin (ltb rfl) rfl rfl rfl) ?_
            refine TriL.c1 rfl (op_as (ltb rfl) rfl) ?_
            refine TriL.kept (Kept.seti 8 rfl (inc (by omega)) (Kept.keep [.s 8, .s 1, .h, .s 2, .s 3, .b 3] rfl (by decide) (Kept.now ?_)))
            exact ⟨(j + 1, _), (by dsimp only; omega), by grind, rfl⟩
        · refine Tri.exit ?_
          refine Tri.seq ?_
          refine Tri.region ?_
          refine TriL.c1 rfl (op_mv (ltb rfl) rfl) ?_
          refine TriL.c1 rfl (op_as (ltb rfl) rfl) ?_
          refine TriL.nil ?_
          refine Tri.ret ?_
          exact ⟨.inr rfl, (ResOK.r1 rfl (.tmp rfl .nil)).cast (congrArg (AV.int .i64) (by grind [Tree.left_eq, leftS_neg, leftV_neg, leftT_neg, leftR_neg])), rfl⟩
      · have hj := gem hg4
        have hS := @leftS_end t.slots j m d hj
        refine TriL.skipu rfl rfl (ltb rfl) (ltb rfl) rfl hg4 ?_
        refine TriL.skipu rfl rfl (ltb rfl) (ltb rfl) rfl hg4 ?_
        refine TriL.c1 rfl (op_pickf (ltb rfl) rfl hg4 rfl) ?_
        refine TriL.nil ?_
        refine Tri.condF rfl rfl ?_
        refine Tri.exit ?_
        refine Tri.seq ?_
        refine Tri.region ?_
        refine TriL.c1 rfl (op_mv (ltb rfl) rfl) ?_
        refine TriL.c1 rfl (op_as (ltb rfl) rfl) ?_
        refine TriL.nil ?_
        refine Tri.ret ?_
        exact ⟨.inr rfl, (ResOK.r1 rfl (.tmp rfl .nil)).cast (congrArg (AV.int .i64) (by grind [Tree.left_eq, leftS_neg, leftV_neg, leftT_neg, leftR_neg])), rfl⟩
theorem r_left (t : Tree) (hb : t.big) (n d : Int) : Pure Tryz.prog 44 [.agg t.cells, .int .i64 n, .int .i64 d] (.int .i64 (t.left n d)) :=
  Tree.ind (Q := fun t => t.big → ∀ n d : Int, Pure Tryz.prog 44 [.agg t.cells, .int .i64 n, .int .i64 d] (.int .i64 (t.left n d))) (fun t ih hb n d => r_left1 t hb (fun x hx v hv u hu => ih x hx v hv u hu (hb.sub hu hv hx)) n d) t hb n d
def Tree.small (t : Tree) : Bool := decide (0 ≤ t.left 400 40)
theorem r_tsmall (t : Tree) (hb : t.big) : Pure Tryz.prog 22 [.agg t.cells] (.bool t.small) := by
  refine Pure.of_tri Tryz.func22 rfl rfl (ltb rfl) fun H => ?_
  refine Tri.seq ?_
  refine Tri.region ?_
  refine TriL.c2 rfl (op_box (ltb rfl) rfl rfl rfl) ?_
  refine TriL.c1 rfl (op_as (ltb rfl) rfl) ?_
  refine TriL.nil ?_
  refine Tri.seq ?_
  refine Tri.region ?_
  refine TriL.c1 rfl (op_ldl (ltb rfl) lk32_M5 rfl rfl rfl) ?_
  refine TriL.c1 rfl (op_call (ltb rfl) fn44_M5 rfl (r_left _ hb _ _)) ?_
  refine TriL.c1 rfl (op_bin (ltb rfl) rfl rfl rfl) ?_
  refine TriL.c1 rfl (op_as (ltb rfl) rfl) ?_
  refine TriL.nil ?_
  refine Tri.ret ?_
  exact ⟨.inr rfl, (ResOK.r1 rfl (.tmp rfl .nil)).cast rfl, rfl⟩
end Go.Proofs.YtnpgcmeclkncnaaGreatDoor.X
/- the document: values: the same, how deep. -/
set_option linter.unusedVariables false
set_option linter.unusedSimpArgs false
set_option linter.unusedSectionVars false
set_option maxRecDepth 100000
set_option maxHeartbeats 400000
namespace Go.Proofs.YtnpgcmeclkncnaaGreatDoor.X
open Go Go.RowKit Go.Proofs
theorem fn28_M6 : isFn Tryz.prog 28 = true := by kernel_rfl
theorem fn55_M6 : isFn Tryz.prog 55 = true := by kernel_rfl
theorem fn56_M6 : isFn Tryz.prog 56 = true := by kernel_rfl
theorem fo32_0_M6 : fo Tryz.prog 32 0 = some 0 := by kernel_rfl
theorem fo32_1_M6 : fo Tryz.prog 32 1 = some 1 := by kernel_rfl
theorem fo83_0_M6 : fo Tryz.prog 83 0 = some 0 := by kernel_rfl
theorem fo83_1_M6 : fo Tryz.prog 83 1 = some 1 := by kernel_rfl
theorem fo86_0_M6 : fo Tryz.prog 86 0 = some 0 := by kernel_rfl
theorem fo86_1_M6 : fo Tryz.prog 86 1 = some 1 := by kernel_rfl
theorem fo86_2_M6 : fo Tryz.prog 86 2 = some 2 := by kernel_rfl
theorem ie29_M6 : ie Tryz.prog 29 = some 2 := by kernel_rfl
theorem ie30_M6 : ie Tryz.prog 30 = some 4 := by kernel_rfl
theorem ie63_M6 : ie Tryz.prog 63 = some 2 := by kernel_rfl
theorem ie81_M6 : ie Tryz.prog 81 = some 3 := by kernel_rfl
theorem lk131_M6 : lk Tryz.prog 131 = some (true, 4) := by kernel_rfl
theorem lk29_M6 : lk Tryz.prog 29 = some (false, 1) := by kernel_rfl
theorem lk3_M6 : lk Tryz.prog 3 = some (false, 1) := by kernel_rfl
theorem lk30_M6 : lk Tryz.prog 30 = some (false, 1) := by kernel_rfl
theorem lk32_M6 : lk Tryz.prog 32 = some (true, 2) := by kernel_rfl
theorem lk63_M6 : lk Tryz.prog 63 = some (false, 1) := by kernel_rfl
theorem lk81_M6 : lk Tryz.prog 81 = some (false, 1) := by kernel_rfl
theorem lk84_M6 : lk Tryz.prog 84 = some (false, 1) := by kernel_rfl
theorem lk9_M6 : lk Tryz.prog 9 = some (false, 1) := by kernel_rfl
theorem un29_M6 : Tryz.prog.underlying 29 = some (TypeDesc.slice 83) := Tryz.underlying29
theorem un30_M6 : Tryz.prog.underlying 30 = some (TypeDesc.slice 131) := Tryz.underlying30
theorem un63_M6 : Tryz.prog.underlying 63 = some (TypeDesc.slice 32) := Tryz.underlying63
theorem un81_M6 : Tryz.prog.underlying 81 = some (TypeDesc.slice 86) := Tryz.underlying81
theorem eqGuardRw : Tryz.prog.eqGuardType Tryz.prog.depth 131 = false := by kernel_rfl
theorem neqRw_run (a b : Rw) (w : World) : (binOp .neq 131 (.agg #[.int .i64 a.num, .int .i64 a.wire, .int .u64 (a.n : Int), .string ⟨a.s.toArray⟩]) (.agg #[.int .i64 b.num, .int .i64 b.wire, .int .u64 (b.n : Int), .string ⟨b.s.toArray⟩])).run Tryz.prog w = .ok (.bool (!decide (a = b))) w := by
  obtain ⟨a0, a1, a2, a3⟩ := a
  obtain ⟨b0, b1, b2, b3⟩ := b
  go_simp
  by_cases h0 : a0 = b0
  · by_cases h1 : a1 = b1
    · by_cases h2 : a2 = b2
      · by_cases h3 : a3 = b3
        · simp [h0, h1, h2, h3, Int.natCast_inj]
        · simp [h0, h1, h2, h3, Int.natCast_inj]
      · simp [h0, h1, h2, Int.natCast_inj]
    · simp [h0, h1, Int.natCast_inj]
  · simp [h0, Int.natCast_inj]
theorem Rw_val {G : Gh} {v : Value} {t : Rw} (h : V G v (.agg t.cells)) : v = (.agg #[.int .i64 t.num, .int .i64 t.wire, .int .u64 (t.n : Int), .string ⟨t.s.toArray⟩]) := by
  unfold Rw.cells at h
  cases h with
  | agg vs cs hl hf hv =>
    obtain ⟨l⟩ := vs
    match l, hl with
    | [x0, x1, x2, x3], _ =>
      have h0 : V G x0 (.int .i64 t.num) := hv 0 _ rfl
      cases h0
      have h1 : V G x1 (.int .i64 t.wire) := hv 1 _ rfl
      cases h1
      have h2 : V G x2 (.int .u64 (t.n : Int)) := hv 2 _ rfl
      cases h2
      have h3 : V G x3 (.str t.s) := hv 3 _ rfl
      cases h3
      rfl
theorem op_nes131 {N : Nat} {s : St} {d : Nat} {ty : TypeId} {pos : String} {af : Array Edge} {g : Option (Nat × Bool)} {t2 : TypeId} {x y : Operand} {u v : AV} (a b : Rw) (hN : d < N) (hx : opv x s = some u) (hy : opv y s = some v) (hu : u = .agg a.cells) (hv : v = .agg b.cells) :
    OpOK Tryz.prog N ⟨some d, .binOp .neq 131 x y t2, ty, pos, af, g⟩ s (rd x ++ rd y) [(.s d, .sv (.v (.bool (!decide (a = b)))))] := by
  subst hu hv
  exact OpOK.val rfl hN fun E G L c w tt hr hR => by
    refine ⟨.bool (!decide (a = b)), ?_, .bool _⟩
    have h1 := Rw_val (opv_sound hr hR.left hx)
    have h2 := Rw_val (opv_sound hr hR.right hy)
    have hgd := run_eqGuard_agg (P := Tryz.prog) w .neq 131 x y #[.int .i64 a.num, .int .i64 a.wire, .int .u64 (a.n : Int), .string ⟨a.s.toArray⟩] #[.int .i64 b.num, .int .i64 b.wire, .int .u64 (b.n : Int), .string ⟨b.s.toArray⟩] eqGuardRw
    simp only [execOp, Sem.run_bind, h1, h2, hgd, Result.andThen_ok, neqRw_run, Sem.run_pure]
theorem r_rsame (a b : List Rw) (ha : a.length ≤ 9223372036854775807) : Pure Tryz.prog 55 [.sl (a.map Rw.av), .sl (b.map Rw.av)] (.bool (eqb a b)) := by
  refine Pure.of_tri Tryz.func55 rfl rfl (ltb rfl) fun H => ?_
  refine Tri.seq ?_
  refine Tri.region ?_
  refine TriL.c1 rfl (op_as (ltb rfl) rfl) ?_
  refine TriL.nil ?_
  refine Tri.joinu [.h, .s 0, .s 1] (fun (_ : Unit) => []) (fun (_ : Unit) => a.length = b.length) rfl ?_ ?_
  · refine Tri.seq ?_
    refine Tri.region ?_
    refine TriL.c1 rfl (op_mv (ltb rfl) rfl) ?_
    refine TriL.c1 rfl (op_lenl (ltb rfl) un30_M6 rfl) ?_
    refine TriL.c1 rfl (op_mv (ltb rfl) rfl) ?_
    refine TriL.c1 rfl (op_lenl (ltb rfl) un30_M6 rfl) ?_
    refine TriL.c1 rfl (op_bin (ltb rfl) rfl rfl rfl) ?_
    refine TriL.nil ?_
    refine Tri.cond rfl (fun hc1 => ?_) (fun hc1 => ?_)
    · refine Tri.seq ?_
      refine Tri.region ?_
      refine TriL.c1 rfl (op_as (ltb rfl) rfl) ?_
      refine TriL.nil ?_
      refine Tri.ret ?_
      exact ⟨.inr rfl, (ResOK.r1 rfl (.tmp rfl .nil)).cast (congrArg AV.bool (by have hE := @eqb_true _ a b; have hF := @eqb_false _ a b; grind)), rfl⟩
    · refine Tri.ofKept (Kept.keep [.h, .s 0, .s 1] rfl (by decide) (Kept.now ?_))
      refine Tri.skip ?_
      exact ⟨(), by have h : (!((a.map Rw.av).length : Int) == ((b.map Rw.av).length : Int)) = false := hc1; simp at h; omega, rfl⟩
  · rintro _ hF3
    refine Tri.seq ?_
    refine Tri.seq ?_
    refine Tri.region ?_
    refine TriL.c1 rfl (op_as (ltb rfl) rfl) ?_
    refine TriL.nil ?_
    refine Tri.blk ?_
    refine Tri.ofKept (Kept.keep [.s 5, .h, .s 0, .s 1] rfl (by decide) (Kept.now ?_))
    -- LOOP 1
    refine Tri.loopk (fun (i : Nat) => [(.s 5, .sv (.v (.int .i64 (i : Int))))]) _ (fun (i : Nat) => a.take i = b.take i) (fun (i : Nat) => a.length - i) 0 rfl rfl ?_
    rintro i hI
    refine Tri.seq ?_
    refine Tri.seq ?_
    refine Tri.region ?_
    refine TriL.c1 rfl (op_mv (ltb rfl) rfl) ?_
    refine TriL.c1 rfl (op_mv (ltb rfl) rfl) ?_
    refine TriL.c1 rfl (op_lenl (ltb rfl) un30_M6 rfl) ?_
    refine TriL.c1 rfl (op_bin (ltb rfl) rfl rfl rfl) ?_
    refine TriL.nil ?_
    refine Tri.cond rfl (fun hc2 => ?_) (fun hc2 => ?_)
    · have hi := ltm hc2
      have hN := @ne_at _ a b i hi (by omega)
      refine Tri.skip ?_
      refine Tri.seq ?_
      refine Tri.blk ?_
      refine Tri.seq ?_
      refine Tri.drawn mixed rfl ?_
      refine TriD.c1 rfl (op_mv (ltb rfl) rfl) ?_
      refine TriD.c1 rfl (op_mv (ltb rfl) rfl) ?_
      refine TriD.c1 rfl (op_iak (ltb rfl) ie30_M6 rfl rfl (Int.natCast_nonneg _) (ixm (by omega)) rfl) ?_
      refine TriD.c1 rfl (op_ldk (ltb rfl) lk131_M6 rfl rfl) ?_
      refine TriD.c1 rfl (op_mv (ltb rfl) rfl) ?_
      refine TriD.c1 rfl (op_mv (ltb rfl) rfl) ?_
      refine TriD.c1 rfl (op_iak (ltb rfl) ie30_M6 rfl rfl (Int.natCast_nonneg _) (ixm (by omega)) rfl) ?_
      refine TriD.c1 rfl (op_ldk (ltb rfl) lk131_M6 rfl rfl) ?_
      refine TriD.c1 rfl (op_nes131 (a[i]'hi) (b[i]'(by omega)) (ltb rfl) rfl rfl rfl rfl) ?_
      refine TriD.nil (by kernel_rfl) (Kept.now ?_)
      refine Tri.cond rfl (fun hc3 => ?_) (fun hc3 => ?_)
      · refine Tri.seq ?_
        refine Tri.region ?_
        refine TriL.c1 rfl (op_as (ltb rfl) rfl) ?_
        refine TriL.nil ?_
        refine Tri.ret ?_
        exact ⟨.inr rfl, (ResOK.r1 rfl (.tmp rfl .nil)).cast (congrArg AV.bool (by have hE := @eqb_true _ a b; have hF := @eqb_false _ a b; grind)), rfl⟩
      · refine Tri.skip ?_
        refine Tri.region ?_
        refine TriL.c1 rfl (op_mv (ltb rfl) rfl) ?_
        refine TriL.c1 rfl (op_bin (ltb rfl) rfl rfl rfl) ?_
        refine TriL.c1 rfl (op_as (ltb rfl) rfl) ?_
        refine TriL.kept (Kept.seti 5 rfl (inc (by omega)) (Kept.keep [.s 5, .h, .s 0, .s 1] rfl (by decide) (Kept.now ?_)))
        exact ⟨i + 1, by omega, take_eq_step hi (by omega) hI (by grind), rfl⟩
    · have hi := gem hc2
      have hE2 := take_eq_end (a := a) (b := b) (by omega) hi hI
      refine Tri.exit ?_
      refine Tri.seq ?_
      refine Tri.region ?_
      refine TriL.c1 rfl (op_as (ltb rfl) rfl) ?_
      refine TriL.nil ?_
      refine Tri.ret ?_
      exact ⟨.inr rfl, (ResOK.r1 rfl (.tmp rfl .nil)).cast (congrArg AV.bool (by have hE := @eqb_true _ a b; have hF := @eqb_false _ a b; grind)), rfl⟩
theorem r_samevals1 (a b : List Val) (ha : a.length ≤ 9223372036854775807) (hm : ∀ v ∈ a, v.m.length ≤ 9223372036854775807) (ih : ∀ v ∈ a, ∀ u ∈ v.m, ∀ w : Tree, Pure Tryz.prog 28 [.agg u.cells, .agg w.cells] (.bool (eqb u w))) : Pure Tryz.prog 56 [.sl (a.map Val.av), .sl (b.map Val.av)] (.bool (eqb a b)) := by
  refine Pure.of_tri Tryz.func56 rfl rfl (ltb rfl) fun H => ?_
  refine Tri.seq ?_
  refine Tri.region ?_
  refine TriL.c1 rfl (op_as (ltb rfl) rfl) ?_
  refine TriL.nil ?_
  refine Tri.joinu [.h, .s 0, .s 1] (fun (_ : Unit) => []) (fun (_ : Unit) => a.length = b.length) rfl ?_ ?_
  · refine Tri.seq ?_
    refine Tri.region ?_
    refine TriL.c1 rfl (op_mv (ltb rfl) rfl) ?_
    refine TriL.c1 rfl (op_lenl (ltb rfl) un81_M6 rfl) ?_
    refine TriL.c1 rfl (op_mv (ltb rfl) rfl) ?_
    refine TriL.c1 rfl (op_lenl (ltb rfl) un81_M6 rfl) ?_
    refine TriL.c1 rfl (op_bin (ltb rfl) rfl rfl rfl) ?_
    refine TriL.nil ?_
    refine Tri.cond rfl (fun hc1 => ?_) (fun hc1 => ?_)
    · refine Tri.seq ?_
      refine Tri.region ?_
      refine TriL.c1 rfl (op_as (ltb rfl) rfl) ?_
      refine TriL.nil ?_
      refine Tri.ret ?_
      exact ⟨.inr rfl, (ResOK.r1 rfl (.tmp rfl .nil)).cast (congrArg AV.bool (by have hE := @eqb_true _ a b; have hF := @eqb_false _ a b; grind [eqb_true, eqb_false])), rfl⟩
    · refine Tri.ofKept (Kept.keep [.h, .s 0, .s 1] rfl (by decide) (Kept.now ?_))
      refine Tri.skip ?_
      exact ⟨(), by have h : (!((a.map Val.av).length : Int) == ((b.map Val.av).length : Int)) = false := hc1; simp at h; omega, rfl⟩
  · rintro _ hF3
    refine Tri.seq ?_
    refine Tri.seq ?_
    refine Tri.region ?_
    refine TriL.c1 rfl (op_as (ltb rfl) rfl) ?_
    refine TriL.nil ?_
    refine Tri.blk ?_
    refine Tri.ofKept (Kept.keep [.s 5, .h, .s 0, .s 1] rfl (by decide) (Kept.now ?_))
    -- LOOP 1
    refine Tri.loopk (fun (i : Nat) => [(.s 5, .sv (.v (.int .i64 (i : Int))))]) _ (fun (i : Nat) => a.take i = b.take i) (fun (i : Nat) => a.length - i) 0 rfl rfl ?_
    rintro i hI
    refine Tri.seq ?_
    refine Tri.seq ?_
    refine Tri.region ?_
    refine TriL.c1 rfl (op_mv (ltb rfl) rfl) ?_
    refine TriL.c1 rfl (op_mv (ltb rfl) rfl) ?_
    refine TriL.c1 rfl (op_lenl (ltb rfl) un81_M6 rfl) ?_
    refine TriL.c1 rfl (op_bin (ltb rfl) rfl rfl rfl) ?_
    refine TriL.nil ?_
    refine Tri.cond rfl (fun hc2 => ?_) (fun hc2 => ?_)
    · have hi := ltm hc2
      have hN := @ne_at _ a b i hi (by omega)
      have hm1 := hm _ (List.getElem_mem hi)
      refine Tri.skip ?_
      refine Tri.seq ?_
      refine Tri.blk ?_
      refine Tri.joinu [.h, .s 0, .s 1, .s 5] (fun (_ : Unit) => []) (fun (_ : Unit) => (a[i]'hi).n = (b[i]'(by omega)).n ∧ (a[i]'hi).s = (b[i]'(by omega)).s ∧ (a[i]'hi).m.length = (b[i]'(by omega)).m.length) rfl ?_ ?_
      · refine Tri.seq ?_
        refine Tri.drawn mixed rfl ?_
        refine TriD.c1 rfl (op_mv (ltb rfl) rfl) ?_
        refine TriD.c1 rfl (op_mv (ltb rfl) rfl) ?_
        refine TriD.c1 rfl (op_iak (ltb rfl) ie81_M6 rfl rfl (Int.natCast_nonneg _) (ixmE Val.av_eq (by omega)) rfl) ?_
        refine TriD.c1 rfl (op_fak (ltb rfl) fo86_0_M6 rfl) ?_
        refine TriD.c1 rfl (op_ldk (ltb rfl) lk84_M6 rfl rfl) ?_
        refine TriD.c1 rfl (op_mv (ltb rfl) rfl) ?_
        refine TriD.c1 rfl (op_mv (ltb rfl) rfl) ?_
        refine TriD.c1 rfl (op_iak (ltb rfl) ie81_M6 rfl rfl (Int.natCast_nonneg _) (ixmE Val.av_eq (by omega)) rfl) ?_
        refine TriD.c1 rfl (op_fak (ltb rfl) fo86_0_M6 rfl) ?_
        refine TriD.c1 rfl (op_ldk (ltb rfl) lk84_M6 rfl rfl) ?_
        refine TriD.c1 rfl (op_bin (ltb rfl) rfl rfl rfl) ?_
        refine TriD.c1 rfl (op_mv (ltb rfl) rfl) ?_
        refine TriD.split (d := 29) rfl (fun hg3 => ?_) (fun hg3 => ?_)
        · refine TriD.skipu rfl rfl (ltb rfl) (ltb rfl) rfl hg3 ?_
          refine TriD.skipu rfl rfl (ltb rfl) (ltb rfl) rfl hg3 ?_
          refine TriD.skipu rfl rfl (ltb rfl) (ltb rfl) rfl hg3 ?_
          refine TriD.skipu rfl rfl (ltb rfl) (ltb rfl) rfl hg3 ?_
          refine TriD.skipu rfl rfl (ltb rfl) (ltb rfl) rfl hg3 ?_
          refine TriD.skipu rfl rfl (ltb rfl) (ltb rfl) rfl hg3 ?_
          refine TriD.skipu rfl rfl (ltb rfl) (ltb rfl) rfl hg3 ?_
          refine TriD.skipu rfl rfl (ltb rfl) (ltb rfl) rfl hg3 ?_
          refine TriD.skipu rfl rfl (ltb rfl) (ltb rfl) rfl hg3 ?_
          refine TriD.skipu rfl rfl (ltb rfl) (ltb rfl) rfl hg3 ?_
          refine TriD.skipu rfl rfl (ltb rfl) (ltb rfl) rfl hg3 ?_
          refine TriD.c1 rfl (op_pickt (ltb rfl) rfl hg3 rfl) ?_
          refine TriD.c1 rfl (op_mv (ltb rfl) rfl) ?_
          refine TriD.skipu rfl rfl (ltb rfl) (ltb rfl) rfl rfl ?_
          refine TriD.skipu rfl rfl (ltb rfl) (ltb rfl) rfl rfl ?_
          refine TriD.skipu rfl rfl (ltb rfl) (ltb rfl) rfl rfl ?_
          refine TriD.skipu rfl rfl (ltb rfl) (ltb rfl) rfl rfl ?_
          refine TriD.skipu rfl rfl (ltb rfl) (ltb rfl) rfl rfl ?_
          refine TriD.skipu rfl rfl (ltb rfl) (ltb rfl) rfl rfl ?_
          refine TriD.skipu rfl rfl (ltb rfl) (ltb rfl) rfl rfl ?_
          refine TriD.skipu rfl rfl (ltb rfl) (ltb rfl) rfl rfl ?_
          refine TriD.skipu rfl rfl (ltb rfl) (ltb rfl) rfl rfl ?_
          refine TriD.skipu rfl rfl (ltb rfl) (ltb rfl) rfl rfl ?_
          refine TriD.skipu rfl rfl (ltb rfl) (ltb rfl) rfl rfl ?_
          refine TriD.skipu rfl rfl (ltb rfl) (ltb rfl) rfl rfl ?_
          refine TriD.skipu rfl rfl (ltb rfl) (ltb rfl) rfl rfl ?_
          refine TriD.c1 rfl (op_pickt (ltb rfl) rfl rfl rfl) ?_
          refine TriD.nil (by kernel_rfl) (Kept.now ?_)
          refine Tri.condT rfl rfl ?_
          refine Tri.seq ?_
          refine Tri.region ?_
          refine TriL.c1 rfl (op_as (ltb rfl) rfl) ?_
          refine TriL.nil ?_
          refine Tri.ret ?_
          exact ⟨.inr rfl, (ResOK.r1 rfl (.tmp rfl .nil)).cast (congrArg AV.bool (by have hE := @eqb_true _ a b; have hF := @eqb_false _ a b; grind [eqb_true, eqb_false])), rfl⟩
        · refine TriD.g1 rfl (ltb rfl) rfl hg3 (op_mv (ltb rfl) rfl) ?_
          refine TriD.g1 rfl (ltb rfl) rfl hg3 (op_mv (ltb rfl) rfl) ?_
          refine TriD.g1 rfl (ltb rfl) rfl hg3 (op_iak (ltb rfl) ie81_M6 rfl rfl (Int.natCast_nonneg _) (ixmE Val.av_eq (by omega)) rfl) ?_
          refine TriD.g1 rfl (ltb rfl) rfl hg3 (op_fak (ltb rfl) fo86_1_M6 rfl) ?_
          refine TriD.g1 rfl (ltb rfl) rfl hg3 (op_ldk (ltb rfl) lk9_M6 rfl rfl) ?_
          refine TriD.g1 rfl (ltb rfl) rfl hg3 (op_mv (ltb rfl) rfl) ?_
          refine TriD.g1 rfl (ltb rfl) rfl hg3 (op_mv (ltb rfl) rfl) ?_
          refine TriD.g1 rfl (ltb rfl) rfl hg3 (op_iak (ltb rfl) ie81_M6 rfl rfl (Int.natCast_nonneg _) (ixmE Val.av_eq (by omega)) rfl) ?_
          refine TriD.g1 rfl (ltb rfl) rfl hg3 (op_fak (ltb rfl) fo86_1_M6 rfl) ?_
          refine TriD.g1 rfl (ltb rfl) rfl hg3 (op_ldk (ltb rfl) lk9_M6 rfl rfl) ?_
          refine TriD.g1 rfl (ltb rfl) rfl hg3 (op_bin (ltb rfl) rfl rfl rfl) ?_
          refine TriD.c1 rfl (op_pickf (ltb rfl) rfl hg3 rfl) ?_
          refine TriD.c1 rfl (op_mv (ltb rfl) rfl) ?_
          refine TriD.split (d := 42) rfl (fun hg4 => ?_) (fun hg4 => ?_)
          · refine TriD.skipu rfl rfl (ltb rfl) (ltb rfl) rfl hg4 ?_
            refine TriD.skipu rfl rfl (ltb rfl) (ltb rfl) rfl hg4 ?_
            refine TriD.skipu rfl rfl (ltb rfl) (ltb rfl) rfl hg4 ?_
            refine TriD.skipu rfl rfl (ltb rfl) (ltb rfl) rfl hg4 ?_
            refine TriD.skipu rfl rfl (ltb rfl) (ltb rfl) rfl hg4 ?_
            refine TriD.skipu rfl rfl (ltb rfl) (ltb rfl) rfl hg4 ?_
            refine TriD.skipu rfl rfl (ltb rfl) (ltb rfl) rfl hg4 ?_
            refine TriD.skipu rfl rfl (ltb rfl) (ltb rfl) rfl hg4 ?_
            refine TriD.skipu rfl rfl (ltb rfl) (ltb rfl) rfl hg4 ?_
            refine TriD.skipu rfl rfl (ltb rfl) (ltb rfl) rfl hg4 ?_
            refine TriD.skipu rfl rfl (ltb rfl) (ltb rfl) rfl hg4 ?_
            refine TriD.skipu rfl rfl (ltb rfl) (ltb rfl) rfl hg4 ?_
            refine TriD.skipu rfl rfl (ltb rfl) (ltb rfl) rfl hg4 ?_
            refine TriD.c1 rfl (op_pickt (ltb rfl) rfl hg4 rfl) ?_
            refine TriD.nil (by kernel_rfl) (Kept.now ?_)
            refine Tri.condT rfl rfl ?_
            refine Tri.seq ?_
            refine Tri.region ?_
            refine TriL.c1 rfl (op_as (ltb rfl) rfl) ?_
            refine TriL.nil ?_
            refine Tri.ret ?_
            exact ⟨.inr rfl, (ResOK.r1 rfl (.tmp rfl .nil)).cast (congrArg AV.bool (by have hE := @eqb_true _ a b; have hF := @eqb_false _ a b; grind [eqb_true, eqb_false])), rfl⟩
          · refine TriD.g1 rfl (ltb rfl) rfl hg4 (op_mv (ltb rfl) rfl) ?_
            refine TriD.g1 rfl (ltb rfl) rfl hg4 (op_mv (ltb rfl) rfl) ?_
            refine TriD.g1 rfl (ltb rfl) rfl hg4 (op_iak (ltb rfl) ie81_M6 rfl rfl (Int.natCast_nonneg _) (ixmE Val.av_eq (by omega)) rfl) ?_
            refine TriD.g1 rfl (ltb rfl) rfl hg4 (op_fak (ltb rfl) fo86_2_M6 rfl) ?_
            refine TriD.g1 rfl (ltb rfl) rfl hg4 (op_ldk (ltb rfl) lk63_M6 rfl rfl) ?_
            refine TriD.g1 rfl (ltb rfl) rfl hg4 (op_lenl (ltb rfl) un63_M6 rfl) ?_
            refine TriD.g1 rfl (ltb rfl) rfl hg4 (op_mv (ltb rfl) rfl) ?_
            refine TriD.g1 rfl (ltb rfl) rfl hg4 (op_mv (ltb rfl) rfl) ?_
            refine TriD.g1 rfl (ltb rfl) rfl hg4 (op_iak (ltb rfl) ie81_M6 rfl rfl (Int.natCast_nonneg _) (ixmE Val.av_eq (by omega)) rfl) ?_
            refine TriD.g1 rfl (ltb rfl) rfl hg4 (op_fak (ltb rfl) fo86_2_M6 rfl) ?_
            refine TriD.g1 rfl (ltb rfl) rfl hg4 (op_ldk (ltb rfl) lk63_M6 rfl rfl) ?_
            refine TriD.g1 rfl (ltb rfl) rfl hg4 (op_lenl (ltb rfl) un63_M6 rfl) ?_
            refine TriD.g1 rfl (ltb rfl) rfl hg4 (op_bin (ltb rfl) rfl rfl rfl) ?_
            refine TriD.c1 rfl (op_pickf (ltb rfl) rfl hg4 rfl) ?_
            refine TriD.nil (by kernel_rfl) (Kept.now ?_)
            refine Tri.cond rfl (fun hc5 => ?_) (fun hc5 => ?_)
            · refine Tri.seq ?_
              refine Tri.region ?_
              refine TriL.c1 rfl (op_as (ltb rfl) rfl) ?_
              refine TriL.nil ?_
              refine Tri.ret ?_
              exact ⟨.inr rfl, (ResOK.r1 rfl (.tmp rfl .nil)).cast (congrArg AV.bool (by have hE := @eqb_true _ a b; have hF := @eqb_false _ a b; grind [eqb_true, eqb_false])), rfl⟩
            · refine Tri.ofKept (Kept.keep [.h, .s 0, .s 1, .s 5] rfl (by decide) (Kept.now ?_))
              refine Tri.skip ?_
              exact ⟨(), by grind, rfl⟩
      · rintro _ hF8
        refine Tri.seq ?_
        refine Tri.region ?_
        refine TriL.c1 rfl (op_as (ltb rfl) rfl) ?_
        refine TriL.nil ?_
        refine Tri.blk ?_
        refine Tri.ofKept (Kept.keep [.s 6, .h, .s 0, .s 1, .s 5] rfl (by decide) (Kept.now ?_))
        -- LOOP 2
        refine Tri.loopk (fun (l : Nat) => [(.s 6, .sv (.v (.int .i64 (l : Int))))]) _ (fun (l : Nat) => (a[i]'hi).m.take l = (b[i]'(by omega)).m.take l) (fun (l : Nat) => (a[i]'hi).m.length - l) 0 rfl rfl ?_
        rintro l hL
        refine Tri.seq ?_
        refine Tri.seq ?_
        refine Tri.region ?_
        refine TriL.c1 rfl (op_mv (ltb rfl) rfl) ?_
        refine TriL.c1 rfl (op_mv (ltb rfl) rfl) ?_
        refine TriL.c1 rfl (op_mv (ltb rfl) rfl) ?_
        refine TriL.c1 rfl (op_iak (ltb rfl) ie81_M6 rfl rfl (Int.natCast_nonneg _) (ixmE Val.av_eq (by omega)) rfl) ?_
        refine TriL.c1 rfl (op_fak (ltb rfl) fo86_2_M6 rfl) ?_
        refine TriL.c1 rfl (op_ldk (ltb rfl) lk63_M6 rfl rfl) ?_
        refine TriL.c1 rfl (op_lenl (ltb rfl) un63_M6 rfl) ?_
        refine TriL.c1 rfl (op_bin (ltb rfl) rfl rfl rfl) ?_
        refine TriL.nil ?_
        refine Tri.cond rfl (fun hc6 => ?_) (fun hc6 => ?_)
        · have hl := ltm hc6
          have hM := @ne_at _ (a[i]'hi).m (b[i]'(by omega)).m l hl (by omega)
          refine Tri.skip ?_
          refine Tri.seq ?_
          refine Tri.blk ?_
          refine Tri.seq ?_
          refine Tri.drawn mixed rfl ?_
          refine TriD.c1 rfl (op_mv (ltb rfl) rfl) ?_
          refine TriD.c1 rfl (op_mv (ltb rfl) rfl) ?_
          refine TriD.c1 rfl (op_iak (ltb rfl) ie81_M6 rfl rfl (Int.natCast_nonneg _) (ixmE Val.av_eq (by omega)) rfl) ?_
          refine TriD.c1 rfl (op_fak (ltb rfl) fo86_2_M6 rfl) ?_
          refine TriD.c1 rfl (op_ldk (ltb rfl) lk63_M6 rfl rfl) ?_
          refine TriD.c1 rfl (op_mv (ltb rfl) rfl) ?_
          refine TriD.c1 rfl (op_iak (ltb rfl) ie63_M6 rfl rfl (Int.natCast_nonneg _) (ixmE Tree.av_eq (by omega)) rfl) ?_
          refine TriD.c1 rfl (op_ldk (ltb rfl) lk32_M6 rfl rfl) ?_
          refine TriD.c1 rfl (op_mv (ltb rfl) rfl) ?_
          refine TriD.c1 rfl (op_mv (ltb rfl) rfl) ?_
          refine TriD.c1 rfl (op_iak (ltb rfl) ie81_M6 rfl rfl (Int.natCast_nonneg _) (ixmE Val.av_eq (by omega)) rfl) ?_
          refine TriD.c1 rfl (op_fak (ltb rfl) fo86_2_M6 rfl) ?_
          refine TriD.c1 rfl (op_ldk (ltb rfl) lk63_M6 rfl rfl) ?_
          refine TriD.c1 rfl (op_mv (ltb rfl) rfl) ?_
          refine TriD.c1 rfl (op_iak (ltb rfl) ie63_M6 rfl rfl (Int.natCast_nonneg _) (ixmE Tree.av_eq (by omega)) rfl) ?_
          refine TriD.c1 rfl (op_ldk (ltb rfl) lk32_M6 rfl rfl) ?_
          refine TriD.c1 rfl (op_call (ltb rfl) fn28_M6 rfl (ih _ (List.getElem_mem hi) _ (List.getElem_mem hl) _)) ?_
          refine TriD.c1 rfl (op_un (ltb rfl) rfl rfl) ?_
          refine TriD.nil (by kernel_rfl) (Kept.now ?_)
          refine Tri.cond rfl (fun hc7 => ?_) (fun hc7 => ?_)
          · refine Tri.seq ?_
            refine Tri.region ?_
            refine TriL.c1 rfl (op_as (ltb rfl) rfl) ?_
            refine TriL.nil ?_
            refine Tri.ret ?_
            exact ⟨.inr rfl, (ResOK.r1 rfl (.tmp rfl .nil)).cast (congrArg AV.bool (by have hE := @eqb_true _ a b; have hF := @eqb_false _ a b; grind [eqb_true, eqb_false])), rfl⟩
          · refine Tri.skip ?_
            refine Tri.region ?_
            refine TriL.c1 rfl (op_mv (ltb rfl) rfl) ?_
            refine TriL.c1 rfl (op_bin (ltb rfl) rfl rfl rfl) ?_
            refine TriL.c1 rfl (op_as (ltb rfl) rfl) ?_
            refine TriL.kept (Kept.seti 6 rfl (inc (by omega)) (Kept.keep [.s 6, .h, .s 0, .s 1, .s 5] rfl (by decide) (Kept.now ?_)))
            exact ⟨l + 1, by omega, take_eq_step hl (by omega) hL (by grind [eqb_true]), rfl⟩
        · have hl := gem hc6
          have hE3 := take_eq_end (a := (a[i]'hi).m) (b := (b[i]'(by omega)).m) (by omega) hl hL
          have hQ := Val.ext (a := (a[i]'hi)) (b := (b[i]'(by omega))) hF8.1 hF8.2.1 hE3
          refine Tri.exit ?_
          refine Tri.region ?_
          refine TriL.c1 rfl (op_mv (ltb rfl) rfl) ?_
          refine TriL.c1 rfl (op_bin (ltb rfl) rfl rfl rfl) ?_
          refine TriL.c1 rfl (op_as (ltb rfl) rfl) ?_
          refine TriL.kept (Kept.seti 5 rfl (inc (by omega)) (Kept.keep [.s 5, .h, .s 0, .s 1] rfl (by decide) (Kept.now ?_)))
          exact ⟨i + 1, by omega, take_eq_step hi (by omega) hI hQ, rfl⟩
    · have hi := gem hc2
      have hE2 := take_eq_end (a := a) (b := b) (by omega) hi hI
      refine Tri.exit ?_
      refine Tri.seq ?_
      refine Tri.region ?_
      refine TriL.c1 rfl (op_as (ltb rfl) rfl) ?_
      refine TriL.nil ?_
      refine Tri.ret ?_
      exact ⟨.inr rfl, (ResOK.r1 rfl (.tmp rfl .nil)).cast (congrArg AV.bool (by have hE := @eqb_true _ a b; have hF := @eqb_false _ a b; grind [eqb_true, eqb_false])), rfl⟩
theorem r_same1 (a b : Tree) (hb : a.big) (ih : ∀ x ∈ a.slots, ∀ v ∈ x.vals, ∀ u ∈ v.m, ∀ w : Tree, Pure Tryz.prog 28 [.agg u.cells, .agg w.cells] (.bool (eqb u w))) : Pure Tryz.prog 28 [.agg a.cells, .agg b.cells] (.bool (eqb a b)) := by
  have hs := hb.here.s
  have hr := hb.here.r
  refine Pure.of_tri Tryz.func28 rfl rfl (ltb rfl) fun H => ?_
  refine Tri.seq ?_
  refine Tri.region ?_
  refine TriL.c2 rfl (op_box (ltb rfl) rfl rfl rfl) ?_
  refine TriL.c2 rfl (op_box (ltb rfl) rfl rfl rfl) ?_
  refine TriL.c1 rfl (op_as (ltb rfl) rfl) ?_
  refine TriL.nil ?_
  refine Tri.joinu [.h, .s 2, .b 2, .s 3, .b 3] (fun (_ : Unit) => []) (fun (_ : Unit) => a.slots.length = b.slots.length ∧ a.rest = b.rest) rfl ?_ ?_
  · refine Tri.seq ?_
    refine Tri.region ?_
    refine TriL.c1 rfl (op_fal (ltb rfl) fo32_0_M6 rfl) ?_
    refine TriL.c1 rfl (op_ldl (ltb rfl) lk29_M6 rfl rfl rfl) ?_
    refine TriL.c1 rfl (op_lenl (ltb rfl) un29_M6 rfl) ?_
    refine TriL.c1 rfl (op_fal (ltb rfl) fo32_0_M6 rfl) ?_
    refine TriL.c1 rfl (op_ldl (ltb rfl) lk29_M6 rfl rfl rfl) ?_
    refine TriL.c1 rfl (op_lenl (ltb rfl) un29_M6 rfl) ?_
    refine TriL.c1 rfl (op_bin (ltb rfl) rfl rfl rfl) ?_
    refine TriL.c1 rfl (op_mv (ltb rfl) rfl) ?_
    refine TriL.split (d := 13) rfl (fun hg1 => ?_) (fun hg1 => ?_)
    · refine TriL.skipu rfl rfl (ltb rfl) (ltb rfl) rfl hg1 ?_
      refine TriL.skipu rfl rfl (ltb rfl) (ltb rfl) rfl hg1 ?_
      refine TriL.skipu rfl rfl (ltb rfl) (ltb rfl) rfl hg1 ?_
      refine TriL.skipu rfl rfl (ltb rfl) (ltb rfl) rfl hg1 ?_
      refine TriL.skipu rfl rfl (ltb rfl) (ltb rfl) rfl hg1 ?_
      refine TriL.skipu rfl rfl (ltb rfl) (ltb rfl) rfl hg1 ?_
      refine TriL.c1 rfl (op_pickt (ltb rfl) rfl hg1 rfl) ?_
      refine TriL.nil ?_
      refine Tri.condT rfl rfl ?_
      refine Tri.seq ?_
      refine Tri.region ?_
      refine TriL.c1 rfl (op_as (ltb rfl) rfl) ?_
      refine TriL.nil ?_
      refine Tri.ret ?_
      exact ⟨.inr rfl, (ResOK.r1 rfl (.tmp rfl .nil)).cast (congrArg AV.bool (by have hE := @eqb_true _ a b; have hF := @eqb_false _ a b; grind [eqb_true, eqb_false, Tree.ext])), rfl⟩
    · refine TriL.g1 rfl (ltb rfl) rfl hg1 (op_fal (ltb rfl) fo32_1_M6 rfl) ?_
      refine TriL.g1 rfl (ltb rfl) rfl hg1 (op_ldl (ltb rfl) lk30_M6 rfl rfl rfl) ?_
      refine TriL.g1 rfl (ltb rfl) rfl hg1 (op_fal (ltb rfl) fo32_1_M6 rfl) ?_
      refine TriL.g1 rfl (ltb rfl) rfl hg1 (op_ldl (ltb rfl) lk30_M6 rfl rfl rfl) ?_
      refine TriL.g1 rfl (ltb rfl) rfl hg1 (op_call (ltb rfl) fn55_M6 rfl (r_rsame _ _ (by omega))) ?_
      refine TriL.g1 rfl (ltb rfl) rfl hg1 (op_un (ltb rfl) rfl rfl) ?_
      refine TriL.c1 rfl (op_pickf (ltb rfl) rfl hg1 rfl) ?_
      refine TriL.nil ?_
      refine Tri.cond rfl (fun hc2 => ?_) (fun hc2 => ?_)
      · refine Tri.seq ?_
        refine Tri.region ?_
        refine TriL.c1 rfl (op_as (ltb rfl) rfl) ?_
        refine TriL.nil ?_
        refine Tri.ret ?_
        exact ⟨.inr rfl, (ResOK.r1 rfl (.tmp rfl .nil)).cast (congrArg AV.bool (by have hE := @eqb_true _ a b; have hF := @eqb_false _ a b; grind [eqb_true, eqb_false, Tree.ext])), rfl⟩
      · refine Tri.ofKept (Kept.keep [.h, .s 2, .b 2, .s 3, .b 3] rfl (by decide) (Kept.now ?_))
        refine Tri.skip ?_
        exact ⟨(), by grind [eqb_true], rfl⟩
  · rintro _ hF3
    refine Tri.seq ?_
    refine Tri.seq ?_
    refine Tri.region ?_
    refine TriL.c1 rfl (op_as (ltb rfl) rfl) ?_
    refine TriL.nil ?_
    refine Tri.blk ?_
    refine Tri.ofKept (Kept.keep [.s 5, .h, .s 2, .b 2, .s 3, .b 3] rfl (by decide) (Kept.now ?_))
    -- LOOP 1
    refine Tri.loopk (fun (i : Nat) => [(.s 5, .sv (.v (.int .i64 (i : Int))))]) _ (fun (i : Nat) => a.slots.take i = b.slots.take i) (fun (i : Nat) => a.slots.length - i) 0 rfl rfl ?_
    rintro i hI
    refine Tri.seq ?_
    refine Tri.seq ?_
    refine Tri.region ?_
    refine TriL.c1 rfl (op_mv (ltb rfl) rfl) ?_
    refine TriL.c1 rfl (op_fal (ltb rfl) fo32_0_M6 rfl) ?_
    refine TriL.c1 rfl (op_ldl (ltb rfl) lk29_M6 rfl rfl rfl) ?_
    refine TriL.c1 rfl (op_lenl (ltb rfl) un29_M6 rfl) ?_
    refine TriL.c1 rfl (op_bin (ltb rfl) rfl rfl rfl) ?_
    refine TriL.nil ?_
    refine Tri.cond rfl (fun hc3 => ?_) (fun hc3 => ?_)
    · have hi := ltm hc3
      have hN := @ne_at _ a.slots b.slots i hi (by omega)
      refine Tri.skip ?_
      refine Tri.seq ?_
      refine Tri.blk ?_
      refine Tri.seq ?_
      refine Tri.drawn mixed rfl ?_
      refine TriD.c1 rfl (op_fal (ltb rfl) fo32_0_M6 rfl) ?_
      refine TriD.c1 rfl (op_ldl (ltb rfl) lk29_M6 rfl rfl rfl) ?_
      refine TriD.c1 rfl (op_mv (ltb rfl) rfl) ?_
      refine TriD.c1 rfl (op_iak (ltb rfl) ie29_M6 rfl rfl (Int.natCast_nonneg _) (ixmE Slot.av_eq (by omega)) rfl) ?_
      refine TriD.c1 rfl (op_fak (ltb rfl) fo83_0_M6 rfl) ?_
      refine TriD.c1 rfl (op_ldk (ltb rfl) lk3_M6 rfl rfl) ?_
      refine TriD.c1 rfl (op_fal (ltb rfl) fo32_0_M6 rfl) ?_
      refine TriD.c1 rfl (op_ldl (ltb rfl) lk29_M6 rfl rfl rfl) ?_
      refine TriD.c1 rfl (op_mv (ltb rfl) rfl) ?_
      refine TriD.c1 rfl (op_iak (ltb rfl) ie29_M6 rfl rfl (Int.natCast_nonneg _) (ixmE Slot.av_eq (by omega)) rfl) ?_
      refine TriD.c1 rfl (op_fak (ltb rfl) fo83_0_M6 rfl) ?_
      refine TriD.c1 rfl (op_ldk (ltb rfl) lk3_M6 rfl rfl) ?_
      refine TriD.c1 rfl (op_bin (ltb rfl) rfl rfl rfl) ?_
      refine TriD.c1 rfl (op_mv (ltb rfl) rfl) ?_
      refine TriD.split (d := 41) rfl (fun hg4 => ?_) (fun hg4 => ?_)
      · refine TriD.skipu rfl rfl (ltb rfl) (ltb rfl) rfl hg4 ?_
        refine TriD.skipu rfl rfl (ltb rfl) (ltb rfl) rfl hg4 ?_
        refine TriD.skipu rfl rfl (ltb rfl) (ltb rfl) rfl hg4 ?_
        refine TriD.skipu rfl rfl (ltb rfl) (ltb rfl) rfl hg4 ?_
        refine TriD.skipu rfl rfl (ltb rfl) (ltb rfl) rfl hg4 ?_
        refine TriD.skipu rfl rfl (ltb rfl) (ltb rfl) rfl hg4 ?_
        refine TriD.skipu rfl rfl (ltb rfl) (ltb rfl) rfl hg4 ?_
        refine TriD.skipu rfl rfl (ltb rfl) (ltb rfl) rfl hg4 ?_
        refine TriD.skipu rfl rfl (ltb rfl) (ltb rfl) rfl hg4 ?_
        refine TriD.skipu rfl rfl (ltb rfl) (ltb rfl) rfl hg4 ?_
        refine TriD.skipu rfl rfl (ltb rfl) (ltb rfl) rfl hg4 ?_
        refine TriD.skipu rfl rfl (ltb rfl) (ltb rfl) rfl hg4 ?_
        refine TriD.skipu rfl rfl (ltb rfl) (ltb rfl) rfl hg4 ?_
        refine TriD.skipu rfl rfl (ltb rfl) (ltb rfl) rfl hg4 ?_
        refine TriD.c1 rfl (op_pickt (ltb rfl) rfl hg4 rfl) ?_
        refine TriD.nil (by kernel_rfl) (Kept.now ?_)
        refine Tri.condT rfl rfl ?_
        refine Tri.seq ?_
        refine Tri.region ?_
        refine TriL.c1 rfl (op_as (ltb rfl) rfl) ?_
        refine TriL.nil ?_
        refine Tri.ret ?_
        exact ⟨.inr rfl, (ResOK.r1 rfl (.tmp rfl .nil)).cast (congrArg AV.bool (by have hE := @eqb_true _ a b; have hF := @eqb_false _ a b; grind [eqb_true, eqb_false, Tree.ext])), rfl⟩
      · refine TriD.g1 rfl (ltb rfl) rfl hg4 (op_fal (ltb rfl) fo32_0_M6 rfl) ?_
        refine TriD.g1 rfl (ltb rfl) rfl hg4 (op_ldl (ltb rfl) lk29_M6 rfl rfl rfl) ?_
        refine TriD.g1 rfl (ltb rfl) rfl hg4 (op_mv (ltb rfl) rfl) ?_
        refine TriD.g1 rfl (ltb rfl) rfl hg4 (op_iak (ltb rfl) ie29_M6 rfl rfl (Int.natCast_nonneg _) (ixmE Slot.av_eq (by omega)) rfl) ?_
        refine TriD.g1 rfl (ltb rfl) rfl hg4 (op_fak (ltb rfl) fo83_1_M6 rfl) ?_
        refine TriD.g1 rfl (ltb rfl) rfl hg4 (op_ldk (ltb rfl) lk81_M6 rfl rfl) ?_
        refine TriD.g1 rfl (ltb rfl) rfl hg4 (op_fal (ltb rfl) fo32_0_M6 rfl) ?_
        refine TriD.g1 rfl (ltb rfl) rfl hg4 (op_ldl (ltb rfl) lk29_M6 rfl rfl rfl) ?_
        refine TriD.g1 rfl (ltb rfl) rfl hg4 (op_mv (ltb rfl) rfl) ?_
        refine TriD.g1 rfl (ltb rfl) rfl hg4 (op_iak (ltb rfl) ie29_M6 rfl rfl (Int.natCast_nonneg _) (ixmE Slot.av_eq (by omega)) rfl) ?_
        refine TriD.g1 rfl (ltb rfl) rfl hg4 (op_fak (ltb rfl) fo83_1_M6 rfl) ?_
        refine TriD.g1 rfl (ltb rfl) rfl hg4 (op_ldk (ltb rfl) lk81_M6 rfl rfl) ?_
        refine TriD.g1 rfl (ltb rfl) rfl hg4 (op_call (ltb rfl) fn56_M6 rfl (r_samevals1 _ _ (hb.here.v _ (List.getElem_mem hi)) (hb.here.m _ (List.getElem_mem hi)) (ih _ (List.getElem_mem hi)))) ?_
        refine TriD.g1 rfl (ltb rfl) rfl hg4 (op_un (ltb rfl) rfl rfl) ?_
        refine TriD.c1 rfl (op_pickf (ltb rfl) rfl hg4 rfl) ?_
        refine TriD.nil (by kernel_rfl) (Kept.now ?_)
        refine Tri.cond rfl (fun hc5 => ?_) (fun hc5 => ?_)
        · refine Tri.seq ?_
          refine Tri.region ?_
          refine TriL.c1 rfl (op_as (ltb rfl) rfl) ?_
          refine TriL.nil ?_
          refine Tri.ret ?_
          exact ⟨.inr rfl, (ResOK.r1 rfl (.tmp rfl .nil)).cast (congrArg AV.bool (by have hE := @eqb_true _ a b; have hF := @eqb_false _ a b; grind [eqb_true, eqb_false, Tree.ext])), rfl⟩
        · refine Tri.skip ?_
          refine Tri.region ?_
          refine TriL.c1 rfl (op_mv (ltb rfl) rfl) ?_
          refine TriL.c1 rfl (op_bin (ltb rfl) rfl rfl rfl) ?_
          refine TriL.c1 rfl (op_as (ltb rfl) rfl) ?_
          refine TriL.kept (Kept.seti 5 rfl (inc (by omega)) (Kept.keep [.s 5, .h, .s 2, .b 2, .s 3, .b 3] rfl (by decide) (Kept.now ?_)))
          exact ⟨i + 1, by omega, take_eq_step hi (by omega) hI (Slot.ext (by grind) (by grind [eqb_true])), rfl⟩
    · have hi := gem hc3
      have hE2 := take_eq_end (a := a.slots) (b := b.slots) (by omega) hi hI
      have hQ := Tree.ext (a := a) (b := b) hE2 hF3.2
      refine Tri.exit ?_
      refine Tri.seq ?_
      refine Tri.region ?_
      refine TriL.c1 rfl (op_as (ltb rfl) rfl) ?_
      refine TriL.nil ?_
      refine Tri.ret ?_
      exact ⟨.inr rfl, (ResOK.r1 rfl (.tmp rfl .nil)).cast (congrArg AV.bool (by have hE := @eqb_true _ a b; have hF := @eqb_false _ a b; grind [eqb_true, eqb_false, Tree.ext])), rfl⟩
theorem r_same (a b : Tree) (hb : a.big) : Pure Tryz.prog 28 [.agg a.cells, .agg b.cells] (.bool (eqb a b)) :=
  Tree.ind (Q := fun a => a.big → ∀ b : Tree, Pure Tryz.prog 28 [.agg a.cells, .agg b.cells] (.bool (eqb a b))) (fun t ih hb b => r_same1 t b hb (fun x hx v hv u hu => ih x hx v hv u hu (hb.sub hu hv hx))) a hb b
end Go.Proofs.YtnpgcmeclkncnaaGreatDoor.X
