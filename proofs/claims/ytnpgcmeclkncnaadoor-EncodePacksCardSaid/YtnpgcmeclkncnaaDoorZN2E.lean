/- which values are values of a message of a schema, in the program. -/
import Derived.Test.YtnpgcmeclkncnaaDoorZN2D
set_option linter.unusedVariables false
set_option linter.unusedSimpArgs false
set_option linter.unusedSectionVars false
set_option maxRecDepth 100000
namespace Go.Proofs.YtnpgcmeclkncnaaDoor.X
open Go Go.RowKit Go.Proofs
theorem fn10_M9 : isFn Tryd.prog 10 = true := by kernel_rfl
theorem fn18_M9 : isFn Tryd.prog 18 = true := by kernel_rfl
theorem fn39_M9 : isFn Tryd.prog 39 = true := by kernel_rfl
theorem fn49_M9 : isFn Tryd.prog 49 = true := by kernel_rfl
theorem fn50_M9 : isFn Tryd.prog 50 = true := by kernel_rfl
theorem fn51_M9 : isFn Tryd.prog 51 = true := by kernel_rfl
theorem fn63_M9 : isFn Tryd.prog 63 = true := by kernel_rfl
theorem fn64_M9 : isFn Tryd.prog 64 = true := by kernel_rfl
theorem fn73_M9 : isFn Tryd.prog 73 = true := by kernel_rfl
theorem fn74_M9 : isFn Tryd.prog 74 = true := by kernel_rfl
theorem fo23_2_M9 : fo Tryd.prog 23 2 = some 2 := by kernel_rfl
theorem fo23_3_M9 : fo Tryd.prog 23 3 = some 3 := by kernel_rfl
theorem fo23_4_M9 : fo Tryd.prog 23 4 = some 4 := by kernel_rfl
theorem fo23_6_M9 : fo Tryd.prog 23 6 = some 6 := by kernel_rfl
theorem fo31_1_M9 : fo Tryd.prog 31 1 = some 1 := by kernel_rfl
theorem fo43_0_M9 : fo Tryd.prog 43 0 = some 0 := by kernel_rfl
theorem fo43_1_M9 : fo Tryd.prog 43 1 = some 1 := by kernel_rfl
theorem fo43_2_M9 : fo Tryd.prog 43 2 = some 2 := by kernel_rfl
theorem fo46_0_M9 : fo Tryd.prog 46 0 = some 0 := by kernel_rfl
theorem fo46_1_M9 : fo Tryd.prog 46 1 = some 1 := by kernel_rfl
theorem fo96_0_M9 : fo Tryd.prog 96 0 = some 0 := by kernel_rfl
theorem ie28_M9 : ie Tryd.prog 28 = some 7 := by kernel_rfl
theorem ie41_M9 : ie Tryd.prog 41 = some 2 := by kernel_rfl
theorem ie44_M9 : ie Tryd.prog 44 = some 3 := by kernel_rfl
theorem ie47_M9 : ie Tryd.prog 47 = some 2 := by kernel_rfl
theorem ie48_M9 : ie Tryd.prog 48 = some 4 := by kernel_rfl
theorem lk23_M9 : lk Tryd.prog 23 = some (true, 7) := by kernel_rfl
theorem lk28_M9 : lk Tryd.prog 28 = some (false, 1) := by kernel_rfl
theorem lk3_M9 : lk Tryd.prog 3 = some (false, 1) := by kernel_rfl
theorem lk31_M9 : lk Tryd.prog 31 = some (true, 3) := by kernel_rfl
theorem lk35_M9 : lk Tryd.prog 35 = some (true, 2) := by kernel_rfl
theorem lk4_M9 : lk Tryd.prog 4 = some (false, 1) := by kernel_rfl
theorem lk40_M9 : lk Tryd.prog 40 = some (false, 1) := by kernel_rfl
theorem lk41_M9 : lk Tryd.prog 41 = some (false, 1) := by kernel_rfl
theorem lk43_M9 : lk Tryd.prog 43 = some (true, 3) := by kernel_rfl
theorem lk44_M9 : lk Tryd.prog 44 = some (false, 1) := by kernel_rfl
theorem lk46_M9 : lk Tryd.prog 46 = some (true, 2) := by kernel_rfl
theorem lk50_M9 : lk Tryd.prog 50 = some (true, 2) := by kernel_rfl
theorem lk9_M9 : lk Tryd.prog 9 = some (false, 1) := by kernel_rfl
theorem lk96_M9 : lk Tryd.prog 96 = some (true, 4) := by kernel_rfl
theorem un3_M9 : Tryd.prog.underlying 3 = some (TypeDesc.int IntKind.i64) := Tryd.underlying3
theorem un41_M9 : Tryd.prog.underlying 41 = some (TypeDesc.slice 50) := Tryd.underlying41
theorem un44_M9 : Tryd.prog.underlying 44 = some (TypeDesc.slice 43) := Tryd.underlying44
theorem un47_M9 : Tryd.prog.underlying 47 = some (TypeDesc.slice 46) := Tryd.underlying47
theorem un48_M9 : Tryd.prog.underlying 48 = some (TypeDesc.slice 96) := Tryd.underlying48
theorem un9_M9 : Tryd.prog.underlying 9 = some TypeDesc.string := Tryd.underlying9
theorem un93_M9 : Tryd.prog.underlying 93 = some (TypeDesc.map 9 3) := Tryd.underlying93
theorem zA43_M9 : zeroA Tryd.prog 43 = some [AV.int IntKind.u64 (0), AV.str [], AV.sl []] := by kernel_rfl
theorem zA46_M9 : zeroA Tryd.prog 46 = some [AV.int IntKind.i64 (0), AV.sl []] := by kernel_rfl
theorem zA96_M9 : zeroA Tryd.prog 96 = some [AV.int IntKind.i64 (0), AV.int IntKind.i64 (0), AV.int IntKind.u64 (0), AV.str []] := by kernel_rfl
theorem zv3_M9 : ∀ w, (zeroValue 3).run Tryd.prog w = .ok (.int .i64 0) w := fun w => by kernel_rfl
theorem p_val (s : Sch) (f : Fld) (v : Val) (hvs : v.s.length ≤ 9223372036854775807) (ih : ∀ u ∈ v.m, ∀ name : Str, Pure Tryd.prog 18 [s.av, .str name, .agg u.cells] (.bool (u.ok s name))) : Pure Tryd.prog 63 [s.av, f.av, .agg v.cells] (.bool (v.ok s f)) := by
  have hE := Val.ok_eq s f v
  have hT1 := @treeOk1_one s f.ref v.m
  have hT0 := @treeOk1_no s f.ref v.m
  refine Pure.of_tri Tryd.func63 rfl rfl (ltb rfl) fun H => ?_
  refine Tri.seq ?_
  refine Tri.region ?_
  refine TriL.c2 rfl (op_box (ltb rfl) rfl rfl rfl) ?_
  refine TriL.c2 rfl (op_box (ltb rfl) rfl rfl rfl) ?_
  refine TriL.c2 rfl (op_box (ltb rfl) rfl rfl rfl) ?_
  refine TriL.c1 rfl (op_as (ltb rfl) rfl) ?_
  refine TriL.nil ?_
  refine Tri.joinu [.h, .s 3, .b 3, .s 4, .b 4, .s 5, .b 5] (fun (pl : Bool) => [(.s 7, .sv (.v (.bool pl)))]) (fun (pl : Bool) => pl = (decide (v.n = 0) && decide (v.m.length = 0))) rfl ?_ ?_
  · -- region 1 valid.go:16
    refine Tri.region ?_
    refine TriL.c1 rfl (op_fal (ltb rfl) fo43_0_M9 rfl) ?_
    refine TriL.c1 rfl (op_ldl (ltb rfl) lk40_M9 rfl rfl rfl) ?_
    refine TriL.c1 rfl (op_bin (ltb rfl) rfl rfl rfl) ?_
    refine TriL.c1 rfl (op_mv (ltb rfl) rfl) ?_
    refine TriL.split (d := 11) rfl (fun hg1 => ?_) (fun hg1 => ?_)
    · refine TriL.g1 rfl (ltb rfl) rfl hg1 (op_fal (ltb rfl) fo43_2_M9 rfl) ?_
      refine TriL.g1 rfl (ltb rfl) rfl hg1 (op_ldl (ltb rfl) lk41_M9 rfl rfl rfl) ?_
      refine TriL.g1 rfl (ltb rfl) rfl hg1 (op_lenl (ltb rfl) un41_M9 rfl) ?_
      refine TriL.g1 rfl (ltb rfl) rfl hg1 (op_bin (ltb rfl) rfl rfl rfl) ?_
      refine TriL.c1 rfl (op_pickt (ltb rfl) rfl hg1 rfl) ?_
      refine TriL.c1 rfl (op_as (ltb rfl) rfl) ?_
      refine TriL.kept (Kept.keep [.s 7, .h, .s 3, .b 3, .s 4, .b 4, .s 5, .b 5] rfl (by decide) (Kept.now ?_))
      exact ⟨_, by grind, rfl⟩
    · refine TriL.skipu rfl rfl (ltb rfl) (ltb rfl) rfl hg1 ?_
      refine TriL.skipu rfl rfl (ltb rfl) (ltb rfl) rfl hg1 ?_
      refine TriL.skipu rfl rfl (ltb rfl) (ltb rfl) rfl hg1 ?_
      refine TriL.skipu rfl rfl (ltb rfl) (ltb rfl) rfl hg1 ?_
      refine TriL.c1 rfl (op_pickf (ltb rfl) rfl hg1 rfl) ?_
      refine TriL.c1 rfl (op_as (ltb rfl) rfl) ?_
      refine TriL.kept (Kept.keep [.s 7, .h, .s 3, .b 3, .s 4, .b 4, .s 5, .b 5] rfl (by decide) (Kept.now ?_))
      exact ⟨_, by grind, rfl⟩
  · rintro pl hF2
    refine Tri.seq ?_
    refine Tri.blk ?_
    refine Tri.seq ?_
    refine Tri.region ?_
    refine TriL.c1 rfl (op_fal (ltb rfl) fo23_2_M9 rfl) ?_
    refine TriL.c1 rfl (op_ldl (ltb rfl) lk3_M9 rfl rfl rfl) ?_
    refine TriL.c1 rfl (op_call (ltb rfl) fn10_M9 rfl (p_numT _)) ?_
    refine TriL.c1 rfl (op_as (ltb rfl) rfl) ?_
    refine TriL.nil ?_
    refine Tri.cond rfl (fun hc2 => ?_) (fun hc2 => ?_)
    · refine Tri.seq ?_
      refine Tri.region ?_
      refine TriL.c1 rfl (op_fal (ltb rfl) fo23_2_M9 rfl) ?_
      refine TriL.c1 rfl (op_ldl (ltb rfl) lk3_M9 rfl rfl rfl) ?_
      refine TriL.c1 rfl (op_fal (ltb rfl) fo43_0_M9 rfl) ?_
      refine TriL.c1 rfl (op_ldl (ltb rfl) lk40_M9 rfl rfl rfl) ?_
      refine TriL.c1 rfl (op_call (ltb rfl) fn73_M9 rfl (p_may _ _)) ?_
      refine TriL.c1 rfl (op_mv (ltb rfl) rfl) ?_
      refine TriL.split (d := 26) rfl (fun hg3 => ?_) (fun hg3 => ?_)
      · refine TriL.g1 rfl (ltb rfl) rfl hg3 (op_fal (ltb rfl) fo43_1_M9 rfl) ?_
        refine TriL.g1 rfl (ltb rfl) rfl hg3 (op_ldl (ltb rfl) lk9_M9 rfl rfl rfl) ?_
        refine TriL.g1 rfl (ltb rfl) rfl hg3 (op_bin (ltb rfl) rfl rfl rfl) ?_
        refine TriL.c1 rfl (op_pickt (ltb rfl) rfl hg3 rfl) ?_
        refine TriL.c1 rfl (op_mv (ltb rfl) rfl) ?_
        refine TriL.split (d := 31) rfl (fun hg4 => ?_) (fun hg4 => ?_)
        · refine TriL.g1 rfl (ltb rfl) rfl hg4 (op_fal (ltb rfl) fo43_2_M9 rfl) ?_
          refine TriL.g1 rfl (ltb rfl) rfl hg4 (op_ldl (ltb rfl) lk41_M9 rfl rfl rfl) ?_
          refine TriL.g1 rfl (ltb rfl) rfl hg4 (op_lenl (ltb rfl) un41_M9 rfl) ?_
          refine TriL.g1 rfl (ltb rfl) rfl hg4 (op_bin (ltb rfl) rfl rfl rfl) ?_
          refine TriL.c1 rfl (op_pickt (ltb rfl) rfl hg4 rfl) ?_
          refine TriL.c1 rfl (op_as (ltb rfl) rfl) ?_
          refine TriL.nil ?_
          refine Tri.ret ?_
          exact ⟨.inr rfl, (ResOK.r1 rfl (.tmp rfl .nil)).cast (congrArg AV.bool (by grind [])), rfl⟩
        · refine TriL.skipu rfl rfl (ltb rfl) (ltb rfl) rfl hg4 ?_
          refine TriL.skipu rfl rfl (ltb rfl) (ltb rfl) rfl hg4 ?_
          refine TriL.skipu rfl rfl (ltb rfl) (ltb rfl) rfl hg4 ?_
          refine TriL.skipu rfl rfl (ltb rfl) (ltb rfl) rfl hg4 ?_
          refine TriL.c1 rfl (op_pickf (ltb rfl) rfl hg4 rfl) ?_
          refine TriL.c1 rfl (op_as (ltb rfl) rfl) ?_
          refine TriL.nil ?_
          refine Tri.ret ?_
          exact ⟨.inr rfl, (ResOK.r1 rfl (.tmp rfl .nil)).cast (congrArg AV.bool (by grind [])), rfl⟩
      · refine TriL.skipu rfl rfl (ltb rfl) (ltb rfl) rfl hg3 ?_
        refine TriL.skipu rfl rfl (ltb rfl) (ltb rfl) rfl hg3 ?_
        refine TriL.skipu rfl rfl (ltb rfl) (ltb rfl) rfl hg3 ?_
        refine TriL.c1 rfl (op_pickf (ltb rfl) rfl hg3 rfl) ?_
        refine TriL.c1 rfl (op_mv (ltb rfl) rfl) ?_
        refine TriL.skipu rfl rfl (ltb rfl) (ltb rfl) rfl rfl ?_
        refine TriL.skipu rfl rfl (ltb rfl) (ltb rfl) rfl rfl ?_
        refine TriL.skipu rfl rfl (ltb rfl) (ltb rfl) rfl rfl ?_
        refine TriL.skipu rfl rfl (ltb rfl) (ltb rfl) rfl rfl ?_
        refine TriL.c1 rfl (op_pickf (ltb rfl) rfl rfl rfl) ?_
        refine TriL.c1 rfl (op_as (ltb rfl) rfl) ?_
        refine TriL.nil ?_
        refine Tri.ret ?_
        exact ⟨.inr rfl, (ResOK.r1 rfl (.tmp rfl .nil)).cast (congrArg AV.bool (by grind [])), rfl⟩
    · refine Tri.seq ?_
      refine Tri.region ?_
      refine TriL.c1 rfl (op_fal (ltb rfl) fo23_2_M9 rfl) ?_
      refine TriL.c1 rfl (op_ldl (ltb rfl) lk3_M9 rfl rfl rfl) ?_
      refine TriL.c1 rfl (op_bin (ltb rfl) rfl rfl rfl) ?_
      refine TriL.c1 rfl (op_as (ltb rfl) rfl) ?_
      refine TriL.nil ?_
      refine Tri.cond rfl (fun hc5 => ?_) (fun hc5 => ?_)
      · refine Tri.seq ?_
        refine Tri.region ?_
        refine TriL.c1 rfl (op_mv (ltb rfl) rfl) ?_
        refine TriL.c1 rfl (op_mv (ltb rfl) rfl) ?_
        refine TriL.split (d := 42) rfl (fun hg6 => ?_) (fun hg6 => ?_)
        · refine TriL.g1 rfl (ltb rfl) rfl hg6 (op_fal (ltb rfl) fo43_1_M9 rfl) ?_
          refine TriL.g1 rfl (ltb rfl) rfl hg6 (op_ldl (ltb rfl) lk9_M9 rfl rfl rfl) ?_
          refine TriL.g1 rfl (ltb rfl) rfl hg6 (op_call (ltb rfl) fn74_M9 rfl (p_validS _ hvs)) ?_
          refine TriL.c1 rfl (op_pickt (ltb rfl) rfl hg6 rfl) ?_
          refine TriL.c1 rfl (op_as (ltb rfl) rfl) ?_
          refine TriL.nil ?_
          refine Tri.ret ?_
          exact ⟨.inr rfl, (ResOK.r1 rfl (.tmp rfl .nil)).cast (congrArg AV.bool (by grind [])), rfl⟩
        · refine TriL.skipu rfl rfl (ltb rfl) (ltb rfl) rfl hg6 ?_
          refine TriL.skipu rfl rfl (ltb rfl) (ltb rfl) rfl hg6 ?_
          refine TriL.skipu rfl rfl (ltb rfl) (ltb rfl) rfl hg6 ?_
          refine TriL.c1 rfl (op_pickf (ltb rfl) rfl hg6 rfl) ?_
          refine TriL.c1 rfl (op_as (ltb rfl) rfl) ?_
          refine TriL.nil ?_
          refine Tri.ret ?_
          exact ⟨.inr rfl, (ResOK.r1 rfl (.tmp rfl .nil)).cast (congrArg AV.bool (by grind [])), rfl⟩
      · refine Tri.seq ?_
        refine Tri.region ?_
        refine TriL.c1 rfl (op_fal (ltb rfl) fo23_2_M9 rfl) ?_
        refine TriL.c1 rfl (op_ldl (ltb rfl) lk3_M9 rfl rfl rfl) ?_
        refine TriL.c1 rfl (op_bin (ltb rfl) rfl rfl rfl) ?_
        refine TriL.c1 rfl (op_as (ltb rfl) rfl) ?_
        refine TriL.nil ?_
        refine Tri.cond rfl (fun hc7 => ?_) (fun hc7 => ?_)
        · refine Tri.seq ?_
          refine Tri.region ?_
          refine TriL.c1 rfl (op_mv (ltb rfl) rfl) ?_
          refine TriL.c1 rfl (op_as (ltb rfl) rfl) ?_
          refine TriL.nil ?_
          refine Tri.ret ?_
          exact ⟨.inr rfl, (ResOK.r1 rfl (.tmp rfl .nil)).cast (congrArg AV.bool (by grind [])), rfl⟩
        · refine Tri.seq ?_
          refine Tri.region ?_
          refine TriL.c1 rfl (op_fal (ltb rfl) fo23_2_M9 rfl) ?_
          refine TriL.c1 rfl (op_ldl (ltb rfl) lk3_M9 rfl rfl rfl) ?_
          refine TriL.c1 rfl (op_bin (ltb rfl) rfl rfl rfl) ?_
          refine TriL.c1 rfl (op_as (ltb rfl) rfl) ?_
          refine TriL.nil ?_
          refine Tri.cond rfl (fun hc8 => ?_) (fun hc8 => ?_)
          · refine Tri.seq ?_
            refine Tri.drawn mixed rfl ?_
            refine TriD.c1 rfl (op_fal (ltb rfl) fo43_0_M9 rfl) ?_
            refine TriD.c1 rfl (op_ldl (ltb rfl) lk40_M9 rfl rfl rfl) ?_
            refine TriD.c1 rfl (op_bin (ltb rfl) rfl rfl rfl) ?_
            refine TriD.c1 rfl (op_mv (ltb rfl) rfl) ?_
            refine TriD.split (d := 59) rfl (fun hg9 => ?_) (fun hg9 => ?_)
            · refine TriD.g1 rfl (ltb rfl) rfl hg9 (op_fal (ltb rfl) fo43_1_M9 rfl) ?_
              refine TriD.g1 rfl (ltb rfl) rfl hg9 (op_ldl (ltb rfl) lk9_M9 rfl rfl rfl) ?_
              refine TriD.g1 rfl (ltb rfl) rfl hg9 (op_bin (ltb rfl) rfl rfl rfl) ?_
              refine TriD.c1 rfl (op_pickt (ltb rfl) rfl hg9 rfl) ?_
              refine TriD.c1 rfl (op_mv (ltb rfl) rfl) ?_
              refine TriD.split (d := 64) rfl (fun hg10 => ?_) (fun hg10 => ?_)
              · refine TriD.g1 rfl (ltb rfl) rfl hg10 (op_fal (ltb rfl) fo43_2_M9 rfl) ?_
                refine TriD.g1 rfl (ltb rfl) rfl hg10 (op_ldl (ltb rfl) lk41_M9 rfl rfl rfl) ?_
                refine TriD.g1 rfl (ltb rfl) rfl hg10 (op_lenl (ltb rfl) un41_M9 rfl) ?_
                refine TriD.g1 rfl (ltb rfl) rfl hg10 (op_bin (ltb rfl) rfl rfl rfl) ?_
                refine TriD.c1 rfl (op_pickt (ltb rfl) rfl hg10 rfl) ?_
                refine TriD.c1 rfl (op_mv (ltb rfl) rfl) ?_
                refine TriD.split (d := 70) rfl (fun hg11 => ?_) (fun hg11 => ?_)
                · refine TriD.g1 rfl (ltb rfl) rfl hg11 (op_ldl (ltb rfl) lk35_M9 rfl rfl rfl) ?_
                  refine TriD.g1 rfl (ltb rfl) rfl hg11 (op_fal (ltb rfl) fo23_3_M9 rfl) ?_
                  refine TriD.g1 rfl (ltb rfl) rfl hg11 (op_ldl (ltb rfl) lk9_M9 rfl rfl rfl) ?_
                  refine TriD.g1 rfl (ltb rfl) rfl hg11 (op_fal (ltb rfl) fo43_2_M9 rfl) ?_
                  refine TriD.g1 rfl (ltb rfl) rfl hg11 (op_ldl (ltb rfl) lk41_M9 rfl rfl rfl) ?_
                  refine TriD.g1 rfl (ltb rfl) rfl hg11 (op_iak (ltb rfl) ie41_M9 rfl rfl (by decide) (ixmE (i := 0) Tree.av_eq (by grind)) rfl) ?_
                  refine TriD.g1 rfl (ltb rfl) rfl hg11 (op_ldk (ltb rfl) lk50_M9 rfl rfl) ?_
                  refine TriD.g1 rfl (ltb rfl) rfl hg11 (op_call (ltb rfl) fn18_M9 rfl (ih _ (List.getElem_mem (by grind)) _)) ?_
                  refine TriD.c1 rfl (op_pickt (ltb rfl) rfl hg11 rfl) ?_
                  refine TriD.c1 rfl (op_as (ltb rfl) rfl) ?_
                  refine TriD.nil (by kernel_rfl) (Kept.now ?_)
                  refine Tri.ret ?_
                  exact ⟨.inr rfl, (ResOK.r1 rfl (.tmp rfl .nil)).cast (congrArg AV.bool (by have hm1 : v.m.length = 1 := (by have h := hg11; simp at h; omega); have hq := hT1 hm1; have h0 : v.n = 0 := (by simpa using hg9); have hs0 : v.s = [] := (by simpa using hg10); have hty : f.ty = 15 := (by simpa using hc8); have hnt : numT 15 = false := (by decide); rw [hE, if_neg (by simp [hc2]), if_neg (by omega), if_neg (by omega), if_pos hty, hq, h0, hs0]; simp)), rfl⟩
                · refine TriD.skipu rfl rfl (ltb rfl) (ltb rfl) rfl hg11 ?_
                  refine TriD.skipu rfl rfl (ltb rfl) (ltb rfl) rfl hg11 ?_
                  refine TriD.skipu rfl rfl (ltb rfl) (ltb rfl) rfl hg11 ?_
                  refine TriD.skipu rfl rfl (ltb rfl) (ltb rfl) rfl hg11 ?_
                  refine TriD.skipu rfl rfl (ltb rfl) (ltb rfl) rfl hg11 ?_
                  refine TriD.skipu rfl rfl (ltb rfl) (ltb rfl) rfl hg11 ?_
                  refine TriD.skipu rfl rfl (ltb rfl) (ltb rfl) rfl hg11 ?_
                  refine TriD.skipu rfl rfl (ltb rfl) (ltb rfl) rfl hg11 ?_
                  refine TriD.c1 rfl (op_pickf (ltb rfl) rfl hg11 rfl) ?_
                  refine TriD.c1 rfl (op_as (ltb rfl) rfl) ?_
                  refine TriD.nil (by kernel_rfl) (Kept.now ?_)
                  refine Tri.ret ?_
                  exact ⟨.inr rfl, (ResOK.r1 rfl (.tmp rfl .nil)).cast (congrArg AV.bool (by grind [])), rfl⟩
              · refine TriD.skipu rfl rfl (ltb rfl) (ltb rfl) rfl hg10 ?_
                refine TriD.skipu rfl rfl (ltb rfl) (ltb rfl) rfl hg10 ?_
                refine TriD.skipu rfl rfl (ltb rfl) (ltb rfl) rfl hg10 ?_
                refine TriD.skipu rfl rfl (ltb rfl) (ltb rfl) rfl hg10 ?_
                refine TriD.c1 rfl (op_pickf (ltb rfl) rfl hg10 rfl) ?_
                refine TriD.c1 rfl (op_mv (ltb rfl) rfl) ?_
                refine TriD.skipu rfl rfl (ltb rfl) (ltb rfl) rfl rfl ?_
                refine TriD.skipu rfl rfl (ltb rfl) (ltb rfl) rfl rfl ?_
                refine TriD.skipu rfl rfl (ltb rfl) (ltb rfl) rfl rfl ?_
                refine TriD.skipu rfl rfl (ltb rfl) (ltb rfl) rfl rfl ?_
                refine TriD.skipu rfl rfl (ltb rfl) (ltb rfl) rfl rfl ?_
                refine TriD.skipu rfl rfl (ltb rfl) (ltb rfl) rfl rfl ?_
                refine TriD.skipu rfl rfl (ltb rfl) (ltb rfl) rfl rfl ?_
                refine TriD.skipu rfl rfl (ltb rfl) (ltb rfl) rfl rfl ?_
                refine TriD.c1 rfl (op_pickf (ltb rfl) rfl rfl rfl) ?_
                refine TriD.c1 rfl (op_as (ltb rfl) rfl) ?_
                refine TriD.nil (by kernel_rfl) (Kept.now ?_)
                refine Tri.ret ?_
                exact ⟨.inr rfl, (ResOK.r1 rfl (.tmp rfl .nil)).cast (congrArg AV.bool (by grind [])), rfl⟩
            · refine TriD.skipu rfl rfl (ltb rfl) (ltb rfl) rfl hg9 ?_
              refine TriD.skipu rfl rfl (ltb rfl) (ltb rfl) rfl hg9 ?_
              refine TriD.skipu rfl rfl (ltb rfl) (ltb rfl) rfl hg9 ?_
              refine TriD.c1 rfl (op_pickf (ltb rfl) rfl hg9 rfl) ?_
              refine TriD.c1 rfl (op_mv (ltb rfl) rfl) ?_
              refine TriD.skipu rfl rfl (ltb rfl) (ltb rfl) rfl rfl ?_
              refine TriD.skipu rfl rfl (ltb rfl) (ltb rfl) rfl rfl ?_
              refine TriD.skipu rfl rfl (ltb rfl) (ltb rfl) rfl rfl ?_
              refine TriD.skipu rfl rfl (ltb rfl) (ltb rfl) rfl rfl ?_
              refine TriD.c1 rfl (op_pickf (ltb rfl) rfl rfl rfl) ?_
              refine TriD.c1 rfl (op_mv (ltb rfl) rfl) ?_
              refine TriD.skipu rfl rfl (ltb rfl) (ltb rfl) rfl rfl ?_
              refine TriD.skipu rfl rfl (ltb rfl) (ltb rfl) rfl rfl ?_
              refine TriD.skipu rfl rfl (ltb rfl) (ltb rfl) rfl rfl ?_
              refine TriD.skipu rfl rfl (ltb rfl) (ltb rfl) rfl rfl ?_
              refine TriD.skipu rfl rfl (ltb rfl) (ltb rfl) rfl rfl ?_
              refine TriD.skipu rfl rfl (ltb rfl) (ltb rfl) rfl rfl ?_
              refine TriD.skipu rfl rfl (ltb rfl) (ltb rfl) rfl rfl ?_
              refine TriD.skipu rfl rfl (ltb rfl) (ltb rfl) rfl rfl ?_
              refine TriD.c1 rfl (op_pickf (ltb rfl) rfl rfl rfl) ?_
              refine TriD.c1 rfl (op_as (ltb rfl) rfl) ?_
              refine TriD.nil (by kernel_rfl) (Kept.now ?_)
              refine Tri.ret ?_
              exact ⟨.inr rfl, (ResOK.r1 rfl (.tmp rfl .nil)).cast (congrArg AV.bool (by grind [])), rfl⟩
          · refine Tri.skip ?_
            refine Tri.seq ?_
            refine Tri.region ?_
            refine TriL.c1 rfl (op_as (ltb rfl) rfl) ?_
            refine TriL.nil ?_
            refine Tri.ret ?_
            exact ⟨.inr rfl, (ResOK.r1 rfl (.tmp rfl .nil)).cast (congrArg AV.bool (by grind [])), rfl⟩
theorem p_vals (s : Sch) (f : Fld) (l : List Val) (hl : l.length ≤ 9223372036854775807) (hvs : ∀ v ∈ l, v.s.length ≤ 9223372036854775807) (ih : ∀ v ∈ l, ∀ u ∈ v.m, ∀ name : Str, Pure Tryd.prog 18 [s.av, .str name, .agg u.cells] (.bool (u.ok s name))) : Pure Tryd.prog 49 [s.av, f.av, .sl (l.map Val.av)] (.bool (decide (0 < l.length) && (f.rep || decide (l.length = 1)) && l.all fun v => v.ok s f && (!f.hidden || (!decide (v.n = 0) || !(v.s == []))))) := by
  refine Pure.of_tri Tryd.func49 rfl rfl (ltb rfl) fun H => ?_
  refine Tri.seq ?_
  refine Tri.region ?_
  refine TriL.c2 rfl (op_box (ltb rfl) rfl rfl rfl) ?_
  refine TriL.c2 rfl (op_box (ltb rfl) rfl rfl rfl) ?_
  refine TriL.c1 rfl (op_as (ltb rfl) rfl) ?_
  refine TriL.nil ?_
  refine Tri.joinu [.h, .s 2, .s 3, .b 3, .s 4, .b 4] (fun (_ : Unit) => []) (fun (_ : Unit) => 0 < l.length ∧ (f.rep = true ∨ l.length = 1)) rfl ?_ ?_
  · refine Tri.seq ?_
    refine Tri.region ?_
    refine TriL.c1 rfl (op_mv (ltb rfl) rfl) ?_
    refine TriL.c1 rfl (op_lenl (ltb rfl) un44_M9 rfl) ?_
    refine TriL.c1 rfl (op_bin (ltb rfl) rfl rfl rfl) ?_
    refine TriL.c1 rfl (op_mv (ltb rfl) rfl) ?_
    refine TriL.split (d := 12) rfl (fun hg1 => ?_) (fun hg1 => ?_)
    · refine TriL.skipu rfl rfl (ltb rfl) (ltb rfl) rfl hg1 ?_
      refine TriL.skipu rfl rfl (ltb rfl) (ltb rfl) rfl hg1 ?_
      refine TriL.skipu rfl rfl (ltb rfl) (ltb rfl) rfl hg1 ?_
      refine TriL.skipu rfl rfl (ltb rfl) (ltb rfl) rfl hg1 ?_
      refine TriL.skipg rfl rfl (ltb rfl) (ltb rfl) rfl ?_
      refine TriL.skipg rfl rfl (ltb rfl) (ltb rfl) rfl ?_
      refine TriL.skipg rfl rfl (ltb rfl) (ltb rfl) rfl ?_
      refine TriL.skipu rfl rfl (ltb rfl) (ltb rfl) rfl hg1 ?_
      refine TriL.c1 rfl (op_pickt (ltb rfl) rfl hg1 rfl) ?_
      refine TriL.nil ?_
      refine Tri.condT rfl rfl ?_
      refine Tri.seq ?_
      refine Tri.region ?_
      refine TriL.c1 rfl (op_as (ltb rfl) rfl) ?_
      refine TriL.nil ?_
      refine Tri.ret ?_
      exact ⟨.inr rfl, (ResOK.r1 rfl (.tmp rfl .nil)).cast (congrArg AV.bool (by grind [])), rfl⟩
    · refine TriL.g1 rfl (ltb rfl) rfl hg1 (op_fal (ltb rfl) fo23_4_M9 rfl) ?_
      refine TriL.g1 rfl (ltb rfl) rfl hg1 (op_ldl (ltb rfl) lk4_M9 rfl rfl rfl) ?_
      refine TriL.g1 rfl (ltb rfl) rfl hg1 (op_un (ltb rfl) rfl rfl) ?_
      refine TriL.g1 rfl (ltb rfl) rfl hg1 (op_mv (ltb rfl) rfl) ?_
      refine TriL.split (d := 16) rfl (fun hg2 => ?_) (fun hg2 => ?_)
      · refine TriL.g1 rfl (ltb rfl) rfl hg2 (op_mv (ltb rfl) rfl) ?_
        refine TriL.g1 rfl (ltb rfl) rfl hg2 (op_lenl (ltb rfl) un44_M9 rfl) ?_
        refine TriL.g1 rfl (ltb rfl) rfl hg2 (op_bin (ltb rfl) rfl rfl rfl) ?_
        refine TriL.g1 rfl (ltb rfl) rfl hg1 (op_pickt (ltb rfl) rfl hg2 rfl) ?_
        refine TriL.c1 rfl (op_pickf (ltb rfl) rfl hg1 rfl) ?_
        refine TriL.nil ?_
        refine Tri.cond rfl (fun hc3 => ?_) (fun hc3 => ?_)
        · refine Tri.seq ?_
          refine Tri.region ?_
          refine TriL.c1 rfl (op_as (ltb rfl) rfl) ?_
          refine TriL.nil ?_
          refine Tri.ret ?_
          exact ⟨.inr rfl, (ResOK.r1 rfl (.tmp rfl .nil)).cast (congrArg AV.bool (by grind [])), rfl⟩
        · refine Tri.ofKept (Kept.keep [.h, .s 2, .s 3, .b 3, .s 4, .b 4] rfl (by decide) (Kept.now ?_))
          refine Tri.skip ?_
          exact ⟨(), by grind, rfl⟩
      · refine TriL.skipu rfl rfl (ltb rfl) (ltb rfl) rfl hg2 ?_
        refine TriL.skipu rfl rfl (ltb rfl) (ltb rfl) rfl hg2 ?_
        refine TriL.skipu rfl rfl (ltb rfl) (ltb rfl) rfl hg2 ?_
        refine TriL.g1 rfl (ltb rfl) rfl hg1 (op_pickf (ltb rfl) rfl hg2 rfl) ?_
        refine TriL.c1 rfl (op_pickf (ltb rfl) rfl hg1 rfl) ?_
        refine TriL.nil ?_
        refine Tri.condF rfl rfl ?_
        refine Tri.ofKept (Kept.keep [.h, .s 2, .s 3, .b 3, .s 4, .b 4] rfl (by decide) (Kept.now ?_))
        refine Tri.skip ?_
        exact ⟨(), by grind, rfl⟩
  · rintro _ hF3
    refine Tri.seq ?_
    refine Tri.seq ?_
    refine Tri.region ?_
    refine TriL.c1 rfl (op_mv (ltb rfl) rfl) ?_
    refine TriL.c1 rfl (op_lenl (ltb rfl) un44_M9 rfl) ?_
    refine TriL.c1 rfl (op_mv (ltb rfl) rfl) ?_
    refine TriL.nil ?_
    refine Tri.blk ?_
    refine Tri.ofKept (Kept.keep [.s 24, .h, .s 3, .b 3, .s 4, .b 4, .s 22, .s 23] rfl (by decide) (Kept.now ?_))
    -- LOOP 1
    refine Tri.loopk (fun (i : Nat) => [(.s 24, .sv (.v (.int .i64 (i : Int))))]) _ (fun (i : Nat) => (l.drop i).all (fun v => v.ok s f && (!f.hidden || (!decide (v.n = 0) || !(v.s == [])))) = l.all (fun v => v.ok s f && (!f.hidden || (!decide (v.n = 0) || !(v.s == []))))) (fun (i : Nat) => l.length - i) 0 rfl (by simp) ?_
    rintro i hI
    refine Tri.seq ?_
    refine Tri.region ?_
    refine TriL.c1 rfl (op_bin (ltb rfl) rfl rfl rfl) ?_
    refine TriL.nil ?_
    refine Tri.seq ?_
    refine Tri.cond rfl (fun hc4 => ?_) (fun hc4 => ?_)
    · have hi := ltm hc4
      have hS := all_step (p := fun v : Val => v.ok s f && (!f.hidden || (!decide (v.n = 0) || !(v.s == [])))) hi
      refine Tri.skip ?_
      refine Tri.seq ?_
      refine Tri.blk ?_
      refine Tri.seq ?_
      refine Tri.region ?_
      refine TriL.c1 rfl (op_iak (ltb rfl) ie44_M9 rfl rfl (Int.natCast_nonneg _) (ixmE Val.av_eq hi) rfl) ?_
      refine TriL.c1 rfl (op_ldk (ltb rfl) lk43_M9 rfl rfl) ?_
      refine TriL.c2 rfl (op_all (ltb rfl) zA43_M9 rfl) ?_
      refine TriL.c1 rfl (op_stl lk43_M9 rfl rfl rfl rfl rfl (leb rfl)) ?_
      refine TriL.nil ?_
      refine Tri.seq ?_
      refine Tri.region ?_
      refine TriL.c1 rfl (op_ldl (ltb rfl) lk35_M9 rfl rfl rfl) ?_
      refine TriL.c1 rfl (op_ldl (ltb rfl) lk23_M9 rfl rfl rfl) ?_
      refine TriL.c1 rfl (op_ldl (ltb rfl) lk43_M9 rfl rfl rfl) ?_
      refine TriL.c1 rfl (op_call (ltb rfl) fn63_M9 rfl (p_val _ _ _ (hvs _ (List.getElem_mem hi)) (ih _ (List.getElem_mem hi)))) ?_
      refine TriL.c1 rfl (op_un (ltb rfl) rfl rfl) ?_
      refine TriL.c1 rfl (op_mv (ltb rfl) rfl) ?_
      refine TriL.split (d := 33) rfl (fun hg5 => ?_) (fun hg5 => ?_)
      · refine TriL.skipu rfl rfl (ltb rfl) (ltb rfl) rfl hg5 ?_
        refine TriL.skipu rfl rfl (ltb rfl) (ltb rfl) rfl hg5 ?_
        refine TriL.skipu rfl rfl (ltb rfl) (ltb rfl) rfl hg5 ?_
        refine TriL.skipg rfl rfl (ltb rfl) (ltb rfl) rfl ?_
        refine TriL.skipg rfl rfl (ltb rfl) (ltb rfl) rfl ?_
        refine TriL.skipg rfl rfl (ltb rfl) (ltb rfl) rfl ?_
        refine TriL.skipu rfl rfl (ltb rfl) (ltb rfl) rfl hg5 ?_
        refine TriL.skipu rfl rfl (ltb rfl) (ltb rfl) rfl hg5 ?_
        refine TriL.skipg rfl rfl (ltb rfl) (ltb rfl) rfl ?_
        refine TriL.skipg rfl rfl (ltb rfl) (ltb rfl) rfl ?_
        refine TriL.skipg rfl rfl (ltb rfl) (ltb rfl) rfl ?_
        refine TriL.skipu rfl rfl (ltb rfl) (ltb rfl) rfl hg5 ?_
        refine TriL.c1 rfl (op_pickt (ltb rfl) rfl hg5 rfl) ?_
        refine TriL.nil ?_
        refine Tri.condT rfl rfl ?_
        refine Tri.seq ?_
        refine Tri.region ?_
        refine TriL.c1 rfl (op_as (ltb rfl) rfl) ?_
        refine TriL.nil ?_
        refine Tri.ret ?_
        exact ⟨.inr rfl, (ResOK.r1 rfl (.tmp rfl .nil)).cast (congrArg AV.bool (by grind [])), rfl⟩
      · refine TriL.g1 rfl (ltb rfl) rfl hg5 (op_ldl (ltb rfl) lk23_M9 rfl rfl rfl) ?_
        refine TriL.g1 rfl (ltb rfl) rfl hg5 (op_call (ltb rfl) fn64_M9 rfl (p_hidden _)) ?_
        refine TriL.g1 rfl (ltb rfl) rfl hg5 (op_mv (ltb rfl) rfl) ?_
        refine TriL.split (d := 36) rfl (fun hg6 => ?_) (fun hg6 => ?_)
        · refine TriL.g1 rfl (ltb rfl) rfl hg6 (op_fal (ltb rfl) fo43_0_M9 rfl) ?_
          refine TriL.g1 rfl (ltb rfl) rfl hg6 (op_ldl (ltb rfl) lk40_M9 rfl rfl rfl) ?_
          refine TriL.g1 rfl (ltb rfl) rfl hg6 (op_bin (ltb rfl) rfl rfl rfl) ?_
          refine TriL.g1 rfl (ltb rfl) rfl hg5 (op_pickt (ltb rfl) rfl hg6 rfl) ?_
          refine TriL.g1 rfl (ltb rfl) rfl hg5 (op_mv (ltb rfl) rfl) ?_
          refine TriL.split (d := 41) rfl (fun hg7 => ?_) (fun hg7 => ?_)
          · refine TriL.g1 rfl (ltb rfl) rfl hg7 (op_fal (ltb rfl) fo43_1_M9 rfl) ?_
            refine TriL.g1 rfl (ltb rfl) rfl hg7 (op_ldl (ltb rfl) lk9_M9 rfl rfl rfl) ?_
            refine TriL.g1 rfl (ltb rfl) rfl hg7 (op_bin (ltb rfl) rfl rfl rfl) ?_
            refine TriL.g1 rfl (ltb rfl) rfl hg5 (op_pickt (ltb rfl) rfl hg7 rfl) ?_
            refine TriL.c1 rfl (op_pickf (ltb rfl) rfl hg5 rfl) ?_
            refine TriL.nil ?_
            refine Tri.cond rfl (fun hc8 => ?_) (fun hc8 => ?_)
            · refine Tri.seq ?_
              refine Tri.region ?_
              refine TriL.c1 rfl (op_as (ltb rfl) rfl) ?_
              refine TriL.nil ?_
              refine Tri.ret ?_
              exact ⟨.inr rfl, (ResOK.r1 rfl (.tmp rfl .nil)).cast (congrArg AV.bool (by grind [])), rfl⟩
            · refine Tri.skip ?_
              refine Tri.region ?_
              refine TriL.c1 rfl (op_bin (ltb rfl) rfl rfl rfl) ?_
              refine TriL.c1 rfl (op_mv (ltb rfl) rfl) ?_
              refine TriL.kept (Kept.seti 24 rfl (inc (by omega)) (Kept.keep [.s 24, .h, .s 3, .b 3, .s 4, .b 4, .s 22, .s 23] rfl (by decide) (Kept.now ?_)))
              exact ⟨i + 1, by omega, by grind, rfl⟩
          · refine TriL.skipu rfl rfl (ltb rfl) (ltb rfl) rfl hg7 ?_
            refine TriL.skipu rfl rfl (ltb rfl) (ltb rfl) rfl hg7 ?_
            refine TriL.skipu rfl rfl (ltb rfl) (ltb rfl) rfl hg7 ?_
            refine TriL.g1 rfl (ltb rfl) rfl hg5 (op_pickf (ltb rfl) rfl hg7 rfl) ?_
            refine TriL.c1 rfl (op_pickf (ltb rfl) rfl hg5 rfl) ?_
            refine TriL.nil ?_
            refine Tri.condF rfl rfl ?_
            refine Tri.skip ?_
            refine Tri.region ?_
            refine TriL.c1 rfl (op_bin (ltb rfl) rfl rfl rfl) ?_
            refine TriL.c1 rfl (op_mv (ltb rfl) rfl) ?_
            refine TriL.kept (Kept.seti 24 rfl (inc (by omega)) (Kept.keep [.s 24, .h, .s 3, .b 3, .s 4, .b 4, .s 22, .s 23] rfl (by decide) (Kept.now ?_)))
            exact ⟨i + 1, by omega, by grind, rfl⟩
        · refine TriL.skipu rfl rfl (ltb rfl) (ltb rfl) rfl hg6 ?_
          refine TriL.skipu rfl rfl (ltb rfl) (ltb rfl) rfl hg6 ?_
          refine TriL.skipu rfl rfl (ltb rfl) (ltb rfl) rfl hg6 ?_
          refine TriL.g1 rfl (ltb rfl) rfl hg5 (op_pickf (ltb rfl) rfl hg6 rfl) ?_
          refine TriL.g1 rfl (ltb rfl) rfl hg5 (op_mv (ltb rfl) rfl) ?_
          refine TriL.skipu rfl rfl (ltb rfl) (ltb rfl) rfl rfl ?_
          refine TriL.skipu rfl rfl (ltb rfl) (ltb rfl) rfl rfl ?_
          refine TriL.skipu rfl rfl (ltb rfl) (ltb rfl) rfl rfl ?_
          refine TriL.g1 rfl (ltb rfl) rfl hg5 (op_pickf (ltb rfl) rfl rfl rfl) ?_
          refine TriL.c1 rfl (op_pickf (ltb rfl) rfl hg5 rfl) ?_
          refine TriL.nil ?_
          refine Tri.condF rfl rfl ?_
          refine Tri.skip ?_
          refine Tri.region ?_
          refine TriL.c1 rfl (op_bin (ltb rfl) rfl rfl rfl) ?_
          refine TriL.c1 rfl (op_mv (ltb rfl) rfl) ?_
          refine TriL.kept (Kept.seti 24 rfl (inc (by omega)) (Kept.keep [.s 24, .h, .s 3, .b 3, .s 4, .b 4, .s 22, .s 23] rfl (by decide) (Kept.now ?_)))
          exact ⟨i + 1, by omega, by grind, rfl⟩
    · have hi := gem hc4
      have hS := all_end (p := fun v : Val => v.ok s f && (!f.hidden || (!decide (v.n = 0) || !(v.s == [])))) hi
      refine Tri.exit ?_
      refine Tri.seq ?_
      refine Tri.region ?_
      refine TriL.c1 rfl (op_as (ltb rfl) rfl) ?_
      refine TriL.nil ?_
      refine Tri.ret ?_
      exact ⟨.inr rfl, (ResOK.r1 rfl (.tmp rfl .nil)).cast (congrArg AV.bool (by grind [])), rfl⟩
theorem p_restk (m : Msg) (r : Rw) (hl : m.fields.length ≤ 1000) : Pure Tryd.prog 50 ([r.av] ++ [.kp m.cells]) (.bool (decide (0 ≤ m.at r.num))) := by
  refine Pure.of_tri Tryd.func50 rfl rfl (ltb rfl) fun H => ?_
  refine Tri.seq ?_
  refine Tri.region ?_
  refine TriL.c2 rfl (op_box (ltb rfl) rfl rfl rfl) ?_
  refine TriL.c1 rfl (op_as (ltb rfl) rfl) ?_
  refine TriL.nil ?_
  refine Tri.seq ?_
  refine Tri.region ?_
  refine TriL.c1 rfl (op_ldk (ltb rfl) lk31_M9 rfl rfl) ?_
  refine TriL.c1 rfl (op_fal (ltb rfl) fo96_0_M9 rfl) ?_
  refine TriL.c1 rfl (op_ldl (ltb rfl) lk3_M9 rfl rfl rfl) ?_
  refine TriL.c1 rfl (op_call (ltb rfl) fn39_M9 rfl (p_number _ _ (by omega))) ?_
  refine TriL.c1 rfl (op_bin (ltb rfl) rfl rfl rfl) ?_
  refine TriL.c1 rfl (op_as (ltb rfl) rfl) ?_
  refine TriL.nil ?_
  refine Tri.ret ?_
  exact ⟨.inr rfl, (ResOK.r1 rfl (.tmp rfl .nil)).cast rfl, rfl⟩
theorem p_rest (m : Msg) (l : List Rw) (hl : l.length ≤ 9223372036854775807) (hm : m.fields.length ≤ 1000) : Pure Tryd.prog 35 [m.av, .sl (l.map Rw.av)] (.bool (l.all (restOK m))) := by
  refine Pure.of_tri Tryd.func35 rfl rfl (ltb rfl) fun H => ?_
  refine Tri.seq ?_
  refine Tri.region ?_
  refine TriL.c2 rfl (op_box (ltb rfl) rfl rfl rfl) ?_
  refine TriL.c1 rfl (op_as (ltb rfl) rfl) ?_
  refine TriL.nil ?_
  refine Tri.seq ?_
  refine Tri.ofKept (Kept.fzb 2 rfl rfl (Kept.now ?_))
  refine Tri.region ?_
  refine TriL.c1 rfl (op_mkf (ltb rfl) rfl) ?_
  refine TriL.c1 rfl (op_as (ltb rfl) rfl) ?_
  refine TriL.nil ?_
  refine Tri.seq ?_
  refine Tri.seq ?_
  refine Tri.region ?_
  refine TriL.c1 rfl (op_mv (ltb rfl) rfl) ?_
  refine TriL.c1 rfl (op_lenl (ltb rfl) un48_M9 rfl) ?_
  refine TriL.c1 rfl (op_mv (ltb rfl) rfl) ?_
  refine TriL.nil ?_
  refine Tri.blk ?_
  refine Tri.ofKept (Kept.keep [.s 11, .h, .s 5, .s 9, .s 10] rfl (by decide) (Kept.now ?_))
  -- LOOP 1
  refine Tri.loopk (fun (i : Nat) => [(.s 11, .sv (.v (.int .i64 (i : Int))))]) _ (fun (i : Nat) => (l.drop i).all (restOK m) = l.all (restOK m)) (fun (i : Nat) => l.length - i) 0 rfl (by simp) ?_
  rintro i hI
  refine Tri.seq ?_
  refine Tri.region ?_
  refine TriL.c1 rfl (op_bin (ltb rfl) rfl rfl rfl) ?_
  refine TriL.nil ?_
  refine Tri.seq ?_
  refine Tri.cond rfl (fun hc1 => ?_) (fun hc1 => ?_)
  · have hi := ltm hc1
    have hS := all_step (p := restOK m) hi
    have hA := m.at_cases (l[i]'hi).num
    refine Tri.skip ?_
    refine Tri.seq ?_
    refine Tri.blk ?_
    refine Tri.seq ?_
    refine Tri.region ?_
    refine TriL.c1 rfl (op_iak (ltb rfl) ie48_M9 rfl rfl (Int.natCast_nonneg _) (ixm hi) rfl) ?_
    refine TriL.c1 rfl (op_ldk (ltb rfl) lk96_M9 rfl rfl) ?_
    refine TriL.c2 rfl (op_all (ltb rfl) zA96_M9 rfl) ?_
    refine TriL.c1 rfl (op_stl lk96_M9 rfl rfl rfl rfl rfl (leb rfl)) ?_
    refine TriL.nil ?_
    refine Tri.seq ?_
    refine Tri.region ?_
    refine TriL.c1 rfl (op_ldl (ltb rfl) lk96_M9 rfl rfl rfl) ?_
    refine TriL.c1 rfl (op_call (ltb rfl) fn51_M9 rfl (p_rright _)) ?_
    refine TriL.c1 rfl (op_un (ltb rfl) rfl rfl) ?_
    refine TriL.c1 rfl (op_mv (ltb rfl) rfl) ?_
    refine TriL.split (d := 18) rfl (fun hg2 => ?_) (fun hg2 => ?_)
    · refine TriL.skipu rfl rfl (ltb rfl) (ltb rfl) rfl hg2 ?_
      refine TriL.skipu rfl rfl (ltb rfl) (ltb rfl) rfl hg2 ?_
      refine TriL.skipu rfl rfl (ltb rfl) (ltb rfl) rfl hg2 ?_
      refine TriL.c1 rfl (op_pickt (ltb rfl) rfl hg2 rfl) ?_
      refine TriL.nil ?_
      refine Tri.condT rfl rfl ?_
      refine Tri.seq ?_
      refine Tri.region ?_
      refine TriL.c1 rfl (op_as (ltb rfl) rfl) ?_
      refine TriL.nil ?_
      refine Tri.ret ?_
      exact ⟨.inr rfl, (ResOK.r1 rfl (.tmp rfl .nil)).cast (congrArg AV.bool (by grind [restOK])), rfl⟩
    · refine TriL.g1 rfl (ltb rfl) rfl hg2 (op_mv (ltb rfl) rfl) ?_
      refine TriL.g1 rfl (ltb rfl) rfl hg2 (op_ldl (ltb rfl) lk96_M9 rfl rfl rfl) ?_
      refine TriL.g1 rfl (ltb rfl) rfl hg2 (op_callc (ltb rfl) fn50_M9 rfl rfl (p_restk m (l[i]'hi) hm)) ?_
      refine TriL.c1 rfl (op_pickf (ltb rfl) rfl hg2 rfl) ?_
      refine TriL.nil ?_
      refine Tri.cond rfl (fun hc3 => ?_) (fun hc3 => ?_)
      · refine Tri.seq ?_
        refine Tri.region ?_
        refine TriL.c1 rfl (op_as (ltb rfl) rfl) ?_
        refine TriL.nil ?_
        refine Tri.ret ?_
        exact ⟨.inr rfl, (ResOK.r1 rfl (.tmp rfl .nil)).cast (congrArg AV.bool (by grind [restOK])), rfl⟩
      · refine Tri.skip ?_
        refine Tri.region ?_
        refine TriL.c1 rfl (op_bin (ltb rfl) rfl rfl rfl) ?_
        refine TriL.c1 rfl (op_mv (ltb rfl) rfl) ?_
        refine TriL.kept (Kept.seti 11 rfl (inc (by omega)) (Kept.keep [.s 11, .h, .s 5, .s 9, .s 10] rfl (by decide) (Kept.now ?_)))
        exact ⟨i + 1, by omega, by grind [restOK], rfl⟩
  · have hi := gem hc1
    have hS := all_end (p := restOK m) hi
    refine Tri.exit ?_
    refine Tri.seq ?_
    refine Tri.region ?_
    refine TriL.c1 rfl (op_as (ltb rfl) rfl) ?_
    refine TriL.nil ?_
    refine Tri.ret ?_
    exact ⟨.inr rfl, (ResOK.r1 rfl (.tmp rfl .nil)).cast (congrArg AV.bool (by grind [restOK])), rfl⟩
theorem p_slots (s : Sch) (m : Msg) (l : List Slot) (hl : l.length ≤ 9223372036854775807) (hm : m.fields.length ≤ 1000) (ho : ∀ f ∈ m.fields, f.one.length ≤ 1000) (hvals : ∀ x ∈ l, ∀ f : Fld, Pure Tryd.prog 49 [s.av, f.av, .sl (x.vals.map Val.av)] (.bool (decide (0 < x.vals.length) && (f.rep || decide (x.vals.length = 1)) && x.vals.all fun v => v.ok s f && (!f.hidden || (!decide (v.n = 0) || !(v.s == [])))))) : Pure Tryd.prog 34 [s.av, m.av, .sl (l.map Slot.av)] (.bool (slotsOk s m l none [])) := by
  refine Pure.of_tri Tryd.func34 rfl rfl (ltb rfl) fun H => ?_
  refine Tri.seq ?_
  refine Tri.region ?_
  refine TriL.c2 rfl (op_box (ltb rfl) rfl rfl rfl) ?_
  refine TriL.c2 rfl (op_box (ltb rfl) rfl rfl rfl) ?_
  refine TriL.c1 rfl (op_as (ltb rfl) rfl) ?_
  refine TriL.nil ?_
  refine Tri.seq ?_
  refine Tri.region ?_
  refine TriL.c2 rfl (op_mkm (kt := 9) (et := 3) (ltb rfl) rfl) ?_
  refine TriL.c1 rfl (op_as (ltb rfl) rfl) ?_
  refine TriL.nil ?_
  refine Tri.seq ?_
  refine Tri.seq ?_
  refine Tri.region ?_
  refine TriL.c1 rfl (op_mv (ltb rfl) rfl) ?_
  refine TriL.c1 rfl (op_lenl (ltb rfl) un47_M9 rfl) ?_
  refine TriL.c1 rfl (op_mv (ltb rfl) rfl) ?_
  refine TriL.nil ?_
  refine Tri.blk ?_
  refine Tri.ofKept (Kept.keep [.s 15, .b 12, .h, .s 2, .s 3, .b 3, .s 4, .b 4, .s 7, .s 13, .s 14] rfl (by decide) (Kept.now ?_))
  -- LOOP 1
  refine Tri.loopk (fun ((i, f) : Nat × (List UInt8 → Int)) => [(.s 15, .sv (.v (.int .i64 (i : Int)))), (.b 12, .raw (MapSI Tryd.prog 9 3 i f))]) _ (fun ((i, f) : Nat × (List UInt8 → Int)) => (∀ key, f key = ((((l.take i).map m.oneOf).count key : Nat) : Int)) ∧ slotsAt s m l i = slotsOk s m l none []) (fun ((i, f) : Nat × (List UInt8 → Int)) => l.length - i) (0, fun _ => 0) rfl ⟨by simp, slotsAt_zero s m l⟩ ?_
  rintro ⟨i, f⟩ ⟨hf, hI⟩
  refine Tri.seq ?_
  refine Tri.region ?_
  refine TriL.c1 rfl (op_bin (ltb rfl) rfl rfl rfl) ?_
  refine TriL.nil ?_
  refine Tri.seq ?_
  refine Tri.cond rfl (fun hc1 => ?_) (fun hc1 => ?_)
  · have hi := ltm hc1
    have hS := @slotsAt_step s m l i hi
    refine Tri.skip ?_
    refine Tri.seq ?_
    refine Tri.blk ?_
    refine Tri.seq ?_
    refine Tri.region ?_
    refine TriL.c1 rfl (op_mv (ltb rfl) rfl) ?_
    refine TriL.c1 rfl (op_iak (ltb rfl) ie47_M9 rfl rfl (Int.natCast_nonneg _) (ixmE Slot.av_eq hi) rfl) ?_
    refine TriL.c1 rfl (op_ldk (ltb rfl) lk46_M9 rfl rfl) ?_
    refine TriL.c2 rfl (op_all (ltb rfl) zA46_M9 rfl) ?_
    refine TriL.c1 rfl (op_as (ltb rfl) rfl) ?_
    refine TriL.c1 rfl (op_stl lk46_M9 rfl rfl rfl rfl rfl (leb rfl)) ?_
    refine TriL.nil ?_
    refine Tri.seq ?_
    refine Tri.region ?_
    refine TriL.c1 rfl (op_ldl (ltb rfl) lk31_M9 rfl rfl rfl) ?_
    refine TriL.c1 rfl (op_fal (ltb rfl) fo46_0_M9 rfl) ?_
    refine TriL.c1 rfl (op_ldl (ltb rfl) lk3_M9 rfl rfl rfl) ?_
    refine TriL.c1 rfl (op_call (ltb rfl) fn39_M9 rfl (p_number _ _ (by omega))) ?_
    refine TriL.c1 rfl (op_as (ltb rfl) rfl) ?_
    refine TriL.nil ?_
    refine Tri.joinu [.h, .s 2, .s 3, .b 3, .s 4, .b 4, .s 7, .b 12, .s 10, .s 13, .s 14, .s 15] (fun (_ : Unit) => []) (fun (_ : Unit) => decide (m.at (l[i]'hi).num < 0) = false ∧ (match lastN l i with | none => true | some n => decide (n < (l[i]'hi).num)) = true ∧ (l[i]'hi).ok s m = true) rfl ?_ ?_
    · refine Tri.seq ?_
      refine Tri.drawn mixed rfl ?_
      refine TriD.c1 rfl (op_mv (ltb rfl) rfl) ?_
      refine TriD.c1 rfl (op_bin (ltb rfl) rfl rfl rfl) ?_
      refine TriD.c1 rfl (op_mv (ltb rfl) rfl) ?_
      refine TriD.split (d := 26) rfl (fun hg2 => ?_) (fun hg2 => ?_)
      · refine TriD.skipu rfl rfl (ltb rfl) (ltb rfl) rfl hg2 ?_
        refine TriD.skipu rfl rfl (ltb rfl) (ltb rfl) rfl hg2 ?_
        refine TriD.skipu rfl rfl (ltb rfl) (ltb rfl) rfl hg2 ?_
        refine TriD.skipg rfl rfl (ltb rfl) (ltb rfl) rfl ?_
        refine TriD.skipg rfl rfl (ltb rfl) (ltb rfl) rfl ?_
        refine TriD.skipg rfl rfl (ltb rfl) (ltb rfl) rfl ?_
        refine TriD.skipg rfl rfl (ltb rfl) (ltb rfl) rfl ?_
        refine TriD.skipg rfl rfl (ltb rfl) (ltb rfl) rfl ?_
        refine TriD.skipg rfl rfl (ltb rfl) (ltb rfl) rfl ?_
        refine TriD.skipg rfl rfl (ltb rfl) (ltb rfl) rfl ?_
        refine TriD.skipg rfl rfl (ltb rfl) (ltb rfl) rfl ?_
        refine TriD.skipg rfl rfl (ltb rfl) (ltb rfl) rfl ?_
        refine TriD.skipu rfl rfl (ltb rfl) (ltb rfl) rfl hg2 ?_
        refine TriD.c1 rfl (op_pickt (ltb rfl) rfl hg2 rfl) ?_
        refine TriD.c1 rfl (op_mv (ltb rfl) rfl) ?_
        refine TriD.skipu rfl rfl (ltb rfl) (ltb rfl) rfl rfl ?_
        refine TriD.skipu rfl rfl (ltb rfl) (ltb rfl) rfl rfl ?_
        refine TriD.skipu rfl rfl (ltb rfl) (ltb rfl) rfl rfl ?_
        refine TriD.skipu rfl rfl (ltb rfl) (ltb rfl) rfl rfl ?_
        refine TriD.skipu rfl rfl (ltb rfl) (ltb rfl) rfl rfl ?_
        refine TriD.skipu rfl rfl (ltb rfl) (ltb rfl) rfl rfl ?_
        refine TriD.skipu rfl rfl (ltb rfl) (ltb rfl) rfl rfl ?_
        refine TriD.skipu rfl rfl (ltb rfl) (ltb rfl) rfl rfl ?_
        refine TriD.skipu rfl rfl (ltb rfl) (ltb rfl) rfl rfl ?_
        refine TriD.skipu rfl rfl (ltb rfl) (ltb rfl) rfl rfl ?_
        refine TriD.c1 rfl (op_pickt (ltb rfl) rfl rfl rfl) ?_
        refine TriD.nil (by kernel_rfl) (Kept.now ?_)
        refine Tri.condT rfl rfl ?_
        refine Tri.seq ?_
        refine Tri.region ?_
        refine TriL.c1 rfl (op_as (ltb rfl) rfl) ?_
        refine TriL.nil ?_
        refine Tri.ret ?_
        exact ⟨.inr rfl, (ResOK.r1 rfl (.tmp rfl .nil)).cast (congrArg AV.bool (by have hO : (l[i]'hi).ok s m = false := (by rw [Slot.ok_eq, Msg.at_no hg2]); grind)), rfl⟩
      · refine TriD.g1 rfl (ltb rfl) rfl hg2 (op_mv (ltb rfl) rfl) ?_
        refine TriD.g1 rfl (ltb rfl) rfl hg2 (op_bin (ltb rfl) rfl rfl rfl) ?_
        refine TriD.g1 rfl (ltb rfl) rfl hg2 (op_mv (ltb rfl) rfl) ?_
        refine TriD.split (d := 29) rfl (fun hg3 => ?_) (fun hg3 => ?_)
        · refine TriD.g1 rfl (ltb rfl) rfl hg3 (op_mv (ltb rfl) rfl) ?_
          refine TriD.g1 rfl (ltb rfl) rfl hg3 (op_mv (ltb rfl) rfl) ?_
          refine TriD.g1 rfl (ltb rfl) rfl hg3 (op_bin (ltb rfl) rfl rfl rfl) ?_
          refine TriD.g1 rfl (ltb rfl) rfl hg3 (op_iak (ltb rfl) ie47_M9 rfl rfl (by rw [dec1 (by have := of_decide_eq_true hg3; omega) (by omega)]; exact Int.natCast_nonneg _) (ixmE1 Slot.av_eq (dec1 (by have := of_decide_eq_true hg3; omega) (by omega)) (show i - 1 < l.length by omega)) rfl) ?_
          refine TriD.g1 rfl (ltb rfl) rfl hg3 (op_fak (ltb rfl) fo46_0_M9 rfl) ?_
          refine TriD.g1 rfl (ltb rfl) rfl hg3 (op_ldk (ltb rfl) lk3_M9 rfl rfl) ?_
          refine TriD.g1 rfl (ltb rfl) rfl hg3 (op_fal (ltb rfl) fo46_0_M9 rfl) ?_
          refine TriD.g1 rfl (ltb rfl) rfl hg3 (op_ldl (ltb rfl) lk3_M9 rfl rfl rfl) ?_
          refine TriD.g1 rfl (ltb rfl) rfl hg3 (op_bin (ltb rfl) rfl rfl rfl) ?_
          refine TriD.g1 rfl (ltb rfl) rfl hg2 (op_pickt (ltb rfl) rfl hg3 rfl) ?_
          refine TriD.c1 rfl (op_pickf (ltb rfl) rfl hg2 rfl) ?_
          refine TriD.c1 rfl (op_mv (ltb rfl) rfl) ?_
          refine TriD.split (d := 41) rfl (fun hg4 => ?_) (fun hg4 => ?_)
          · refine TriD.skipu rfl rfl (ltb rfl) (ltb rfl) rfl hg4 ?_
            refine TriD.skipu rfl rfl (ltb rfl) (ltb rfl) rfl hg4 ?_
            refine TriD.skipu rfl rfl (ltb rfl) (ltb rfl) rfl hg4 ?_
            refine TriD.skipu rfl rfl (ltb rfl) (ltb rfl) rfl hg4 ?_
            refine TriD.skipu rfl rfl (ltb rfl) (ltb rfl) rfl hg4 ?_
            refine TriD.skipu rfl rfl (ltb rfl) (ltb rfl) rfl hg4 ?_
            refine TriD.skipu rfl rfl (ltb rfl) (ltb rfl) rfl hg4 ?_
            refine TriD.skipu rfl rfl (ltb rfl) (ltb rfl) rfl hg4 ?_
            refine TriD.skipu rfl rfl (ltb rfl) (ltb rfl) rfl hg4 ?_
            refine TriD.skipu rfl rfl (ltb rfl) (ltb rfl) rfl hg4 ?_
            refine TriD.c1 rfl (op_pickt (ltb rfl) rfl hg4 rfl) ?_
            refine TriD.nil (by kernel_rfl) (Kept.now ?_)
            refine Tri.condT rfl rfl ?_
            refine Tri.seq ?_
            refine Tri.region ?_
            refine TriL.c1 rfl (op_as (ltb rfl) rfl) ?_
            refine TriL.nil ?_
            refine Tri.ret ?_
            exact ⟨.inr rfl, (ResOK.r1 rfl (.tmp rfl .nil)).cast (congrArg AV.bool (by rw [lastN_pos (by have := of_decide_eq_true hg3; omega) hi] at hS; grind)), rfl⟩
          · refine TriD.g1 rfl (ltb rfl) rfl hg4 (op_ldl (ltb rfl) lk35_M9 rfl rfl rfl) ?_
            refine TriD.g1 rfl (ltb rfl) rfl hg4 (op_fal (ltb rfl) fo31_1_M9 rfl) ?_
            refine TriD.g1 rfl (ltb rfl) rfl hg4 (op_ldl (ltb rfl) lk28_M9 rfl rfl rfl) ?_
            refine TriD.g1 rfl (ltb rfl) rfl hg4 (op_mv (ltb rfl) rfl) ?_
            refine TriD.g1 rfl (ltb rfl) rfl hg4 (op_iak (ltb rfl) ie28_M9 rfl rfl (Msg.at_nn hg2) (ixm1 (Msg.at_eq hg2) (Msg.at_lt hg2)) rfl) ?_
            refine TriD.g1 rfl (ltb rfl) rfl hg4 (op_ldk (ltb rfl) lk23_M9 rfl rfl) ?_
            refine TriD.g1 rfl (ltb rfl) rfl hg4 (op_fal (ltb rfl) fo46_1_M9 rfl) ?_
            refine TriD.g1 rfl (ltb rfl) rfl hg4 (op_ldl (ltb rfl) lk44_M9 rfl rfl rfl) ?_
            refine TriD.g1 rfl (ltb rfl) rfl hg4 (op_call (ltb rfl) fn49_M9 rfl (hvals _ (List.getElem_mem hi) _)) ?_
            refine TriD.g1 rfl (ltb rfl) rfl hg4 (op_un (ltb rfl) rfl rfl) ?_
            refine TriD.c1 rfl (op_pickf (ltb rfl) rfl hg4 rfl) ?_
            refine TriD.nil (by kernel_rfl) (Kept.now ?_)
            refine Tri.cond rfl (fun hc5 => ?_) (fun hc5 => ?_)
            · refine Tri.seq ?_
              refine Tri.region ?_
              refine TriL.c1 rfl (op_as (ltb rfl) rfl) ?_
              refine TriL.nil ?_
              refine Tri.ret ?_
              exact ⟨.inr rfl, (ResOK.r1 rfl (.tmp rfl .nil)).cast (congrArg AV.bool (by have hO : (l[i]'hi).ok s m = false := (by rw [Slot.ok_vals (Msg.at_fix hg2)]; exact ntr hc5); grind)), rfl⟩
            · refine Tri.ofKept (Kept.keep [.h, .s 2, .s 3, .b 3, .s 4, .b 4, .s 7, .b 12, .s 10, .s 13, .s 14, .s 15] rfl (by decide) (Kept.now ?_))
              refine Tri.skip ?_
              exact ⟨(), ⟨hg2, by rw [lastN_pos (by have := of_decide_eq_true hg3; omega) hi]; simpa using hg4, by rw [Slot.ok_vals (Msg.at_fix hg2)]; exact nfl hc5⟩, rfl⟩
        · refine TriD.skipu rfl rfl (ltb rfl) (ltb rfl) rfl hg3 ?_
          refine TriD.skipu rfl rfl (ltb rfl) (ltb rfl) rfl hg3 ?_
          refine TriD.skipu rfl rfl (ltb rfl) (ltb rfl) rfl hg3 ?_
          refine TriD.skipu rfl rfl (ltb rfl) (ltb rfl) rfl hg3 ?_
          refine TriD.skipu rfl rfl (ltb rfl) (ltb rfl) rfl hg3 ?_
          refine TriD.skipu rfl rfl (ltb rfl) (ltb rfl) rfl hg3 ?_
          refine TriD.skipu rfl rfl (ltb rfl) (ltb rfl) rfl hg3 ?_
          refine TriD.skipu rfl rfl (ltb rfl) (ltb rfl) rfl hg3 ?_
          refine TriD.skipu rfl rfl (ltb rfl) (ltb rfl) rfl hg3 ?_
          refine TriD.g1 rfl (ltb rfl) rfl hg2 (op_pickf (ltb rfl) rfl hg3 rfl) ?_
          refine TriD.c1 rfl (op_pickf (ltb rfl) rfl hg2 rfl) ?_
          refine TriD.c1 rfl (op_mv (ltb rfl) rfl) ?_
          refine TriD.g1 rfl (ltb rfl) rfl rfl (op_ldl (ltb rfl) lk35_M9 rfl rfl rfl) ?_
          refine TriD.g1 rfl (ltb rfl) rfl rfl (op_fal (ltb rfl) fo31_1_M9 rfl) ?_
          refine TriD.g1 rfl (ltb rfl) rfl rfl (op_ldl (ltb rfl) lk28_M9 rfl rfl rfl) ?_
          refine TriD.g1 rfl (ltb rfl) rfl rfl (op_mv (ltb rfl) rfl) ?_
          refine TriD.g1 rfl (ltb rfl) rfl rfl (op_iak (ltb rfl) ie28_M9 rfl rfl (Msg.at_nn hg2) (ixm1 (Msg.at_eq hg2) (Msg.at_lt hg2)) rfl) ?_
          refine TriD.g1 rfl (ltb rfl) rfl rfl (op_ldk (ltb rfl) lk23_M9 rfl rfl) ?_
          refine TriD.g1 rfl (ltb rfl) rfl rfl (op_fal (ltb rfl) fo46_1_M9 rfl) ?_
          refine TriD.g1 rfl (ltb rfl) rfl rfl (op_ldl (ltb rfl) lk44_M9 rfl rfl rfl) ?_
          refine TriD.g1 rfl (ltb rfl) rfl rfl (op_call (ltb rfl) fn49_M9 rfl (hvals _ (List.getElem_mem hi) _)) ?_
          refine TriD.g1 rfl (ltb rfl) rfl rfl (op_un (ltb rfl) rfl rfl) ?_
          refine TriD.c1 rfl (op_pickf (ltb rfl) rfl rfl rfl) ?_
          refine TriD.nil (by kernel_rfl) (Kept.now ?_)
          refine Tri.cond rfl (fun hc6 => ?_) (fun hc6 => ?_)
          · refine Tri.seq ?_
            refine Tri.region ?_
            refine TriL.c1 rfl (op_as (ltb rfl) rfl) ?_
            refine TriL.nil ?_
            refine Tri.ret ?_
            exact ⟨.inr rfl, (ResOK.r1 rfl (.tmp rfl .nil)).cast (congrArg AV.bool (by have hO : (l[i]'hi).ok s m = false := (by rw [Slot.ok_vals (Msg.at_fix hg2)]; exact ntr hc6); grind)), rfl⟩
          · refine Tri.ofKept (Kept.keep [.h, .s 2, .s 3, .b 3, .s 4, .b 4, .s 7, .b 12, .s 10, .s 13, .s 14, .s 15] rfl (by decide) (Kept.now ?_))
            refine Tri.skip ?_
            exact ⟨(), ⟨hg2, by have h0 : i = 0 := (by have := of_decide_eq_false hg3; omega); subst h0; rw [lastN_zero], by rw [Slot.ok_vals (Msg.at_fix hg2)]; exact nfl hc6⟩, rfl⟩
    · rintro _ hF8
      refine Tri.seq ?_
      refine Tri.region ?_
      refine TriL.c1 rfl (op_fal (ltb rfl) fo31_1_M9 rfl) ?_
      refine TriL.c1 rfl (op_ldl (ltb rfl) lk28_M9 rfl rfl rfl) ?_
      refine TriL.c1 rfl (op_mv (ltb rfl) rfl) ?_
      refine TriL.c1 rfl (op_iak (ltb rfl) ie28_M9 rfl rfl (Msg.at_nn hF8.1) (ixm1 (Msg.at_eq hF8.1) (Msg.at_lt hF8.1)) rfl) ?_
      refine TriL.c1 rfl (op_fak (ltb rfl) fo23_6_M9 rfl) ?_
      refine TriL.c1 rfl (op_ldk (ltb rfl) lk9_M9 rfl rfl) ?_
      refine TriL.c1 rfl (op_as (ltb rfl) rfl) ?_
      refine TriL.nil ?_
      refine Tri.seq ?_
      refine Tri.region ?_
      refine TriL.c1 rfl (op_mv (ltb rfl) rfl) ?_
      refine TriL.c1 rfl (op_mv (ltb rfl) rfl) ?_
      refine TriL.c1 rfl (op_lku (ltb rfl) un93_M9 un9_M9 un3_M9 zv3_M9 rfl rfl rfl (by have := ho _ (List.getElem_mem (Msg.at_lt hF8.1)); omega)) ?_
      refine TriL.c1 rfl (op_bin (ltb rfl) rfl rfl rfl) ?_
      refine TriL.c1 rfl (op_mpu un93_M9 un9_M9 un3_M9 rfl rfl rfl rfl (by have := ho _ (List.getElem_mem (Msg.at_lt hF8.1)); omega) (by omega) (wf64 _)) ?_
      refine TriL.nil ?_
      refine Tri.seq ?_
      refine Tri.region ?_
      refine TriL.c1 rfl (op_mv (ltb rfl) rfl) ?_
      refine TriL.c1 rfl (op_bin (ltb rfl) rfl rfl rfl) ?_
      refine TriL.c1 rfl (op_mv (ltb rfl) rfl) ?_
      refine TriL.split (d := 65) rfl (fun hg7 => ?_) (fun hg7 => ?_)
      · refine TriL.g1 rfl (ltb rfl) rfl hg7 (op_mv (ltb rfl) rfl) ?_
        refine TriL.g1 rfl (ltb rfl) rfl hg7 (op_mv (ltb rfl) rfl) ?_
        refine TriL.g1 rfl (ltb rfl) rfl hg7 (op_lku (ltb rfl) un93_M9 un9_M9 un3_M9 zv3_M9 rfl rfl rfl (by have := ho _ (List.getElem_mem (Msg.at_lt hF8.1)); omega)) ?_
        refine TriL.g1 rfl (ltb rfl) rfl hg7 (op_bin (ltb rfl) rfl rfl rfl) ?_
        refine TriL.c1 rfl (op_pickt (ltb rfl) rfl hg7 rfl) ?_
        refine TriL.nil ?_
        refine Tri.cond rfl (fun hc8 => ?_) (fun hc8 => ?_)
        · refine Tri.seq ?_
          refine Tri.region ?_
          refine TriL.c1 rfl (op_as (ltb rfl) rfl) ?_
          refine TriL.nil ?_
          refine Tri.ret ?_
          exact ⟨.inr rfl, (ResOK.r1 rfl (.tmp rfl .nil)).cast (congrArg AV.bool (by have hN := @cnt_new m l i f (m.fields[m.ixN (l[i]'hi).num]'(Msg.at_lt hF8.1)).one hf (by omega); have hX : (1 < IntKind.i64.wrap (f (m.fields[m.ixN (l[i]'hi).num]'(Msg.at_lt hF8.1)).one + 1)) := (by simpa using hc8); have hQ : newOne ((l.take i).map m.oneOf) (m.oneOf (l[i]'hi)) = false := (by rw [oneOf_fix (Msg.at_fix hF8.1)]; unfold newOne; rw [← hN]; simp [hX]; simpa using hg7); grind)), rfl⟩
        · refine Tri.skip ?_
          refine Tri.region ?_
          refine TriL.c1 rfl (op_bin (ltb rfl) rfl rfl rfl) ?_
          refine TriL.c1 rfl (op_mv (ltb rfl) rfl) ?_
          refine TriL.kept (Kept.seti 15 rfl (inc (by omega)) (Kept.keep [.s 15, .b 12, .h, .s 2, .s 3, .b 3, .s 4, .b 4, .s 7, .s 13, .s 14] rfl (by decide) (Kept.now ?_)))
          have hN := @cnt_new m l i f (m.fields[m.ixN (l[i]'hi).num]'(Msg.at_lt hF8.1)).one hf (by omega)
          have hX : ¬ (1 < IntKind.i64.wrap (f (m.fields[m.ixN (l[i]'hi).num]'(Msg.at_lt hF8.1)).one + 1)) := by simpa using hc8
          have hQ : newOne ((l.take i).map m.oneOf) (m.oneOf (l[i]'hi)) = true := by rw [oneOf_fix (Msg.at_fix hF8.1)]; unfold newOne; rw [← hN]; simp [hX]
          exact ⟨(i + 1, _), (by dsimp only; omega), ⟨cnt_step hi hf (oneOf_fix (Msg.at_fix hF8.1)) (by omega), by grind⟩, rfl⟩
      · refine TriL.skipu rfl rfl (ltb rfl) (ltb rfl) rfl hg7 ?_
        refine TriL.skipu rfl rfl (ltb rfl) (ltb rfl) rfl hg7 ?_
        refine TriL.skipu rfl rfl (ltb rfl) (ltb rfl) rfl hg7 ?_
        refine TriL.skipu rfl rfl (ltb rfl) (ltb rfl) rfl hg7 ?_
        refine TriL.c1 rfl (op_pickf (ltb rfl) rfl hg7 rfl) ?_
        refine TriL.nil ?_
        refine Tri.condF rfl rfl ?_
        refine Tri.skip ?_
        refine Tri.region ?_
        refine TriL.c1 rfl (op_bin (ltb rfl) rfl rfl rfl) ?_
        refine TriL.c1 rfl (op_mv (ltb rfl) rfl) ?_
        refine TriL.kept (Kept.seti 15 rfl (inc (by omega)) (Kept.keep [.s 15, .b 12, .h, .s 2, .s 3, .b 3, .s 4, .b 4, .s 7, .s 13, .s 14] rfl (by decide) (Kept.now ?_)))
        have hQ : newOne ((l.take i).map m.oneOf) (m.oneOf (l[i]'hi)) = true := by rw [oneOf_fix (Msg.at_fix hF8.1)]; unfold newOne; simp at hg7; simp [hg7]
        exact ⟨(i + 1, _), (by dsimp only; omega), ⟨cnt_step hi hf (oneOf_fix (Msg.at_fix hF8.1)) (by omega), by grind⟩, rfl⟩
  · have hi := gem hc1
    have hS := @slotsAt_end s m l i hi
    refine Tri.exit ?_
    refine Tri.seq ?_
    refine Tri.region ?_
    refine TriL.c1 rfl (op_as (ltb rfl) rfl) ?_
    refine TriL.nil ?_
    refine Tri.ret ?_
    exact ⟨.inr rfl, (ResOK.r1 rfl (.tmp rfl .nil)).cast (congrArg AV.bool (by grind [])), rfl⟩
end Go.Proofs.YtnpgcmeclkncnaaDoor.X
/- which values are values of a message of a schema, in the program and in the document. -/
set_option linter.unusedVariables false
set_option linter.unusedSimpArgs false
set_option linter.unusedSectionVars false
set_option maxRecDepth 100000
namespace Go.Proofs.YtnpgcmeclkncnaaDoor.X
open Go Go.RowKit Go.Proofs
theorem fn17_MA : isFn Tryd.prog 17 = true := by kernel_rfl
theorem fn34_MA : isFn Tryd.prog 34 = true := by kernel_rfl
theorem fn35_MA : isFn Tryd.prog 35 = true := by kernel_rfl
theorem fo35_1_MA : fo Tryd.prog 35 1 = some 1 := by kernel_rfl
theorem fo50_0_MA : fo Tryd.prog 50 0 = some 0 := by kernel_rfl
theorem fo50_1_MA : fo Tryd.prog 50 1 = some 1 := by kernel_rfl
theorem ie32_MA : ie Tryd.prog 32 = some 3 := by kernel_rfl
theorem lk31_MA : lk Tryd.prog 31 = some (true, 3) := by kernel_rfl
theorem lk32_MA : lk Tryd.prog 32 = some (false, 1) := by kernel_rfl
theorem lk35_MA : lk Tryd.prog 35 = some (true, 2) := by kernel_rfl
theorem lk47_MA : lk Tryd.prog 47 = some (false, 1) := by kernel_rfl
theorem lk48_MA : lk Tryd.prog 48 = some (false, 1) := by kernel_rfl
theorem p_tree1 (s : Sch) (hs : s.fine) (name : Str) (t : Tree) (hb : t.big) (ih : ∀ x ∈ t.slots, ∀ v ∈ x.vals, ∀ u ∈ v.m, ∀ name : Str, Pure Tryd.prog 18 [s.av, .str name, .agg u.cells] (.bool (u.ok s name))) : Pure Tryd.prog 18 [s.av, .str name, .agg t.cells] (.bool (t.ok s name)) := by
  have hsm := hs.m
  have hT := t.ok_eq s name
  refine Pure.of_tri Tryd.func18 rfl rfl (ltb rfl) fun H => ?_
  refine Tri.seq ?_
  refine Tri.region ?_
  refine TriL.c2 rfl (op_box (ltb rfl) rfl rfl rfl) ?_
  refine TriL.c2 rfl (op_box (ltb rfl) rfl rfl rfl) ?_
  refine TriL.c1 rfl (op_as (ltb rfl) rfl) ?_
  refine TriL.nil ?_
  refine Tri.seq ?_
  refine Tri.region ?_
  refine TriL.c1 rfl (op_ldl (ltb rfl) lk35_MA rfl rfl rfl) ?_
  refine TriL.c1 rfl (op_mv (ltb rfl) rfl) ?_
  refine TriL.c1 rfl (op_call (ltb rfl) fn17_MA rfl (p_msgIx _ _ (by omega))) ?_
  refine TriL.c1 rfl (op_as (ltb rfl) rfl) ?_
  refine TriL.nil ?_
  refine Tri.seq ?_
  refine Tri.drawn mixed rfl ?_
  refine TriD.c1 rfl (op_mv (ltb rfl) rfl) ?_
  refine TriD.c1 rfl (op_bin (ltb rfl) rfl rfl rfl) ?_
  refine TriD.c1 rfl (op_mv (ltb rfl) rfl) ?_
  refine TriD.split (d := 13) rfl (fun hg1 => ?_) (fun hg1 => ?_)
  · refine TriD.g1 rfl (ltb rfl) rfl hg1 (op_ldl (ltb rfl) lk35_MA rfl rfl rfl) ?_
    refine TriD.g1 rfl (ltb rfl) rfl hg1 (op_fal (ltb rfl) fo35_1_MA rfl) ?_
    refine TriD.g1 rfl (ltb rfl) rfl hg1 (op_ldl (ltb rfl) lk32_MA rfl rfl rfl) ?_
    refine TriD.g1 rfl (ltb rfl) rfl hg1 (op_mv (ltb rfl) rfl) ?_
    refine TriD.g1 rfl (ltb rfl) rfl hg1 (op_iak (ltb rfl) ie32_MA rfl rfl (Sch.ix_nn (dge hg1)) (ixm1 (Sch.ix_eq (dge hg1)) (Sch.ix_lt (dge hg1))) rfl) ?_
    refine TriD.g1 rfl (ltb rfl) rfl hg1 (op_ldk (ltb rfl) lk31_MA rfl rfl) ?_
    refine TriD.g1 rfl (ltb rfl) rfl hg1 (op_fal (ltb rfl) fo50_0_MA rfl) ?_
    refine TriD.g1 rfl (ltb rfl) rfl hg1 (op_ldl (ltb rfl) lk47_MA rfl rfl rfl) ?_
    refine TriD.g1 rfl (ltb rfl) rfl hg1 (op_call (ltb rfl) fn34_MA rfl (p_slots _ _ _ hb.here.s (hs.f _ (List.getElem_mem (Sch.ix_lt (dge hg1)))) (hs.o _ (List.getElem_mem (Sch.ix_lt (dge hg1)))) (fun x hx f => p_vals _ _ _ (hb.here.v _ hx) (hb.here.vs _ hx) (ih _ hx)))) ?_
    refine TriD.c1 rfl (op_pickt (ltb rfl) rfl hg1 rfl) ?_
    refine TriD.c1 rfl (op_mv (ltb rfl) rfl) ?_
    refine TriD.split (d := 24) rfl (fun hg2 => ?_) (fun hg2 => ?_)
    · refine TriD.g1 rfl (ltb rfl) rfl hg2 (op_fal (ltb rfl) fo35_1_MA rfl) ?_
      refine TriD.g1 rfl (ltb rfl) rfl hg2 (op_ldl (ltb rfl) lk32_MA rfl rfl rfl) ?_
      refine TriD.g1 rfl (ltb rfl) rfl hg2 (op_mv (ltb rfl) rfl) ?_
      refine TriD.g1 rfl (ltb rfl) rfl hg2 (op_iak (ltb rfl) ie32_MA rfl rfl (Sch.ix_nn (dge hg1)) (ixm1 (Sch.ix_eq (dge hg1)) (Sch.ix_lt (dge hg1))) rfl) ?_
      refine TriD.g1 rfl (ltb rfl) rfl hg2 (op_ldk (ltb rfl) lk31_MA rfl rfl) ?_
      refine TriD.g1 rfl (ltb rfl) rfl hg2 (op_fal (ltb rfl) fo50_1_MA rfl) ?_
      refine TriD.g1 rfl (ltb rfl) rfl hg2 (op_ldl (ltb rfl) lk48_MA rfl rfl rfl) ?_
      refine TriD.g1 rfl (ltb rfl) rfl hg2 (op_call (ltb rfl) fn35_MA rfl (p_rest _ _ hb.here.r (hs.f _ (List.getElem_mem (Sch.ix_lt (dge hg1)))))) ?_
      refine TriD.c1 rfl (op_pickt (ltb rfl) rfl hg2 rfl) ?_
      refine TriD.c1 rfl (op_as (ltb rfl) rfl) ?_
      refine TriD.nil (by kernel_rfl) (Kept.now ?_)
      refine Tri.ret ?_
      exact ⟨.inr rfl, (ResOK.r1 rfl (.tmp rfl .nil)).cast (congrArg AV.bool (by rw [hT, Sch.ix_at (dge hg1)]; grind)), rfl⟩
    · refine TriD.skipu rfl rfl (ltb rfl) (ltb rfl) rfl hg2 ?_
      refine TriD.skipu rfl rfl (ltb rfl) (ltb rfl) rfl hg2 ?_
      refine TriD.skipu rfl rfl (ltb rfl) (ltb rfl) rfl hg2 ?_
      refine TriD.skipu rfl rfl (ltb rfl) (ltb rfl) rfl hg2 ?_
      refine TriD.skipu rfl rfl (ltb rfl) (ltb rfl) rfl hg2 ?_
      refine TriD.skipu rfl rfl (ltb rfl) (ltb rfl) rfl hg2 ?_
      refine TriD.skipu rfl rfl (ltb rfl) (ltb rfl) rfl hg2 ?_
      refine TriD.skipu rfl rfl (ltb rfl) (ltb rfl) rfl hg2 ?_
      refine TriD.c1 rfl (op_pickf (ltb rfl) rfl hg2 rfl) ?_
      refine TriD.c1 rfl (op_as (ltb rfl) rfl) ?_
      refine TriD.nil (by kernel_rfl) (Kept.now ?_)
      refine Tri.ret ?_
      exact ⟨.inr rfl, (ResOK.r1 rfl (.tmp rfl .nil)).cast (congrArg AV.bool (by rw [hT, Sch.ix_at (dge hg1)]; grind)), rfl⟩
  · refine TriD.skipu rfl rfl (ltb rfl) (ltb rfl) rfl hg1 ?_
    refine TriD.skipu rfl rfl (ltb rfl) (ltb rfl) rfl hg1 ?_
    refine TriD.skipu rfl rfl (ltb rfl) (ltb rfl) rfl hg1 ?_
    refine TriD.skipu rfl rfl (ltb rfl) (ltb rfl) rfl hg1 ?_
    refine TriD.skipu rfl rfl (ltb rfl) (ltb rfl) rfl hg1 ?_
    refine TriD.skipu rfl rfl (ltb rfl) (ltb rfl) rfl hg1 ?_
    refine TriD.skipu rfl rfl (ltb rfl) (ltb rfl) rfl hg1 ?_
    refine TriD.skipu rfl rfl (ltb rfl) (ltb rfl) rfl hg1 ?_
    refine TriD.skipu rfl rfl (ltb rfl) (ltb rfl) rfl hg1 ?_
    refine TriD.c1 rfl (op_pickf (ltb rfl) rfl hg1 rfl) ?_
    refine TriD.c1 rfl (op_mv (ltb rfl) rfl) ?_
    refine TriD.skipu rfl rfl (ltb rfl) (ltb rfl) rfl rfl ?_
    refine TriD.skipu rfl rfl (ltb rfl) (ltb rfl) rfl rfl ?_
    refine TriD.skipu rfl rfl (ltb rfl) (ltb rfl) rfl rfl ?_
    refine TriD.skipu rfl rfl (ltb rfl) (ltb rfl) rfl rfl ?_
    refine TriD.skipu rfl rfl (ltb rfl) (ltb rfl) rfl rfl ?_
    refine TriD.skipu rfl rfl (ltb rfl) (ltb rfl) rfl rfl ?_
    refine TriD.skipu rfl rfl (ltb rfl) (ltb rfl) rfl rfl ?_
    refine TriD.skipu rfl rfl (ltb rfl) (ltb rfl) rfl rfl ?_
    refine TriD.c1 rfl (op_pickf (ltb rfl) rfl rfl rfl) ?_
    refine TriD.c1 rfl (op_as (ltb rfl) rfl) ?_
    refine TriD.nil (by kernel_rfl) (Kept.now ?_)
    refine Tri.ret ?_
    exact ⟨.inr rfl, (ResOK.r1 rfl (.tmp rfl .nil)).cast (congrArg AV.bool (by rw [hT, Sch.ix_no (dlt hg1)])), rfl⟩
theorem p_tree (s : Sch) (hs : s.fine) (t : Tree) (hb : t.big) (name : Str) : Pure Tryd.prog 18 [s.av, .str name, .agg t.cells] (.bool (t.ok s name)) :=
  Tree.ind (Q := fun t => t.big → ∀ name : Str, Pure Tryd.prog 18 [s.av, .str name, .agg t.cells] (.bool (t.ok s name))) (fun t ih hb name => p_tree1 s hs name t hb (fun x hx v hv u hu => ih x hx v hv u hu (hb.sub hu hv hx))) t hb name
end Go.Proofs.YtnpgcmeclkncnaaDoor.X
/- how deep a value is, in the program. -/
set_option linter.unusedVariables false
set_option linter.unusedSimpArgs false
set_option linter.unusedSectionVars false
set_option maxRecDepth 100000
namespace Go.Proofs.YtnpgcmeclkncnaaDoor.X
open Go Go.RowKit Go.Proofs
theorem fn19_MB : isFn Tryd.prog 19 = true := by kernel_rfl
theorem fn36_MB : isFn Tryd.prog 36 = true := by kernel_rfl
theorem fn37_MB : isFn Tryd.prog 37 = true := by kernel_rfl
theorem fo43_2_MB : fo Tryd.prog 43 2 = some 2 := by kernel_rfl
theorem fo46_1_MB : fo Tryd.prog 46 1 = some 1 := by kernel_rfl
theorem fo50_0_MB : fo Tryd.prog 50 0 = some 0 := by kernel_rfl
theorem ie41_MB : ie Tryd.prog 41 = some 2 := by kernel_rfl
theorem ie44_MB : ie Tryd.prog 44 = some 3 := by kernel_rfl
theorem ie47_MB : ie Tryd.prog 47 = some 2 := by kernel_rfl
theorem lk3_MB : lk Tryd.prog 3 = some (false, 1) := by kernel_rfl
theorem lk41_MB : lk Tryd.prog 41 = some (false, 1) := by kernel_rfl
theorem lk43_MB : lk Tryd.prog 43 = some (true, 3) := by kernel_rfl
theorem lk44_MB : lk Tryd.prog 44 = some (false, 1) := by kernel_rfl
theorem lk46_MB : lk Tryd.prog 46 = some (true, 2) := by kernel_rfl
theorem lk47_MB : lk Tryd.prog 47 = some (false, 1) := by kernel_rfl
theorem lk50_MB : lk Tryd.prog 50 = some (true, 2) := by kernel_rfl
theorem un41_MB : Tryd.prog.underlying 41 = some (TypeDesc.slice 50) := Tryd.underlying41
theorem un44_MB : Tryd.prog.underlying 44 = some (TypeDesc.slice 43) := Tryd.underlying44
theorem un47_MB : Tryd.prog.underlying 47 = some (TypeDesc.slice 46) := Tryd.underlying47
theorem zA3_MB : zeroA Tryd.prog 3 = some [AV.int IntKind.i64 (0)] := by kernel_rfl
theorem zA43_MB : zeroA Tryd.prog 43 = some [AV.int IntKind.u64 (0), AV.str [], AV.sl []] := by kernel_rfl
theorem zA46_MB : zeroA Tryd.prog 46 = some [AV.int IntKind.i64 (0), AV.sl []] := by kernel_rfl
theorem zA50_MB : zeroA Tryd.prog 50 = some [AV.sl [], AV.sl []] := by kernel_rfl
theorem foldl_step {α β : Type} {f : β → α → β} {l : List α} {i : Nat} {b : β} (h : i < l.length) : (l.drop i).foldl f b = (l.drop (i + 1)).foldl f (f b l[i]) := by
  rw [List.drop_eq_getElem_cons h]; rfl
theorem foldl_end {α β : Type} {f : β → α → β} {l : List α} {i : Nat} {b : β} (h : l.length ≤ i) : (l.drop i).foldl f b = b := by
  rw [List.drop_of_length_le h]; rfl
theorem foldV : ∀ (l : List Val) (a : Nat), l.foldl (fun a v => max a v.deep) a = max a (deepV l)
  | [], a => by simp [deepV]
  | v :: l, a => by simp only [List.foldl_cons, deepV]; rw [foldV l]; omega
theorem foldS : ∀ (l : List Slot) (a : Nat), l.foldl (fun a x => x.vals.foldl (fun a v => max a v.deep) a) a = max a (deepS l)
  | [], a => by simp [deepS]
  | x :: l, a => by simp only [List.foldl_cons, deepS]; rw [foldS l, foldV, Slot.deep_eq]; omega
theorem p_deepc (H0 : Hp) (id : Nat) (v : Val) (n : Nat) (hl : v.m.length ≤ 9223372036854775807) (ih : ∀ u ∈ v.m, Pure Tryd.prog 19 [.agg u.cells] (.int .i64 (u.deep : Int))) : Run Tryd.prog 37 ([.agg v.cells] ++ [.op id 0]) (H0.set id [.v (.int .i64 (n : Int))]) (.tup []) (H0.set id [.v (.int .i64 ((max n v.deep : Nat) : Int))]) := by
  have hVl := Val.deep_eq v
  refine Run.of_tri Tryd.func37 rfl rfl (ltb rfl) ?_
  refine Tri.seq ?_
  refine Tri.region ?_
  refine TriL.c2 rfl (op_box (ltb rfl) rfl rfl rfl) ?_
  refine TriL.nil ?_
  refine Tri.seq ?_
  refine Tri.region ?_
  refine TriL.c1 rfl (op_fal (ltb rfl) fo43_2_MB rfl) ?_
  refine TriL.c1 rfl (op_ldl (ltb rfl) lk41_MB rfl rfl rfl) ?_
  refine TriL.c1 rfl (op_lenl (ltb rfl) un41_MB rfl) ?_
  refine TriL.c1 rfl (op_mv (ltb rfl) rfl) ?_
  refine TriL.nil ?_
  refine Tri.blk ?_
  refine Tri.ofKept (Kept.keep [.s 8, .h, .s 1, .s 6, .s 7] rfl (by decide) (Kept.now ?_))
  -- LOOP 1
  refine Tri.loopk (fun ((i, m) : Nat × Nat) => [(.s 8, .sv (.v (.int .i64 (i : Int)))), (.h, .hp (H0.set id [.v (.int .i64 ((m : Nat) : Int))]))]) _ (fun ((i, m) : Nat × Nat) => max m (deepT (v.m.drop i)) = max n v.deep) (fun ((i, m) : Nat × Nat) => v.m.length - i) (0, n) rfl (by rw [hVl]; simp) ?_
  rintro ⟨i, m⟩ hI
  refine Tri.seq ?_
  refine Tri.region ?_
  refine TriL.c1 rfl (op_bin (ltb rfl) rfl rfl rfl) ?_
  refine TriL.nil ?_
  refine Tri.seq ?_
  refine Tri.cond rfl (fun hc1 => ?_) (fun hc1 => ?_)
  · have hi := ltm hc1
    have hU := @deepT_step v.m i hi
    refine Tri.skip ?_
    refine Tri.seq ?_
    refine Tri.blk ?_
    refine Tri.seq ?_
    refine Tri.region ?_
    refine TriL.c1 rfl (op_iak (ltb rfl) ie41_MB rfl rfl (Int.natCast_nonneg _) (ixmE Tree.av_eq hi) rfl) ?_
    refine TriL.c1 rfl (op_ldk (ltb rfl) lk50_MB rfl rfl) ?_
    refine TriL.c2 rfl (op_all (ltb rfl) zA50_MB rfl) ?_
    refine TriL.c1 rfl (op_stl lk50_MB rfl rfl rfl rfl rfl (leb rfl)) ?_
    refine TriL.nil ?_
    refine Tri.drawn mixed rfl ?_
    refine TriD.c1 rfl (op_ldc (ltb rfl) lk3_MB rfl rfl Hp.set_obj rfl) ?_
    refine TriD.c1 rfl (op_ldl (ltb rfl) lk50_MB rfl rfl rfl) ?_
    refine TriD.c1 rfl (op_call (ltb rfl) fn19_MB rfl (ih _ (List.getElem_mem hi))) ?_
    refine TriD.c1 rfl (op_maxi (ltb rfl) rfl rfl) ?_
    refine TriD.c1 rfl (op_stc lk3_MB rfl rfl Hp.set_obj rfl rfl rfl) ?_
    refine TriD.nil (by kernel_rfl) (Kept.now ?_)
    refine Tri.region ?_
    refine TriL.c1 rfl (op_bin (ltb rfl) rfl rfl rfl) ?_
    refine TriL.c1 rfl (op_mv (ltb rfl) rfl) ?_
    refine TriL.kept (Kept.seth rfl ((Hp.set_set).trans (by rw [show (if ((v.m[i]'hi).deep : Int) > (m : Int) then ((v.m[i]'hi).deep : Int) else (m : Int)) = ((max m (v.m[i]'hi).deep : Nat) : Int) by omega])) (Kept.seti 8 rfl (inc (by omega)) (Kept.keep [.s 8, .h, .s 1, .s 6, .s 7] rfl (by decide) (Kept.now ?_))))
    exact ⟨(i + 1, max m (v.m[i]'hi).deep), (by dsimp only; omega), by grind, rfl⟩
  · have hi := gem hc1
    have hU := @deepT_end v.m i hi
    refine Tri.exit ?_
    exact ⟨.inl rfl, (ResOK.r0 rfl ).cast rfl, (by rw [show max n v.deep = m by grind]; rfl)⟩
theorem p_each (t : Tree) (hb : t.big) (F : FuncId) (caps : List AV) (hF : isFn Tryd.prog F = true) (A : Type) (Hn : A → Hp) (g : A → Val → A) (hp : ∀ a, ∀ x ∈ t.slots, ∀ v ∈ x.vals, Run Tryd.prog F ([.agg v.cells] ++ caps) (Hn a) (.tup []) (Hn (g a v))) (a0 : A) : Run Tryd.prog 36 [.agg t.cells, .fn F caps] (Hn a0) (.tup []) (Hn (t.slots.foldl (fun a x => x.vals.foldl g a) a0)) := by
  have hs := hb.here.s
  refine Run.of_tri Tryd.func36 rfl rfl (ltb rfl) ?_
  refine Tri.seq ?_
  refine Tri.region ?_
  refine TriL.c2 rfl (op_box (ltb rfl) rfl rfl rfl) ?_
  refine TriL.nil ?_
  refine Tri.seq ?_
  refine Tri.region ?_
  refine TriL.c1 rfl (op_fal (ltb rfl) fo50_0_MB rfl) ?_
  refine TriL.c1 rfl (op_ldl (ltb rfl) lk47_MB rfl rfl rfl) ?_
  refine TriL.c1 rfl (op_lenl (ltb rfl) un47_MB rfl) ?_
  refine TriL.c1 rfl (op_mv (ltb rfl) rfl) ?_
  refine TriL.nil ?_
  refine Tri.blk ?_
  refine Tri.ofKept (Kept.keep [.s 11, .h, .s 1, .s 9, .s 10] rfl (by decide) (Kept.now ?_))
  -- LOOP 1
  refine Tri.loopk (fun ((i, a) : Nat × A) => [(.s 11, .sv (.v (.int .i64 (i : Int)))), (.h, .hp (Hn a))]) _ (fun ((i, a) : Nat × A) => (t.slots.drop i).foldl (fun a x => x.vals.foldl g a) a = t.slots.foldl (fun a x => x.vals.foldl g a) a0) (fun ((i, a) : Nat × A) => t.slots.length - i) (0, a0) rfl (by simp) ?_
  rintro ⟨i, a⟩ hI
  refine Tri.seq ?_
  refine Tri.region ?_
  refine TriL.c1 rfl (op_bin (ltb rfl) rfl rfl rfl) ?_
  refine TriL.nil ?_
  refine Tri.seq ?_
  refine Tri.cond rfl (fun hc1 => ?_) (fun hc1 => ?_)
  · have hi := ltm hc1
    have hS := @foldl_step _ _ (fun a (x : Slot) => x.vals.foldl g a) t.slots i a hi
    have hv := hb.here.v _ (List.getElem_mem hi)
    refine Tri.skip ?_
    refine Tri.seq ?_
    refine Tri.blk ?_
    refine Tri.seq ?_
    refine Tri.region ?_
    refine TriL.c1 rfl (op_iak (ltb rfl) ie47_MB rfl rfl (Int.natCast_nonneg _) (ixmE Slot.av_eq hi) rfl) ?_
    refine TriL.c1 rfl (op_ldk (ltb rfl) lk46_MB rfl rfl) ?_
    refine TriL.c2 rfl (op_all (ltb rfl) zA46_MB rfl) ?_
    refine TriL.c1 rfl (op_stl lk46_MB rfl rfl rfl rfl rfl (leb rfl)) ?_
    refine TriL.nil ?_
    refine Tri.seq ?_
    refine Tri.region ?_
    refine TriL.c1 rfl (op_fal (ltb rfl) fo46_1_MB rfl) ?_
    refine TriL.c1 rfl (op_ldl (ltb rfl) lk44_MB rfl rfl rfl) ?_
    refine TriL.c1 rfl (op_lenl (ltb rfl) un44_MB rfl) ?_
    refine TriL.c1 rfl (op_mv (ltb rfl) rfl) ?_
    refine TriL.nil ?_
    refine Tri.blk ?_
    refine Tri.ofKept (Kept.keep [.s 18, .h, .s 1, .s 9, .s 10, .s 11, .s 16, .s 17] rfl (by decide) (Kept.now ?_))
    -- LOOP 2
    refine Tri.loopk (fun ((k, b) : Nat × A) => [(.s 18, .sv (.v (.int .i64 (k : Int)))), (.h, .hp (Hn b))]) _ (fun ((k, b) : Nat × A) => ((t.slots[i]'hi).vals.drop k).foldl g b = (t.slots[i]'hi).vals.foldl g a) (fun ((k, b) : Nat × A) => (t.slots[i]'hi).vals.length - k) (0, a) rfl (by simp) ?_
    rintro ⟨k, b⟩ hK
    refine Tri.seq ?_
    refine Tri.region ?_
    refine TriL.c1 rfl (op_bin (ltb rfl) rfl rfl rfl) ?_
    refine TriL.nil ?_
    refine Tri.seq ?_
    refine Tri.cond rfl (fun hc2 => ?_) (fun hc2 => ?_)
    · have hk := ltm hc2
      have hT := @foldl_step _ _ g (t.slots[i]'hi).vals k b hk
      refine Tri.skip ?_
      refine Tri.seq ?_
      refine Tri.blk ?_
      refine Tri.seq ?_
      refine Tri.region ?_
      refine TriL.c1 rfl (op_iak (ltb rfl) ie44_MB rfl rfl (Int.natCast_nonneg _) (ixmE Val.av_eq hk) rfl) ?_
      refine TriL.c1 rfl (op_ldk (ltb rfl) lk43_MB rfl rfl) ?_
      refine TriL.c2 rfl (op_all (ltb rfl) zA43_MB rfl) ?_
      refine TriL.c1 rfl (op_stl lk43_MB rfl rfl rfl rfl rfl (leb rfl)) ?_
      refine TriL.nil ?_
      refine Tri.region ?_
      refine TriL.c1 rfl (op_mv (ltb rfl) rfl) ?_
      refine TriL.c1 rfl (op_ldl (ltb rfl) lk43_MB rfl rfl rfl) ?_
      refine TriL.c2 rfl (op_callch (ltb rfl) hF rfl rfl rfl (hp _ _ (List.getElem_mem hi) _ (List.getElem_mem hk))) ?_
      refine TriL.nil ?_
      refine Tri.region ?_
      refine TriL.c1 rfl (op_bin (ltb rfl) rfl rfl rfl) ?_
      refine TriL.c1 rfl (op_mv (ltb rfl) rfl) ?_
      refine TriL.kept (Kept.seti 18 rfl (inc (by omega)) (Kept.keep [.s 18, .h, .s 1, .s 9, .s 10, .s 11, .s 16, .s 17] rfl (by decide) (Kept.now ?_)))
      exact ⟨(k + 1, _), (by dsimp only; omega), by grind, rfl⟩
    · have hk := gem hc2
      have hT := @foldl_end _ _ g (t.slots[i]'hi).vals k b hk
      refine Tri.exit ?_
      refine Tri.region ?_
      refine TriL.c1 rfl (op_bin (ltb rfl) rfl rfl rfl) ?_
      refine TriL.c1 rfl (op_mv (ltb rfl) rfl) ?_
      refine TriL.kept (Kept.seti 11 rfl (inc (by omega)) (Kept.keep [.s 11, .h, .s 1, .s 9, .s 10] rfl (by decide) (Kept.now ?_)))
      exact ⟨(i + 1, b), (by dsimp only; omega), by grind, rfl⟩
  · have hi := gem hc1
    have hS := @foldl_end _ _ (fun a (x : Slot) => x.vals.foldl g a) t.slots i a hi
    refine Tri.exit ?_
    exact ⟨.inl rfl, (ResOK.r0 rfl ).cast rfl, (by rw [show t.slots.foldl (fun a x => x.vals.foldl g a) a0 = a by grind]; rfl)⟩
theorem p_deep1 (t : Tree) (hb : t.big) (hd : t.deep ≤ 9223372036854775807) (ih : ∀ x ∈ t.slots, ∀ v ∈ x.vals, ∀ u ∈ v.m, Pure Tryd.prog 19 [.agg u.cells] (.int .i64 (u.deep : Int))) : Pure Tryd.prog 19 [.agg t.cells] (.int .i64 (t.deep : Int)) := by
  intro H; refine Run.of_triF Tryd.func19 rfl rfl (ltb rfl) (.int _ _) ?_
  refine Tri.seq ?_
  refine Tri.region ?_
  refine TriL.c2 rfl (op_box (ltb rfl) rfl rfl rfl) ?_
  refine TriL.c1 rfl (op_as (ltb rfl) rfl) ?_
  refine TriL.nil ?_
  refine Tri.seq ?_
  refine Tri.region ?_
  refine TriL.c2 rfl (op_all (ltb rfl) zA3_MB rfl) ?_
  refine TriL.c1 rfl (op_stl lk3_MB rfl rfl rfl rfl rfl (leb rfl)) ?_
  refine TriL.nil ?_
  refine Tri.seq ?_
  refine Tri.ofKept (Kept.pub 3 rfl rfl (Kept.op 3 rfl rfl (Kept.cls 3 rfl rfl rfl rfl (Kept.now ?_))))
  refine Tri.region ?_
  refine TriL.c1 rfl (op_ldl (ltb rfl) lk50_MB rfl rfl rfl) ?_
  refine TriL.c1 rfl (op_mkf (ltb rfl) rfl) ?_
  refine TriL.c2 rfl (op_callh (ltb rfl) fn36_MB rfl rfl (p_each t hb _ _ fn37_MB Nat (fun a => ((⟨H.next + 1, H.obj⟩ : Hp).set H.next [.v (.int .i64 ((a : Nat) : Int))])) (fun a v => max a v.deep) (fun a x hx v hv => p_deepc _ _ v a (hb.here.m _ hx _ hv) (ih x hx v hv)) 0)) ?_
  refine TriL.nil ?_
  refine Tri.seq ?_
  refine Tri.region ?_
  refine TriL.c1 rfl (op_ldc (ltb rfl) lk3_MB rfl rfl Hp.set_obj rfl) ?_
  refine TriL.c1 rfl (op_bin (ltb rfl) rfl rfl rfl) ?_
  refine TriL.c1 rfl (op_as (ltb rfl) rfl) ?_
  refine TriL.nil ?_
  refine Tri.ret ?_
  exact ⟨.inr rfl, (ResOK.r1 rfl (.tmp rfl .nil)).cast (congrArg (AV.int .i64) (by rw [foldS, inc (by have := t.deep_eq; omega)]; have := t.deep_eq; omega)), ⟨_, rfl, Nat.le_succ _, fun i hi => by simp only [Hp.set]; rw [if_neg (by omega)]⟩⟩
end Go.Proofs.YtnpgcmeclkncnaaDoor.X
/- Numbers and bytes. No condition. -/
set_option linter.unusedVariables false
set_option linter.unusedSimpArgs false
set_option maxRecDepth 100000
namespace Go.Proofs.YtnpgcmeclkncnaaDoor.X
open Go Go.RowKit Go.Proofs
theorem un36_HB : Tryd.prog.underlying 36 = some (TypeDesc.slice 5) := Tryd.underlying36
theorem un9_HB : Tryd.prog.underlying 9 = some TypeDesc.string := Tryd.underlying9
theorem unel36_HB : Tryd.prog.underlying 5 = some (TypeDesc.int IntKind.u8) := Tryd.underlying5
theorem wr8 {n : Int} (h0 : 0 ≤ n) (h : n < 256) : IntKind.u8.wrap n = n := by simp only [IntKind.wrap, IntKind.bits, IntKind.signed]; simp; omega
theorem wr64 {n : Int} (h0 : -9223372036854775808 ≤ n) (h : n < 9223372036854775808) : IntKind.i64.wrap n = n := by simp only [IntKind.wrap, IntKind.bits, IntKind.signed]; simp; omega
theorem bsl_len (l : List UInt8) : (bsl l).length = l.length := by simp [bsl]
theorem bsl_app (l m : List UInt8) : bsl (l ++ m) = bsl l ++ bsl m := by simp [bsl]

theorem res_i64 {x y : Int} (h : x = y) : AV.int .i64 x = .int .i64 y := by rw [h]
theorem res_bool {x y : Bool} (h : x = y) : AV.bool x = .bool y := by rw [h]
theorem bytes_pure (l m : List UInt8) : Pure Tryd.prog 9 [.sl (bsl l), .sl (bsl m)] (.bool (l == m)) := by
  refine Pure.of_tri Tryd.func9 rfl rfl (ltb rfl) fun H => ?_
  refine Tri.seq ?_
  refine Tri.region ?_
  refine TriL.c1 rfl (op_as (ltb rfl) rfl) ?_
  refine TriL.nil ?_
  refine Tri.seq ?_
  refine Tri.region ?_
  refine TriL.c1 rfl (op_mv (ltb rfl) rfl) ?_
  refine TriL.c1 rfl (op_b2s (ltb rfl) un36_HB unel36_HB un9_HB rfl (bytesOf_bsl _)) ?_
  refine TriL.c1 rfl (op_mv (ltb rfl) rfl) ?_
  refine TriL.c1 rfl (op_b2s (ltb rfl) un36_HB unel36_HB un9_HB rfl (bytesOf_bsl _)) ?_
  refine TriL.c1 rfl (op_bin (ltb rfl) rfl rfl rfl) ?_
  refine TriL.c1 rfl (op_as (ltb rfl) rfl) ?_
  refine TriL.nil ?_
  refine Tri.ret ?_
  exact ⟨.inr rfl, (ResOK.r1 rfl (.tmp rfl .nil)).cast (by rfl), rfl⟩
def rebox (k : Nat) (cells : List Sv) : St → St
  | [] => []
  | (c, v) :: s => (c, if c = .b k then .bx cells else v) :: rebox k cells s
theorem okEls_bsl : ∀ l : List UInt8, okEls 1 (bsl l) = true
  | [] => rfl
  | c :: l => by
    have := okEls_bsl l
    simp only [okEls, bsl, List.map_cons, List.all_cons, Bool.and_eq_true] at this ⊢
    exact ⟨⟨rfl, trivial⟩, this⟩
end Go.Proofs.YtnpgcmeclkncnaaDoor.X
/- emit: the writer's first functions. -/
set_option linter.unusedVariables false
set_option linter.unusedSimpArgs false
set_option maxRecDepth 100000
namespace Go.Proofs.YtnpgcmeclkncnaaDoor.X
open Go Go.RowKit Go.Proofs
theorem fo80_2_E0 : fo Tryd.prog 80 2 = some 2 := by kernel_rfl
theorem lk4_E0 : lk Tryd.prog 4 = some (false, 1) := by kernel_rfl
theorem pt62_E0 : Tryd.prog.underlying 62 = some (.pointer (Tryd.prog.pointee 62)) := by kernel_rfl
theorem spl80_E0 : spl Tryd.prog 80 = some [(0, 1), (1, 1), (2, 1)] := by kernel_rfl

theorem zN80 : zeroN Tryd.prog 80 = some [.nsl, .nsl, .bool false] := by kernel_rfl

/-- A writer: its bytes, its open frames. -/
def wr (b : List AV) (fs : List AV) : List Hc := [.row 5 1 b, .row 126 2 fs, .v (.bool true)]

theorem new_run (H : Hp) : Run Tryd.prog 20 [] H (.op H.next 0) ⟨H.next + 1, fun i => if i = H.next then some (wr [] []) else H.obj i⟩ := by
  refine Run.of_tri Tryd.func20 rfl rfl (Nat.zero_le _) ?_
  refine Tri.seq ?_
  refine Tri.region ?_
  refine TriL.c1 rfl (op_as (ltb rfl) rfl) ?_
  refine TriL.nil ?_
  refine Tri.seq ?_
  refine Tri.region ?_
  refine TriL.c1 rfl (op_bldn (ltb rfl) spl80_E0 zN80 rfl rfl) ?_
  refine TriL.c2 rfl (op_box (ltb rfl) rfl rfl rfl) ?_
  refine TriL.c1 rfl (op_as (ltb rfl) rfl) ?_
  refine TriL.kept (Kept.nilcell 2 0 100 5 1 rfl rfl rfl rfl (ltb rfl) (Kept.nilcell 2 1 101 126 2 rfl rfl rfl rfl (ltb rfl) (Kept.pub 2 rfl rfl (Kept.op 0 rfl rfl (Kept.cls 2 rfl rfl rfl rfl (Kept.now ?_))))))
  refine Tri.ret ?_
  exact ⟨.inr rfl, ResOK.r1 rfl (.tmp rfl .nil), rfl⟩
theorem is_run (H : Hp) (id : Nat) (b fs : List AV) (ho : H.obj id = some (wr b fs)) : Run Tryd.prog 42 [.op id 0] H (.bool true) H := by
  refine Run.of_tri Tryd.func42 rfl rfl (ltb rfl) ?_
  refine Tri.ofKept (Kept.opn 100 id 100 rfl ho rfl rfl (Kept.lp 0 100 rfl rfl (Kept.now ?_)))
  refine Tri.seq ?_
  refine Tri.region ?_
  refine TriL.c1 rfl (op_as (ltb rfl) rfl) ?_
  refine TriL.nil ?_
  refine Tri.seq ?_
  refine Tri.region ?_
  refine TriL.c1 rfl (op_mv (ltb rfl) rfl) ?_
  refine TriL.c1 rfl (op_nen (ltb rfl) pt62_E0 rfl rfl) ?_
  refine TriL.c1 rfl (op_mv (ltb rfl) rfl) ?_
  refine TriL.g1 rfl (ltb rfl) rfl rfl (op_mv (ltb rfl) rfl) ?_
  refine TriL.g1 rfl (ltb rfl) rfl rfl (op_nckl (ltb rfl) rfl) ?_
  refine TriL.g1 rfl (ltb rfl) rfl rfl (op_fal (ltb rfl) fo80_2_E0 rfl) ?_
  refine TriL.g1 rfl (ltb rfl) rfl rfl (op_ldo (ltb rfl) lk4_E0 rfl rfl rfl) ?_
  refine TriL.c1 rfl (op_pickt (ltb rfl) rfl rfl rfl) ?_
  refine TriL.c1 rfl (op_as (ltb rfl) rfl) ?_
  refine TriL.kept (Kept.cls 100 rfl rfl rfl rfl (Kept.now ?_))
  refine Tri.ret ?_
  refine ⟨.inr rfl, ResOK.r1 rfl (.tmp rfl .nil), ?_⟩
  have e : (H.del id).set id (wr b fs) = H := by rw [Hp.del_set, Hp.set_same ho]
  exact congrArg (fun h => some (CV.hp h)) e
end Go.Proofs.YtnpgcmeclkncnaaDoor.X
/- emit: Plain. -/
set_option linter.unusedVariables false
set_option linter.unusedSimpArgs false
set_option maxRecDepth 100000
namespace Go.Proofs.YtnpgcmeclkncnaaDoor.X
open Go Go.RowKit Go.Proofs
theorem fn42_E1 : isFn Tryd.prog 42 = true := by kernel_rfl
theorem fo80_0_E1 : fo Tryd.prog 80 0 = some 0 := by kernel_rfl
theorem ie103_E1 : ie Tryd.prog 103 = some 1 := by kernel_rfl
theorem lk36_E1 : lk Tryd.prog 36 = some (false, 1) := by kernel_rfl
theorem se36_E1 : se Tryd.prog 36 = some (5, 1, 1) := by kernel_rfl
theorem un103_E1 : Tryd.prog.underlying 103 = some (TypeDesc.slice 36) := Tryd.underlying103

def StP (H : Hp) (id : Nat) (ps : List AV) (m : Nat) (bs fs : List AV) (j : Int) : St :=
  [(.h, .hp H), (.s 0, .sv (.lp 100 0)), (.s 10, .sv (.v (.sl ps))), (.s 11, .sv (.v (.int .i64 ps.length))), (.s 12, .sv (.v (.int .i64 j))), (.b 100, .ob id [.om 100 m, .om 101 fs.length, .v (.bool true)]), (.t 100, .tk true 5 1 bs), (.t 101, .tk true 126 2 fs)]
def sls (ps : List (List UInt8)) : List AV := ps.map fun p => .sl (bsl p)
theorem plain_run (H : Hp) (id : Nat) (b : List UInt8) (fs : List AV) (ps : List (List UInt8)) (ho : H.obj id = some (wr (bsl b) fs)) (hl : b.length + ps.flatten.length ≤ 1073741824) (hp : ps.length ≤ 1073741824) :
    Run Tryd.prog 41 [.op id 0, .sl (sls ps)] H (.bool true) (H.set id (wr (bsl (b ++ ps.flatten)) fs)) := by
  refine Run.of_tri Tryd.func41 rfl rfl (ltb rfl) ?_
  refine Tri.seq ?_
  refine Tri.region ?_
  refine TriL.c1 rfl (op_as (ltb rfl) rfl) ?_
  refine TriL.nil ?_
  refine Tri.seq ?_
  refine Tri.seq ?_
  refine Tri.region ?_
  refine TriL.c1 rfl (op_mv (ltb rfl) rfl) ?_
  refine TriL.c2 rfl (op_callh (ltb rfl) fn42_E1 rfl rfl (is_run H id _ _ ho)) ?_
  refine TriL.c1 rfl (op_un (ltb rfl) rfl rfl) ?_
  refine TriL.nil ?_
  refine Tri.condF rfl rfl ?_
  refine Tri.skip ?_
  refine Tri.ofKept (Kept.opn 100 id 100 rfl ho rfl rfl (Kept.lp 0 100 rfl rfl (Kept.now ?_)))
  refine Tri.seq ?_
  refine Tri.seq ?_
  refine Tri.region ?_
  refine TriL.c1 rfl (op_mv (ltb rfl) rfl) ?_
  refine TriL.c1 rfl (op_lenl (ltb rfl) un103_E1 rfl) ?_
  refine TriL.c1 rfl (op_mv (ltb rfl) rfl) ?_
  refine TriL.kept (Kept.keep [.h, .s 0, .s 10, .s 11, .s 12, .b 100, .t 100, .t 101] rfl (by decide) (Kept.now ?_))
  refine Tri.blk ?_
  refine Tri.loop (fun n s => ∃ (i : Nat) (bs : List AV) (j : Int) (m : Nat), s = StP (H.del id) id (sls ps) m bs fs j ∧ j = i ∧ bs = bsl (b ++ (ps.take i).flatten) ∧ m = bs.length ∧ i ≤ ps.length ∧ n = ps.length - i) ?_ (n := ps.length) ⟨0, _, 0, _, rfl, rfl, by simp, rfl, by omega, rfl⟩
  rintro n s ⟨i, bs, j, m, rfl, hj, hbs, rfl, hi, rfl⟩
  have hsl : (sls ps).length = ps.length := by simp [sls]
  refine Tri.seq ?_
  refine Tri.region ?_
  refine TriL.c1 rfl (op_bin (ltb rfl) rfl rfl rfl) ?_
  refine TriL.nil ?_
  refine Tri.seq ?_
  refine Tri.cond rfl (fun hc1 => ?_) (fun hc1 => ?_)
  · have hlt : i < ps.length := by have := of_decide_eq_true hc1; omega
    obtain ⟨p, hp1⟩ : ∃ p, ps[i]? = some p := ⟨ps[i], List.getElem?_eq_getElem hlt⟩
    have hpg : (sls ps)[j.toNat]? = some (.sl (bsl p)) := by subst hj; simp [sls, hp1]
    have htk : (ps.take (i + 1)).flatten = (ps.take i).flatten ++ p := by rw [List.take_add_one, hp1]; simp
    have hfl : (ps.take (i + 1)).flatten.length ≤ ps.flatten.length := by
      have := congrArg List.length (congrArg List.flatten (List.take_append_drop (i + 1) ps))
      rw [List.flatten_append, List.length_append] at this; omega
    have hbl : bs.length + (bsl p).length ≤ 1073741824 := by
      rw [htk, List.length_append] at hfl
      rw [hbs, bsl_len, bsl_len, List.length_append]; omega
    refine Tri.skip ?_
    refine Tri.seq ?_
    refine Tri.blk ?_
    refine Tri.seq ?_
    refine Tri.region ?_
    refine TriL.c1 rfl (op_iak (ltb rfl) ie103_E1 rfl rfl (by omega) hpg rfl) ?_
    refine TriL.c1 rfl (op_ldk (ltb rfl) lk36_E1 rfl rfl) ?_
    refine TriL.c1 rfl (op_as (ltb rfl) rfl) ?_
    refine TriL.nil ?_
    refine Tri.region ?_
    refine TriL.c1 rfl (op_mv (ltb rfl) rfl) ?_
    refine TriL.c1 rfl (op_mv (ltb rfl) rfl) ?_
    refine TriL.c1 rfl (op_nckl (ltb rfl) rfl) ?_
    refine TriL.c1 rfl (op_fal (ltb rfl) fo80_0_E1 rfl) ?_
    refine TriL.c1 rfl (op_ldo (ltb rfl) lk36_E1 rfl rfl rfl) ?_
    refine TriL.c1 rfl (op_mv (ltb rfl) rfl) ?_
    refine TriL.c3 rfl (op_apm (ltb rfl) se36_E1 rfl rfl rfl rfl (okEls_bsl p) rfl (by omega) (by omega)) ?_
    refine TriL.c1 rfl (op_nckl (ltb rfl) rfl) ?_
    refine TriL.c1 rfl (op_fal (ltb rfl) fo80_0_E1 rfl) ?_
    refine TriL.c1 rfl (op_sto lk36_E1 rfl rfl rfl rfl rfl (leb rfl)) ?_
    refine TriL.nil ?_
    refine Tri.region ?_
    refine TriL.c1 rfl (op_bin (ltb rfl) rfl rfl rfl) ?_
    refine TriL.c1 rfl (op_mv (ltb rfl) rfl) ?_
    refine TriL.kept (Kept.keep [.h, .s 0, .s 10, .s 11, .s 12, .b 100, .t 22, .t 101] rfl (by decide) (Kept.ren 22 100 (by decide) rfl (Kept.now ?_)))
    refine ⟨ps.length - (i + 1), by omega, i + 1, _, _, _, rfl, ?_, ?_, rfl, by omega, rfl⟩
    · rw [wr64] <;> omega
    · rw [htk, hbs]; simp only [bsl_app, List.append_assoc]
  · have hge : ¬ i < ps.length := by have := of_decide_eq_false hc1; omega
    refine Tri.exit ?_
    refine Tri.seq ?_
    refine Tri.region ?_
    refine TriL.c1 rfl (op_as (ltb rfl) rfl) ?_
    refine TriL.kept (Kept.cls 100 rfl rfl rfl rfl (Kept.now ?_))
    refine Tri.ret ?_
    refine ⟨.inr rfl, ResOK.r1 rfl (.tmp rfl .nil), ?_⟩
    rw [List.take_of_length_le (by omega)] at hbs
    have e : (H.del id).set id (wr bs fs) = H.set id (wr (bsl (b ++ ps.flatten)) fs) := by rw [Hp.del_set, hbs]
    exact congrArg (fun h => some (CV.hp h)) e
end Go.Proofs.YtnpgcmeclkncnaaDoor.X
/- tag: its functions. -/
set_option linter.unusedVariables false
set_option linter.unusedSimpArgs false
set_option maxRecDepth 100000
namespace Go.Proofs.YtnpgcmeclkncnaaDoor.X
open Go Go.RowKit Go.Proofs
theorem fn75_E2 : isFn Tryd.prog 75 = true := by kernel_rfl
def numok (n : Int) : Bool := decide (1 ≤ n ∧ n ≤ 536870911)
theorem number_pure (n : Int) : Pure Tryd.prog 75 [.int .i64 n] (.bool (numok n)) := by
  refine Pure.of_tri Tryd.func75 rfl rfl (ltb rfl) fun H => ?_
  refine Tri.seq ?_
  refine Tri.region ?_
  refine TriL.c1 rfl (op_as (ltb rfl) rfl) ?_
  refine TriL.nil ?_
  refine Tri.seq ?_
  refine Tri.region ?_
  refine TriL.c1 rfl (op_mv (ltb rfl) rfl) ?_
  refine TriL.c1 rfl (op_bin (ltb rfl) rfl rfl rfl) ?_
  refine TriL.c1 rfl (op_mv (ltb rfl) rfl) ?_
  refine TriL.split (d := 5) rfl (fun hg1 => ?_) (fun hg1 => ?_)
  · refine TriL.g1 rfl (ltb rfl) rfl hg1 (op_mv (ltb rfl) rfl) ?_
    refine TriL.g1 rfl (ltb rfl) rfl hg1 (op_bin (ltb rfl) rfl rfl rfl) ?_
    refine TriL.c1 rfl (op_pickt (ltb rfl) rfl hg1 rfl) ?_
    refine TriL.c1 rfl (op_as (ltb rfl) rfl) ?_
    refine TriL.nil ?_
    refine Tri.ret ?_
    exact ⟨.inr rfl, (ResOK.r1 rfl (.tmp rfl .nil)).cast (by exact res_bool (by (try simp only [decide_eq_true_eq, decide_eq_false_iff_not, beq_iff_eq, beq_eq_false_iff_ne, ne_eq] at *); (try simp only [numok, rightok]); first | exact decide_eq_decide.2 (by omega) | exact (decide_eq_true (by omega)).symm | exact (decide_eq_false (by omega)).symm)), rfl⟩
  · refine TriL.skip rfl rfl (ltb rfl) rfl hg1 ?_
    refine TriL.skip rfl rfl (ltb rfl) rfl hg1 ?_
    refine TriL.c1 rfl (op_pickf (ltb rfl) rfl hg1 rfl) ?_
    refine TriL.c1 rfl (op_as (ltb rfl) rfl) ?_
    refine TriL.nil ?_
    refine Tri.ret ?_
    exact ⟨.inr rfl, (ResOK.r1 rfl (.tmp rfl .nil)).cast (by exact res_bool (by (try simp only [decide_eq_true_eq, decide_eq_false_iff_not, beq_iff_eq, beq_eq_false_iff_ne, ne_eq] at *); (try simp only [numok, rightok]); first | exact decide_eq_decide.2 (by omega) | exact (decide_eq_true (by omega)).symm | exact (decide_eq_false (by omega)).symm)), rfl⟩
def rightok (n w : Int) : Bool := decide ((w = 0 ∨ w = 1 ∨ w = 2 ∨ w = 5) ∧ 1 ≤ n ∧ n ≤ 536870911)
theorem right_pure (n w : Int) : Pure Tryd.prog 65 [.int .i64 n, .int .i64 w] (.bool (rightok n w)) := by
  refine Pure.of_tri Tryd.func65 rfl rfl (ltb rfl) fun H => ?_
  refine Tri.seq ?_
  refine Tri.region ?_
  refine TriL.c1 rfl (op_as (ltb rfl) rfl) ?_
  refine TriL.nil ?_
  refine Tri.seq ?_
  refine Tri.region ?_
  refine TriL.c1 rfl (op_as (ltb rfl) rfl) ?_
  refine TriL.nil ?_
  refine Tri.seq ?_
  refine Tri.seq ?_
  refine Tri.region ?_
  refine TriL.c1 rfl (op_mv (ltb rfl) rfl) ?_
  refine TriL.nil ?_
  refine Tri.blk ?_   -- 0
  refine Tri.seq ?_
  refine Tri.blk ?_   -- 3
  refine Tri.blk ?_   -- 2
  refine Tri.blk ?_   -- 1
  refine Tri.seq ?_
  refine Tri.seq ?_
  refine Tri.seq ?_
  refine Tri.seq ?_
  refine Tri.region ?_
  refine TriL.c1 rfl (op_bin (ltb rfl) rfl rfl rfl) ?_
  refine TriL.c1 rfl (op_as (ltb rfl) rfl) ?_
  refine TriL.nil ?_
  refine Tri.cond rfl (fun hc1 => ?_) (fun hc1 => ?_)
  · refine Tri.skip ?_
    refine Tri.condT rfl hc1 ?_
    refine Tri.exit ?_   -- 1
    refine Tri.seq ?_
    refine Tri.region ?_
    refine TriL.c1 rfl (op_as (ltb rfl) rfl) ?_
    refine TriL.nil ?_
    refine Tri.exit ?_   -- 0
    refine Tri.seq ?_
    refine Tri.region ?_
    refine TriL.c1 rfl (op_mv (ltb rfl) rfl) ?_
    refine TriL.c1 rfl (op_mv (ltb rfl) rfl) ?_
    refine TriL.g1 rfl (ltb rfl) rfl rfl (op_mv (ltb rfl) rfl) ?_
    refine TriL.g1 rfl (ltb rfl) rfl rfl (op_call (ltb rfl) fn75_E2 rfl (number_pure n)) ?_
    refine TriL.c1 rfl (op_pickt (ltb rfl) rfl rfl rfl) ?_
    refine TriL.c1 rfl (op_as (ltb rfl) rfl) ?_
    refine TriL.nil ?_
    refine Tri.ret ?_
    exact ⟨.inr rfl, (ResOK.r1 rfl (.tmp rfl .nil)).cast (by exact res_bool (by (try simp only [decide_eq_true_eq, decide_eq_false_iff_not, beq_iff_eq, beq_eq_false_iff_ne, ne_eq] at *); (try simp only [numok, rightok]); first | exact decide_eq_decide.2 (by omega) | exact (decide_eq_true (by omega)).symm | exact (decide_eq_false (by omega)).symm)), rfl⟩
  · -- region 4 tag.go:20
    refine Tri.region ?_
    refine TriL.c1 rfl (op_bin (ltb rfl) rfl rfl rfl) ?_
    refine TriL.c1 rfl (op_as (ltb rfl) rfl) ?_
    refine TriL.nil ?_
    refine Tri.cond rfl (fun hc2 => ?_) (fun hc2 => ?_)
    · refine Tri.exit ?_   -- 1
      refine Tri.seq ?_
      refine Tri.region ?_
      refine TriL.c1 rfl (op_as (ltb rfl) rfl) ?_
      refine TriL.nil ?_
      refine Tri.exit ?_   -- 0
      refine Tri.seq ?_
      refine Tri.region ?_
      refine TriL.c1 rfl (op_mv (ltb rfl) rfl) ?_
      refine TriL.c1 rfl (op_mv (ltb rfl) rfl) ?_
      refine TriL.g1 rfl (ltb rfl) rfl rfl (op_mv (ltb rfl) rfl) ?_
      refine TriL.g1 rfl (ltb rfl) rfl rfl (op_call (ltb rfl) fn75_E2 rfl (number_pure n)) ?_
      refine TriL.c1 rfl (op_pickt (ltb rfl) rfl rfl rfl) ?_
      refine TriL.c1 rfl (op_as (ltb rfl) rfl) ?_
      refine TriL.nil ?_
      refine Tri.ret ?_
      exact ⟨.inr rfl, (ResOK.r1 rfl (.tmp rfl .nil)).cast (by exact res_bool (by (try simp only [decide_eq_true_eq, decide_eq_false_iff_not, beq_iff_eq, beq_eq_false_iff_ne, ne_eq] at *); (try simp only [numok, rightok]); first | exact decide_eq_decide.2 (by omega) | exact (decide_eq_true (by omega)).symm | exact (decide_eq_false (by omega)).symm)), rfl⟩
    · refine Tri.skip ?_
      refine Tri.seq ?_
      refine Tri.seq ?_
      refine Tri.region ?_
      refine TriL.c1 rfl (op_bin (ltb rfl) rfl rfl rfl) ?_
      refine TriL.c1 rfl (op_as (ltb rfl) rfl) ?_
      refine TriL.nil ?_
      refine Tri.cond rfl (fun hc3 => ?_) (fun hc3 => ?_)
      · refine Tri.exit ?_   -- 2
        refine Tri.seq ?_
        refine Tri.region ?_
        refine TriL.c1 rfl (op_as (ltb rfl) rfl) ?_
        refine TriL.nil ?_
        refine Tri.exit ?_   -- 0
        refine Tri.seq ?_
        refine Tri.region ?_
        refine TriL.c1 rfl (op_mv (ltb rfl) rfl) ?_
        refine TriL.c1 rfl (op_mv (ltb rfl) rfl) ?_
        refine TriL.g1 rfl (ltb rfl) rfl rfl (op_mv (ltb rfl) rfl) ?_
        refine TriL.g1 rfl (ltb rfl) rfl rfl (op_call (ltb rfl) fn75_E2 rfl (number_pure n)) ?_
        refine TriL.c1 rfl (op_pickt (ltb rfl) rfl rfl rfl) ?_
        refine TriL.c1 rfl (op_as (ltb rfl) rfl) ?_
        refine TriL.nil ?_
        refine Tri.ret ?_
        exact ⟨.inr rfl, (ResOK.r1 rfl (.tmp rfl .nil)).cast (by exact res_bool (by (try simp only [decide_eq_true_eq, decide_eq_false_iff_not, beq_iff_eq, beq_eq_false_iff_ne, ne_eq] at *); (try simp only [numok, rightok]); first | exact decide_eq_decide.2 (by omega) | exact (decide_eq_true (by omega)).symm | exact (decide_eq_false (by omega)).symm)), rfl⟩
      · refine Tri.skip ?_
        refine Tri.seq ?_
        refine Tri.region ?_
        refine TriL.c1 rfl (op_bin (ltb rfl) rfl rfl rfl) ?_
        refine TriL.c1 rfl (op_as (ltb rfl) rfl) ?_
        refine TriL.nil ?_
        refine Tri.cond rfl (fun hc4 => ?_) (fun hc4 => ?_)
        · refine Tri.exit ?_   -- 3
          refine Tri.seq ?_
          refine Tri.region ?_
          refine TriL.c1 rfl (op_as (ltb rfl) rfl) ?_
          refine TriL.nil ?_
          refine Tri.exit ?_   -- 0
          refine Tri.seq ?_
          refine Tri.region ?_
          refine TriL.c1 rfl (op_mv (ltb rfl) rfl) ?_
          refine TriL.c1 rfl (op_mv (ltb rfl) rfl) ?_
          refine TriL.g1 rfl (ltb rfl) rfl rfl (op_mv (ltb rfl) rfl) ?_
          refine TriL.g1 rfl (ltb rfl) rfl rfl (op_call (ltb rfl) fn75_E2 rfl (number_pure n)) ?_
          refine TriL.c1 rfl (op_pickt (ltb rfl) rfl rfl rfl) ?_
          refine TriL.c1 rfl (op_as (ltb rfl) rfl) ?_
          refine TriL.nil ?_
          refine Tri.ret ?_
          exact ⟨.inr rfl, (ResOK.r1 rfl (.tmp rfl .nil)).cast (by exact res_bool (by (try simp only [decide_eq_true_eq, decide_eq_false_iff_not, beq_iff_eq, beq_eq_false_iff_ne, ne_eq] at *); (try simp only [numok, rightok]); first | exact decide_eq_decide.2 (by omega) | exact (decide_eq_true (by omega)).symm | exact (decide_eq_false (by omega)).symm)), rfl⟩
        · refine Tri.skip ?_
          refine Tri.exit ?_   -- 0
          refine Tri.seq ?_
          refine Tri.region ?_
          refine TriL.c1 rfl (op_mv (ltb rfl) rfl) ?_
          refine TriL.c1 rfl (op_mv (ltb rfl) rfl) ?_
          refine TriL.skip rfl rfl (ltb rfl) rfl rfl ?_
          refine TriL.skip rfl rfl (ltb rfl) rfl rfl ?_
          refine TriL.c1 rfl (op_pickf (ltb rfl) rfl rfl rfl) ?_
          refine TriL.c1 rfl (op_as (ltb rfl) rfl) ?_
          refine TriL.nil ?_
          refine Tri.ret ?_
          exact ⟨.inr rfl, (ResOK.r1 rfl (.tmp rfl .nil)).cast (by exact res_bool (by (try simp only [decide_eq_true_eq, decide_eq_false_iff_not, beq_iff_eq, beq_eq_false_iff_ne, ne_eq] at *); (try simp only [numok, rightok]); first | exact decide_eq_decide.2 (by omega) | exact (decide_eq_true (by omega)).symm | exact (decide_eq_false (by omega)).symm)), rfl⟩
end Go.Proofs.YtnpgcmeclkncnaaDoor.X
/- emit: Len, Deep. -/
set_option linter.unusedVariables false
set_option linter.unusedSimpArgs false
set_option maxRecDepth 100000
namespace Go.Proofs.YtnpgcmeclkncnaaDoor.X
open Go Go.RowKit Go.Proofs
theorem fn42_E3 : isFn Tryd.prog 42 = true := by kernel_rfl
theorem fo80_0_E3 : fo Tryd.prog 80 0 = some 0 := by kernel_rfl
theorem fo80_1_E3 : fo Tryd.prog 80 1 = some 1 := by kernel_rfl
theorem lk36_E3 : lk Tryd.prog 36 = some (false, 1) := by kernel_rfl
theorem lk78_E3 : lk Tryd.prog 78 = some (false, 1) := by kernel_rfl
theorem un36_E3 : Tryd.prog.underlying 36 = some (TypeDesc.slice 5) := Tryd.underlying36
theorem un78_E3 : Tryd.prog.underlying 78 = some (TypeDesc.slice 126) := Tryd.underlying78
theorem len_run (H : Hp) (id : Nat) (b fs : List AV) (ho : H.obj id = some (wr b fs)) : Run Tryd.prog 22 [.op id 0] H (.int .i64 b.length) H := by
  refine Run.of_tri Tryd.func22 rfl rfl (ltb rfl) ?_
  refine Tri.seq ?_
  refine Tri.region ?_
  refine TriL.c1 rfl (op_as (ltb rfl) rfl) ?_
  refine TriL.nil ?_
  refine Tri.seq ?_
  refine Tri.seq ?_
  refine Tri.region ?_
  refine TriL.c1 rfl (op_mv (ltb rfl) rfl) ?_
  refine TriL.c2 rfl (op_callh (ltb rfl) fn42_E3 rfl rfl (is_run H id _ _ ho)) ?_
  refine TriL.c1 rfl (op_un (ltb rfl) rfl rfl) ?_
  refine TriL.nil ?_
  refine Tri.condF rfl rfl ?_
  refine Tri.skip ?_
  refine Tri.ofKept (Kept.opn 100 id 100 rfl ho rfl rfl (Kept.lp 0 100 rfl rfl (Kept.now ?_)))
  refine Tri.seq ?_
  refine Tri.region ?_
  refine TriL.c1 rfl (op_mv (ltb rfl) rfl) ?_
  refine TriL.c1 rfl (op_nckl (ltb rfl) rfl) ?_
  refine TriL.c1 rfl (op_fal (ltb rfl) fo80_0_E3 rfl) ?_
  refine TriL.c1 rfl (op_ldo (ltb rfl) lk36_E3 rfl rfl rfl) ?_
  refine TriL.c1 rfl (op_lenom (ltb rfl) un36_E3 rfl) ?_
  refine TriL.c1 rfl (op_as (ltb rfl) rfl) ?_
  refine TriL.kept (Kept.cls 100 rfl rfl rfl rfl (Kept.now ?_))
  refine Tri.ret ?_
  refine ⟨.inr rfl, ResOK.r1 rfl (.tmp rfl .nil), ?_⟩
  have e : (H.del id).set id (wr b fs) = H := by rw [Hp.del_set, Hp.set_same ho]
  exact congrArg (fun h => some (CV.hp h)) e
theorem deep_run (H : Hp) (id : Nat) (b fs : List AV) (ho : H.obj id = some (wr b fs)) : Run Tryd.prog 43 [.op id 0] H (.int .i64 fs.length) H := by
  refine Run.of_tri Tryd.func43 rfl rfl (ltb rfl) ?_
  refine Tri.seq ?_
  refine Tri.region ?_
  refine TriL.c1 rfl (op_as (ltb rfl) rfl) ?_
  refine TriL.nil ?_
  refine Tri.seq ?_
  refine Tri.seq ?_
  refine Tri.region ?_
  refine TriL.c1 rfl (op_mv (ltb rfl) rfl) ?_
  refine TriL.c2 rfl (op_callh (ltb rfl) fn42_E3 rfl rfl (is_run H id _ _ ho)) ?_
  refine TriL.c1 rfl (op_un (ltb rfl) rfl rfl) ?_
  refine TriL.nil ?_
  refine Tri.condF rfl rfl ?_
  refine Tri.skip ?_
  refine Tri.ofKept (Kept.opn 100 id 100 rfl ho rfl rfl (Kept.lp 0 100 rfl rfl (Kept.now ?_)))
  refine Tri.seq ?_
  refine Tri.region ?_
  refine TriL.c1 rfl (op_mv (ltb rfl) rfl) ?_
  refine TriL.c1 rfl (op_nckl (ltb rfl) rfl) ?_
  refine TriL.c1 rfl (op_fal (ltb rfl) fo80_1_E3 rfl) ?_
  refine TriL.c1 rfl (op_ldo (ltb rfl) lk78_E3 rfl rfl rfl) ?_
  refine TriL.c1 rfl (op_lenom (ltb rfl) un78_E3 rfl) ?_
  refine TriL.c1 rfl (op_as (ltb rfl) rfl) ?_
  refine TriL.kept (Kept.cls 100 rfl rfl rfl rfl (Kept.now ?_))
  refine Tri.ret ?_
  refine ⟨.inr rfl, ResOK.r1 rfl (.tmp rfl .nil), ?_⟩
  have e : (H.del id).set id (wr b fs) = H := by rw [Hp.del_set, Hp.set_same ho]
  exact congrArg (fun h => some (CV.hp h)) e
end Go.Proofs.YtnpgcmeclkncnaaDoor.X
/- emit: lay. -/
set_option linter.unusedVariables false
set_option linter.unusedSimpArgs false
set_option maxRecDepth 100000
namespace Go.Proofs.YtnpgcmeclkncnaaDoor.X
open Go Go.RowKit Go.Proofs
theorem fo80_0_E4 : fo Tryd.prog 80 0 = some 0 := by kernel_rfl
theorem ie36_E4 : ie Tryd.prog 36 = some 1 := by kernel_rfl
theorem lk36_E4 : lk Tryd.prog 36 = some (false, 1) := by kernel_rfl
theorem se36_E4 : se Tryd.prog 36 = some (5, 1, 1) := by kernel_rfl
theorem un36_E4 : Tryd.prog.underlying 36 = some (TypeDesc.slice 5) := Tryd.underlying36
/-- bytes laid ahead of those from a place on: as the code makes them -/
theorem lay_eq (b c : List UInt8) (at_ : Nat) (h : at_ ≤ b.length) :
    splice (splice (bsl b ++ bsl c) (at_ + c.length) ((((bsl b ++ bsl c).drop at_).take (Nat.min (b.length - at_) (b.length - at_))))) at_ (bsl c) = bsl (b.take at_ ++ c ++ b.drop at_) := by
  have hb := bsl_len b
  have hc := bsl_len c
  have hd : (bsl b).drop at_ = bsl (b.drop at_) := by simp [bsl]
  have ht : (bsl b).take at_ = bsl (b.take at_) := by simp [bsl]
  have e0 : Nat.min (b.length - at_) (b.length - at_) = b.length - at_ := Nat.min_self _
  have e1 : ((bsl b ++ bsl c).drop at_).take (Nat.min (b.length - at_) (b.length - at_)) = bsl (b.drop at_) := by
    rw [e0, List.drop_append_of_le_length (by omega), List.take_append_of_le_length (by rw [List.length_drop]; omega), List.take_of_length_le (by rw [List.length_drop]; omega), hd]
  have hl : (bsl (b.drop at_)).length = b.length - at_ := by rw [bsl_len, List.length_drop]
  rw [e1]
  have e2 : splice (bsl b ++ bsl c) (at_ + c.length) (bsl (b.drop at_)) = (bsl b ++ bsl c).take (at_ + c.length) ++ bsl (b.drop at_) := by
    unfold splice
    rw [hl, List.drop_of_length_le (l := bsl b ++ bsl c) (by rw [List.length_append]; omega), List.append_nil]
  rw [e2]
  unfold splice
  have e3 : ((bsl b ++ bsl c).take (at_ + c.length)).length = at_ + c.length := by rw [List.length_take, List.length_append]; omega
  rw [hc, List.take_append_of_le_length (by omega), List.take_take, Nat.min_eq_left (by omega), List.take_append_of_le_length (by omega), ht, List.drop_append_of_le_length (by omega), List.drop_of_length_le (by omega), List.nil_append, bsl_app, bsl_app]

theorem splice_ge (xs zs : List AV) (lo : Nat) : xs.length ≤ (splice xs lo zs).length := by simp only [splice, List.length_append, List.length_take, List.length_drop]; omega
theorem lay_run (H : Hp) (id a : Nat) (b c : List UInt8) (fs : List AV) (ho : H.obj id = some (wr (bsl b) fs)) (ha : a ≤ b.length) (hl : b.length + c.length ≤ 1073741824) :
    Run Tryd.prog 84 [.op id 0, .int .i64 a, .sl (bsl c)] H (.tup []) (H.set id (wr (bsl (b.take a ++ c ++ b.drop a)) fs)) := by
  have hb := bsl_len b
  have hc := bsl_len c
  have hw : IntKind.i64.wrap ((a : Int) + ((bsl c).length : Int)) = ((a + c.length : Nat) : Int) := by rw [hc, wr64] <;> omega
  have hap : (bsl b ++ bsl c).length = b.length + c.length := by rw [List.length_append, hb, hc]
  refine Run.of_tri Tryd.func84 rfl rfl (ltb rfl) ?_
  refine Tri.ofKept (Kept.opn 100 id 100 rfl ho rfl rfl (Kept.lp 0 100 rfl rfl (Kept.now ?_)))
  refine Tri.seq ?_
  refine Tri.region ?_
  refine TriL.c1 rfl (op_mv (ltb rfl) rfl) ?_
  refine TriL.c1 rfl (op_nckl (ltb rfl) rfl) ?_
  refine TriL.c1 rfl (op_fal (ltb rfl) fo80_0_E4 rfl) ?_
  refine TriL.c1 rfl (op_ldo (ltb rfl) lk36_E4 rfl rfl rfl) ?_
  refine TriL.c1 rfl (op_lenom (ltb rfl) un36_E4 rfl) ?_
  refine TriL.c1 rfl (op_as (ltb rfl) rfl) ?_
  refine TriL.nil ?_
  refine Tri.seq ?_
  refine Tri.region ?_
  refine TriL.c1 rfl (op_mv (ltb rfl) rfl) ?_
  refine TriL.c1 rfl (op_mv (ltb rfl) rfl) ?_
  refine TriL.c1 rfl (op_nckl (ltb rfl) rfl) ?_
  refine TriL.c1 rfl (op_fal (ltb rfl) fo80_0_E4 rfl) ?_
  refine TriL.c1 rfl (op_ldo (ltb rfl) lk36_E4 rfl rfl rfl) ?_
  refine TriL.c1 rfl (op_mv (ltb rfl) rfl) ?_
  refine TriL.c3 rfl (op_apm (ltb rfl) se36_E4 rfl rfl rfl rfl (okEls_bsl c) rfl (by omega) (by omega)) ?_
  refine TriL.c1 rfl (op_nckl (ltb rfl) rfl) ?_
  refine TriL.c1 rfl (op_fal (ltb rfl) fo80_0_E4 rfl) ?_
  refine TriL.c1 rfl (op_sto lk36_E4 rfl rfl rfl rfl rfl (leb rfl)) ?_
  refine TriL.nil ?_
  refine Tri.seq ?_
  refine Tri.drawn mixed rfl ?_
  refine TriD.c1 rfl (op_mv (ltb rfl) rfl) ?_
  refine TriD.c1 rfl (op_nckl (ltb rfl) rfl) ?_
  refine TriD.c1 rfl (op_fal (ltb rfl) fo80_0_E4 rfl) ?_
  refine TriD.c1 rfl (op_ldo (ltb rfl) lk36_E4 rfl rfl rfl) ?_
  refine TriD.c1 rfl (op_mv (ltb rfl) rfl) ?_
  refine TriD.c1 rfl (op_mv (ltb rfl) rfl) ?_
  refine TriD.c1 rfl (op_lenl (ltb rfl) un36_E4 rfl) ?_
  refine TriD.c1 rfl (op_bin (ltb rfl) rfl rfl rfl) ?_
  refine TriD.c1 rfl (op_cutov (ltb rfl) ie36_E4 rfl rfl rfl rfl (by omega) (by omega) (by omega)) ?_
  refine TriD.c1 rfl (op_mv (ltb rfl) rfl) ?_
  refine TriD.c1 rfl (op_nckl (ltb rfl) rfl) ?_
  refine TriD.c1 rfl (op_fal (ltb rfl) fo80_0_E4 rfl) ?_
  refine TriD.c1 rfl (op_ldo (ltb rfl) lk36_E4 rfl rfl rfl) ?_
  refine TriD.c1 rfl (op_mv (ltb rfl) rfl) ?_
  refine TriD.c1 rfl (op_mv (ltb rfl) rfl) ?_
  refine TriD.c1 rfl (op_cutov (ltb rfl) ie36_E4 rfl rfl rfl rfl (by omega) (by omega) (by omega)) ?_
  refine TriD.c2 rfl (op_cpo (ltb rfl) ie36_E4 rfl rfl rfl (by omega) (by omega)) ?_
  refine TriD.nil (by kernel_rfl) (Kept.now ?_)
  refine Tri.region ?_
  refine TriL.c1 rfl (op_mv (ltb rfl) rfl) ?_
  refine TriL.c1 rfl (op_nckl (ltb rfl) rfl) ?_
  refine TriL.c1 rfl (op_fal (ltb rfl) fo80_0_E4 rfl) ?_
  refine TriL.c1 rfl (op_ldo (ltb rfl) lk36_E4 rfl rfl rfl) ?_
  refine TriL.c1 rfl (op_mv (ltb rfl) rfl) ?_
  refine TriL.c1 rfl (op_cutov (ltb rfl) ie36_E4 rfl rfl rfl rfl (by omega) (by omega) (by omega)) ?_
  refine TriL.c1 rfl (op_mv (ltb rfl) rfl) ?_
  refine TriL.c2 rfl (op_cpl (ltb rfl) ie36_E4 rfl rfl rfl (okEls_bsl c) (Nat.le_trans (by omega) (splice_ge _ _ _))) ?_
  refine TriL.kept (Kept.cls 100 rfl rfl rfl rfl (Kept.now ?_))
  refine ⟨.inl rfl, ResOK.r0 rfl, ?_⟩
  have e : (H.del id).set id (wr (splice (splice (bsl b ++ bsl c) (IntKind.i64.wrap ((a : Int) + ((bsl c).length : Int))).toNat (((bsl b ++ bsl c).drop ((a : Nat) : Int).toNat).take (Nat.min (((bsl b).length : Int).toNat - ((a : Nat) : Int).toNat) (((bsl b ++ bsl c).length : Int).toNat - (IntKind.i64.wrap ((a : Int) + ((bsl c).length : Int))).toNat)))) ((a : Nat) : Int).toNat ((bsl c).take (Nat.min (bsl c).length (((bsl b ++ bsl c).length : Int).toNat - ((a : Nat) : Int).toNat)))) fs) = H.set id (wr (bsl (b.take a ++ c ++ b.drop a)) fs) := by
    rw [Hp.del_set]
    congr 2
    have q1 : Nat.min (bsl c).length (b.length + c.length - a) = (bsl c).length := Nat.min_eq_left (by omega)
    have q2 : b.length + c.length - (a + c.length) = b.length - a := by omega
    rw [hw, hap]
    simp only [Int.toNat_natCast]
    rw [q1, List.take_length, hb, q2]
    exact lay_eq b c a ha
  exact congrArg (fun h => some (CV.hp h)) e
end Go.Proofs.YtnpgcmeclkncnaaDoor.X
/- bytes.Clone. -/
set_option linter.unusedVariables false
set_option linter.unusedSimpArgs false
set_option maxRecDepth 100000
namespace Go.Proofs.YtnpgcmeclkncnaaDoor.X
open Go Go.RowKit Go.Proofs
theorem se36_E5 : se Tryd.prog 36 = some (5, 1, 1) := by kernel_rfl
theorem un36_E5 : Tryd.prog.underlying 36 = some (TypeDesc.slice 5) := Tryd.underlying36
theorem zAe36_E5 : zeroA Tryd.prog 5 = some [AV.int IntKind.u8 (0)] := by kernel_rfl
theorem clone_pure (b : List UInt8) (hl : b.length ≤ 1073741824) : PureO Tryd.prog 44 [.sl (bsl b)] 5 1 (bsl b) := by
  have hb := bsl_len b
  refine PureO.of_tri Tryd.func44 rfl rfl (ltb rfl) rfl fun H => ?_
  refine Tri.seq ?_
  refine Tri.region ?_
  refine TriL.c1 rfl (op_as (ltb rfl) rfl) ?_
  refine TriL.nil ?_
  refine Tri.seq ?_
  refine Tri.seq ?_
  refine Tri.region ?_
  refine TriL.c1 rfl (op_mv (ltb rfl) rfl) ?_
  refine TriL.eqnil (ltb rfl) un36_E5 rfl fun c hc => ?_
  refine TriL.nil ?_
  refine Tri.cond rfl (fun hc1 => ?_) (fun hc1 => ?_)
  · refine Tri.seq ?_
    refine Tri.region ?_
    refine TriL.c2 rfl (op_nilt (k := 50) (el := 5) (esz := 1) (c := 0) (ltb rfl) rfl (ltb rfl)) ?_
    refine TriL.nil ?_
    refine Tri.ret ?_
    rw [hc hc1]
    exact ⟨.inr rfl, ⟨50, rfl, rfl⟩, rfl⟩
  · refine Tri.skip ?_
    refine Tri.seq ?_
    refine Tri.region ?_
    refine TriL.c2 rfl (op_litt («as» := []) (ltb rfl) se36_E5 zAe36_E5 rfl rfl rfl (leb rfl) rfl) ?_
    refine TriL.c1 rfl (op_mv (ltb rfl) rfl) ?_
    refine TriL.c3 rfl (op_app (ltb rfl) se36_E5 rfl rfl rfl (okEls_bsl b) rfl (by simp only [List.length_nil]; omega) (by simp only [List.length_nil]; omega)) ?_
    refine TriL.c1 rfl (op_as (ltb rfl) rfl) ?_
    refine TriL.nil ?_
    refine Tri.ret ?_
    exact ⟨.inr rfl, ⟨7, rfl, rfl⟩, rfl⟩
end Go.Proofs.YtnpgcmeclkncnaaDoor.X
/- emit: Bytes. -/
set_option linter.unusedVariables false
set_option linter.unusedSimpArgs false
set_option maxRecDepth 100000
namespace Go.Proofs.YtnpgcmeclkncnaaDoor.X
open Go Go.RowKit Go.Proofs
theorem fn42_E6 : isFn Tryd.prog 42 = true := by kernel_rfl
theorem fn43_E6 : isFn Tryd.prog 43 = true := by kernel_rfl
theorem fn44_E6 : isFn Tryd.prog 44 = true := by kernel_rfl
theorem fo80_0_E6 : fo Tryd.prog 80 0 = some 0 := by kernel_rfl
theorem lk36_E6 : lk Tryd.prog 36 = some (false, 1) := by kernel_rfl
theorem all_isInt_bsl : ∀ b : List UInt8, (bsl b).all isInt = true
  | [] => rfl
  | c :: b => by
    have := all_isInt_bsl b
    simp only [bsl, List.map_cons, List.all_cons, Bool.and_eq_true] at this ⊢
    exact ⟨rfl, this⟩
/-- Bytes, when no frame is open. -/
theorem bytes_run (H : Hp) (id : Nat) (b : List UInt8) (ho : H.obj id = some (wr (bsl b) [])) (hl : b.length ≤ 1073741824) : Run Tryd.prog 23 [.op id 0] H (.sl (bsl b)) H := by
  refine Run.of_tri Tryd.func23 rfl rfl (ltb rfl) ?_
  refine Tri.seq ?_
  refine Tri.region ?_
  refine TriL.c1 rfl (op_as (ltb rfl) rfl) ?_
  refine TriL.nil ?_
  refine Tri.seq ?_
  refine Tri.seq ?_
  refine Tri.region ?_
  refine TriL.c1 rfl (op_mv (ltb rfl) rfl) ?_
  refine TriL.c2 rfl (op_callh (ltb rfl) fn43_E6 rfl rfl (deep_run H id _ _ ho)) ?_
  refine TriL.c1 rfl (op_bin (ltb rfl) rfl rfl rfl) ?_
  refine TriL.c1 rfl (op_mv (ltb rfl) rfl) ?_
  refine TriL.g1 rfl (ltb rfl) rfl rfl (op_mv (ltb rfl) rfl) ?_
  refine TriL.g2 rfl (ltb rfl) rfl rfl (op_callh (ltb rfl) fn42_E6 rfl rfl (is_run H id _ _ ho)) ?_
  refine TriL.g1 rfl (ltb rfl) rfl rfl (op_un (ltb rfl) rfl rfl) ?_
  refine TriL.c1 rfl (op_pickf (ltb rfl) rfl rfl rfl) ?_
  refine TriL.nil ?_
  refine Tri.condF rfl rfl ?_
  refine Tri.skip ?_
  refine Tri.ofKept (Kept.opn 100 id 100 rfl ho rfl rfl (Kept.lp 0 100 rfl rfl (Kept.now ?_)))
  refine Tri.seq ?_
  refine Tri.region ?_
  refine TriL.c1 rfl (op_mv (ltb rfl) rfl) ?_
  refine TriL.c1 rfl (op_nckl (ltb rfl) rfl) ?_
  refine TriL.c1 rfl (op_fal (ltb rfl) fo80_0_E6 rfl) ?_
  refine TriL.c1 rfl (op_ldo (ltb rfl) lk36_E6 rfl rfl rfl) ?_
  refine TriL.c2 rfl (op_callb (ltb rfl) fn44_E6 rfl rfl (clone_pure b hl) (all_isInt_bsl b) rfl) ?_
  refine TriL.c1 rfl (op_as (ltb rfl) rfl) ?_
  refine TriL.kept (Kept.cls 100 rfl rfl rfl rfl (Kept.now ?_))
  refine Tri.ret ?_
  refine ⟨.inr rfl, ResOK.r1 rfl (.tmp rfl .nil), ?_⟩
  have e : (H.del id).set id (wr (bsl b) []) = H := by rw [Hp.del_set, Hp.set_same ho]
  exact congrArg (fun h => some (CV.hp h)) e
end Go.Proofs.YtnpgcmeclkncnaaDoor.X
/- emit: Open. -/
set_option linter.unusedVariables false
set_option linter.unusedSimpArgs false
set_option maxRecDepth 100000
namespace Go.Proofs.YtnpgcmeclkncnaaDoor.X
open Go Go.RowKit Go.Proofs
theorem fn42_E7 : isFn Tryd.prog 42 = true := by kernel_rfl
theorem fn65_E7 : isFn Tryd.prog 65 = true := by kernel_rfl
theorem fo80_0_E7 : fo Tryd.prog 80 0 = some 0 := by kernel_rfl
theorem fo80_1_E7 : fo Tryd.prog 80 1 = some 1 := by kernel_rfl
theorem lk36_E7 : lk Tryd.prog 36 = some (false, 1) := by kernel_rfl
theorem lk78_E7 : lk Tryd.prog 78 = some (false, 1) := by kernel_rfl
theorem se78_E7 : se Tryd.prog 78 = some (126, 2, 16) := by kernel_rfl
theorem spl126_E7 : spl Tryd.prog 126 = some [(0, 1), (1, 1)] := by kernel_rfl
theorem un36_E7 : Tryd.prog.underlying 36 = some (TypeDesc.slice 5) := Tryd.underlying36
theorem zAe78_E7 : zeroA Tryd.prog 126 = some [AV.int IntKind.i64 (0), AV.int IntKind.i64 (0)] := by kernel_rfl
def frm (n k : Int) : AV := .agg [.int .i64 n, .int .i64 k]
theorem open_run (H : Hp) (id : Nat) (n : Int) (b : List UInt8) (fs : List AV) (ho : H.obj id = some (wr (bsl b) fs)) (hr : rightok n 2 = true) (hl : fs.length ≤ 1048576) : Run Tryd.prog 76 [.op id 0, .int .i64 n] H (.bool true) (H.set id (wr (bsl b) (fs ++ [frm n (bsl b).length]))) := by
  refine Run.of_tri Tryd.func76 rfl rfl (ltb rfl) ?_
  refine Tri.seq ?_
  refine Tri.region ?_
  refine TriL.c1 rfl (op_as (ltb rfl) rfl) ?_
  refine TriL.nil ?_
  refine Tri.seq ?_
  refine Tri.seq ?_
  refine Tri.region ?_
  refine TriL.c1 rfl (op_mv (ltb rfl) rfl) ?_
  refine TriL.c2 rfl (op_callh (ltb rfl) fn42_E7 rfl rfl (is_run H id _ _ ho)) ?_
  refine TriL.c1 rfl (op_un (ltb rfl) rfl rfl) ?_
  refine TriL.c1 rfl (op_mv (ltb rfl) rfl) ?_
  refine TriL.g1 rfl (ltb rfl) rfl rfl (op_mv (ltb rfl) rfl) ?_
  refine TriL.g1 rfl (ltb rfl) rfl rfl (op_call (ltb rfl) fn65_E7 rfl (hr ▸ right_pure n 2)) ?_
  refine TriL.g1 rfl (ltb rfl) rfl rfl (op_un (ltb rfl) rfl rfl) ?_
  refine TriL.c1 rfl (op_pickf (ltb rfl) rfl rfl rfl) ?_
  refine TriL.nil ?_
  refine Tri.condF rfl rfl ?_
  refine Tri.skip ?_
  refine Tri.ofKept (Kept.opn 100 id 100 rfl ho rfl rfl (Kept.lp 0 100 rfl rfl (Kept.now ?_)))
  refine Tri.seq ?_
  refine Tri.drawn mixed rfl ?_
  refine TriD.c1 rfl (op_mv (ltb rfl) rfl) ?_
  refine TriD.c1 rfl (op_mv (ltb rfl) rfl) ?_
  refine TriD.c1 rfl (op_nckl (ltb rfl) rfl) ?_
  refine TriD.c1 rfl (op_fal (ltb rfl) fo80_1_E7 rfl) ?_
  refine TriD.c1 rfl (op_ldo (ltb rfl) lk78_E7 rfl rfl rfl) ?_
  refine TriD.c1 rfl (op_mv (ltb rfl) rfl) ?_
  refine TriD.c1 rfl (op_mv (ltb rfl) rfl) ?_
  refine TriD.c1 rfl (op_nckl (ltb rfl) rfl) ?_
  refine TriD.c1 rfl (op_fal (ltb rfl) fo80_0_E7 rfl) ?_
  refine TriD.c1 rfl (op_ldo (ltb rfl) lk36_E7 rfl rfl rfl) ?_
  refine TriD.c1 rfl (op_lenom (ltb rfl) un36_E7 rfl) ?_
  refine TriD.c1 rfl (op_bld (ltb rfl) spl126_E7 zAe78_E7 rfl rfl) ?_
  refine TriD.c1 rfl (op_lit («as» := [frm n (bsl b).length]) (ltb rfl) se78_E7 zAe78_E7 rfl rfl rfl (leb rfl)) ?_
  refine TriD.c3 rfl (op_apm (ltb rfl) se78_E7 rfl rfl rfl rfl rfl rfl (by simp only [List.length_cons, List.length_nil]; omega) (by simp only [List.length_cons, List.length_nil]; omega)) ?_
  refine TriD.c1 rfl (op_nckl (ltb rfl) rfl) ?_
  refine TriD.c1 rfl (op_fal (ltb rfl) fo80_1_E7 rfl) ?_
  refine TriD.c1 rfl (op_sto lk78_E7 rfl rfl rfl rfl rfl (leb rfl)) ?_
  refine TriD.nil (by kernel_rfl) (Kept.now ?_)
  refine Tri.seq ?_
  refine Tri.region ?_
  refine TriL.c1 rfl (op_as (ltb rfl) rfl) ?_
  refine TriL.kept (Kept.cls 100 rfl rfl rfl rfl (Kept.now ?_))
  refine Tri.ret ?_
  refine ⟨.inr rfl, ResOK.r1 rfl (.tmp rfl .nil), ?_⟩
  exact congrArg (fun h => some (CV.hp h)) (Hp.del_set H id _)
end Go.Proofs.YtnpgcmeclkncnaaDoor.X
/- tag.Of. -/
set_option linter.unusedVariables false
set_option linter.unusedSimpArgs false
set_option maxRecDepth 100000
namespace Go.Proofs.YtnpgcmeclkncnaaDoor.X
open Go Go.RowKit Go.Proofs
theorem fn65_E8 : isFn Tryd.prog 65 = true := by kernel_rfl
theorem un40_E8 : Tryd.prog.underlying 40 = some (TypeDesc.int IntKind.u64) := Tryd.underlying40
theorem wru64 {n : Int} (h0 : 0 ≤ n) (h : n < 18446744073709551616) : IntKind.u64.wrap n = n := by simp only [IntKind.wrap, IntKind.bits, IntKind.signed]; simp; omega
theorem or_low (n w : Nat) (hn : n < 2 ^ 32) (hw : w < 8) : ibits .or .u64 ((8 * n : Nat) : Int) (w : Int) = ((8 * n + w : Nat) : Int) := by
  have e1 : (BitVec.ofInt 64 ((8 * n : Nat) : Int)).toNat = 8 * n := by rw [BitVec.toNat_ofInt]; omega
  have e2 : (BitVec.ofInt 64 ((w : Nat) : Int)).toNat = w := by rw [BitVec.toNat_ofInt]; omega
  show IntKind.u64.wrap (((BitVec.ofInt 64 ((8 * n : Nat) : Int)) ||| (BitVec.ofInt 64 ((w : Nat) : Int))).toNat : Int) = _
  rw [BitVec.toNat_or, e1, e2]
  have e3 : 8 * n ||| w = 8 * n + w := by
    have := Nat.shiftLeft_add_eq_or_of_lt (a := n) (b := w) (i := 3) (by omega)
    rw [Nat.shiftLeft_eq] at this
    rw [show 8 * n = n * 2 ^ 3 by omega]
    exact this.symm
  rw [e3, wru64] <;> omega
/-- what stands ahead of a field -/
def tagnum (n w : Int) : Int := if rightok n w then 8 * n + w else 0
theorem of_pure (n w : Int) : Pure Tryd.prog 78 [.int .i64 n, .int .i64 w] (.tup [.int .u64 (tagnum n w), .bool (rightok n w)]) := by
  refine Pure.of_tri Tryd.func78 rfl rfl (ltb rfl) fun H => ?_
  refine Tri.seq ?_
  refine Tri.region ?_
  refine TriL.c1 rfl (op_as (ltb rfl) rfl) ?_
  refine TriL.c1 rfl (op_as (ltb rfl) rfl) ?_
  refine TriL.nil ?_
  refine Tri.seq ?_
  refine Tri.seq ?_
  refine Tri.region ?_
  refine TriL.c1 rfl (op_mv (ltb rfl) rfl) ?_
  refine TriL.c1 rfl (op_mv (ltb rfl) rfl) ?_
  refine TriL.c1 rfl (op_call (ltb rfl) fn65_E8 rfl (right_pure n w)) ?_
  refine TriL.c1 rfl (op_un (ltb rfl) rfl rfl) ?_
  refine TriL.nil ?_
  refine Tri.cond rfl (fun hc1 => ?_) (fun hc1 => ?_)
  · have h1 : rightok n w = false := by simpa using hc1
    refine Tri.seq ?_
    refine Tri.region ?_
    refine TriL.c1 rfl (op_as (ltb rfl) rfl) ?_
    refine TriL.c1 rfl (op_as (ltb rfl) rfl) ?_
    refine TriL.nil ?_
    refine Tri.ret ?_
    exact ⟨.inr rfl, (ResOK.r2 rfl (.tmp rfl (.tmp rfl .nil))).cast (by simp [tagnum, h1]), rfl⟩
  · have h1 : rightok n w = true := by simpa using hc1
    have h2 := of_decide_eq_true h1
    obtain ⟨k, rfl⟩ : ∃ k : Nat, n = k := ⟨n.toNat, by omega⟩
    obtain ⟨v, rfl⟩ : ∃ v : Nat, w = v := ⟨w.toNat, by omega⟩
    refine Tri.skip ?_
    refine Tri.seq ?_
    refine Tri.region ?_
    refine TriL.c1 rfl (op_mv (ltb rfl) rfl) ?_
    refine TriL.c1 rfl (op_cvi (ltb rfl) Tryd.underlying3 un40_E8 rfl) ?_
    refine TriL.c1 rfl (op_bin (ltb rfl) rfl rfl rfl) ?_
    refine TriL.c1 rfl (op_mv (ltb rfl) rfl) ?_
    refine TriL.c1 rfl (op_cvi (ltb rfl) Tryd.underlying3 un40_E8 rfl) ?_
    refine TriL.c1 rfl (op_bin (ltb rfl) rfl rfl rfl) ?_
    refine TriL.c1 rfl (op_as (ltb rfl) rfl) ?_
    refine TriL.c1 rfl (op_as (ltb rfl) rfl) ?_
    refine TriL.nil ?_
    refine Tri.ret ?_
    refine ⟨.inr rfl, (ResOK.r2 rfl (.tmp rfl (.tmp rfl .nil))).cast ?_, rfl⟩
    have e1 : IntKind.u64.wrap (k : Int) = k := wru64 (by omega) (by omega)
    have e2 : IntKind.u64.wrap (v : Int) = v := wru64 (by omega) (by omega)
    have e3 : IntKind.u64.wrap (IntKind.u64.wrap (k : Int) * 2 ^ (min (Int.toNat 3) (IntKind.bits .u64))) = ((8 * k : Nat) : Int) := by
      rw [e1, show (min (Int.toNat 3) (IntKind.bits .u64)) = 3 from rfl, wru64] <;> omega
    rw [e3, e2, or_low k v (by omega) (by omega), tagnum, h1]
    simp
end Go.Proofs.YtnpgcmeclkncnaaDoor.X
/- math/bits.Len64. -/
set_option linter.unusedVariables false
set_option linter.unusedSimpArgs false
set_option maxRecDepth 100000
namespace Go.Proofs.YtnpgcmeclkncnaaDoor.X
open Go Go.RowKit Go.Proofs
/-- how many bits a number has -/
def blen (n : Nat) : Nat := if n = 0 then 0 else Nat.log2 n + 1
theorem blen_half {n : Nat} (h : 1 ≤ n) : blen n = blen (n / 2) + 1 := by
  unfold blen
  rw [if_neg (by omega), Nat.log2_def]
  by_cases h2 : 2 ≤ n
  · rw [if_pos h2, if_neg (by omega)]
  · rw [if_neg h2, if_pos (by omega)]
theorem blen_shift : ∀ (k n : Nat), 2 ^ k ≤ n → blen n = blen (n / 2 ^ k) + k
  | 0, n, _ => by simp
  | k + 1, n, h => by
    have h1 : 1 ≤ n := Nat.le_trans (Nat.one_le_two_pow) h
    have h2 : 2 ^ k ≤ n / 2 := by rw [Nat.le_div_iff_mul_le (by decide), ← Nat.pow_succ]; exact h
    rw [blen_half h1, blen_shift k (n / 2) h2, Nat.div_div_eq_div_mul, show 2 * 2 ^ k = 2 ^ (k + 1) by rw [Nat.pow_succ, Nat.mul_comm]]
    omega
def tab8 : List UInt8 := [0] ++ [1] ++ List.replicate 2 2 ++ List.replicate 4 3 ++ List.replicate 8 4 ++ List.replicate 16 5 ++ List.replicate 32 6 ++ List.replicate 64 7 ++ List.replicate 128 8
theorem tab8_get (i : Nat) (h : i < 256) : tab8[i]? = some (UInt8.ofNat (blen i)) := by
  have : ∀ k : Fin 256, tab8[k.val]? = some (UInt8.ofNat (blen k.val)) := by decide +kernel
  exact this ⟨i, h⟩
theorem blen_lt {i : Nat} (h : i < 256) : blen i ≤ 8 := by
  have : ∀ k : Fin 256, blen k.val ≤ 8 := by decide +kernel
  exact this ⟨i, h⟩
section
variable {P : Program} {N : Nat} {s : St} {d : Nat} {ty : TypeId} {pos : String} {af : Array Edge} {g : Option (Nat × Bool)}
end
end Go.Proofs.YtnpgcmeclkncnaaDoor.X
/- math/bits.Len64. -/
set_option linter.unusedVariables false
set_option linter.unusedSimpArgs false
set_option maxRecDepth 100000
namespace Go.Proofs.YtnpgcmeclkncnaaDoor.X
open Go Go.RowKit Go.Proofs
theorem un3_E10 : Tryd.prog.underlying 3 = some (TypeDesc.int IntKind.i64) := Tryd.underlying3
theorem un40_E10 : Tryd.prog.underlying 40 = some (TypeDesc.int IntKind.u64) := Tryd.underlying40
theorem un5_E10 : Tryd.prog.underlying 5 = some (TypeDesc.int IntKind.u8) := Tryd.underlying5
theorem un9_E10 : Tryd.prog.underlying 9 = some TypeDesc.string := Tryd.underlying9
theorem leaf0 {m : Nat} (h : m < 256) : 0 ≤ IntKind.u8.wrap (m : Int) := by rw [wr8 (by omega) (by omega)]; omega
theorem leaf1 {m : Nat} (h : m < 256) : tab8[(IntKind.u8.wrap (m : Int)).toNat]? = some (UInt8.ofNat (blen m)) := by rw [wr8 (by omega) (by omega), Int.toNat_natCast]; exact tab8_get m h
theorem leaf2 {n m off : Nat} {o : Int} (ho : o = off) (hm : m < 256) (hb : blen n = blen m + off) (h : off ≤ 56) : IntKind.i64.wrap (o + IntKind.i64.wrap ((UInt8.ofNat (blen m)).toNat : Int)) = (blen n : Int) := by
  have := blen_lt hm
  have e : (UInt8.ofNat (blen m)).toNat = blen m := UInt8.toNat_ofNat_of_lt' (by simp [UInt8.size]; omega)
  rw [e, ho, wr64 (n := (blen m : Int)) (by omega) (by omega), wr64 (by omega) (by omega), hb]; omega
theorem s32 {n : Nat} (h : 4294967296 ≤ n) : blen n = blen (n / 4294967296) + 32 := blen_shift 32 n h
theorem s16 {n : Nat} (h : 65536 ≤ n) : blen n = blen (n / 65536) + 16 := blen_shift 16 n h
theorem s8 {n : Nat} (h : 256 ≤ n) : blen n = blen (n / 256) + 8 := blen_shift 8 n h
theorem leaf3 {n : Nat} (h : 4294967296 ≤ n) : blen n = blen (n / 4294967296) + 32 := s32 h
theorem leaf4 {n : Nat} (h : 4294967296 ≤ n) (k : 65536 ≤ n / 4294967296) : blen n = blen (n / 4294967296 / 65536) + 48 := by rw [s32 h, s16 k]
theorem leaf5 {n : Nat} (h : 4294967296 ≤ n) (k : 65536 ≤ n / 4294967296) (l : 256 ≤ n / 4294967296 / 65536) : blen n = blen (n / 4294967296 / 65536 / 256) + 56 := by rw [s32 h, s16 k, s8 l]
theorem leaf6 {n : Nat} (h : 65536 ≤ n) : blen n = blen (n / 65536) + 16 := s16 h
theorem leaf7 {n : Nat} (h : 65536 ≤ n) (k : 256 ≤ n / 65536) : blen n = blen (n / 65536 / 256) + 24 := by rw [s16 h, s8 k]
theorem leaf8 {n : Nat} (h : 256 ≤ n) : blen n = blen (n / 256) + 8 := s8 h
theorem leaf9 {n : Nat} (h : 4294967296 ≤ n) (k : 256 ≤ n / 4294967296) : blen n = blen (n / 4294967296 / 256) + 40 := by rw [s32 h, s8 k]
theorem len64_pure (n : Nat) (h : n < 18446744073709551616) : Pure Tryd.prog 62 [.int .u64 (n : Int)] (.int .i64 (blen n)) := by
  refine Pure.of_tri Tryd.func62 rfl rfl (ltb rfl) fun H => ?_
  refine Tri.seq ?_
  refine Tri.region ?_
  refine TriL.c1 rfl (op_as (ltb rfl) rfl) ?_
  refine TriL.nil ?_
  refine Tri.seq ?_
  refine Tri.seq ?_
  refine Tri.region ?_
  refine TriL.c1 rfl (op_mv (ltb rfl) rfl) ?_
  refine TriL.c1 rfl (op_bin (ltb rfl) rfl rfl rfl) ?_
  refine TriL.nil ?_
  refine Tri.cond rfl (fun hc1 => ?_) (fun hc1 => ?_)
  · refine Tri.seq ?_
    refine Tri.region ?_
    refine TriL.c1 rfl (op_mv (ltb rfl) rfl) ?_
    refine TriL.c1 rfl (op_shr (ltb rfl) rfl rfl (by decide)) ?_
    refine TriL.c1 rfl (op_as (ltb rfl) rfl) ?_
    refine TriL.nil ?_
    refine Tri.region ?_
    refine TriL.c1 rfl (op_as (ltb rfl) rfl) ?_
    refine TriL.nil ?_
    refine Tri.seq ?_
    refine Tri.seq ?_
    refine Tri.region ?_
    refine TriL.c1 rfl (op_mv (ltb rfl) rfl) ?_
    refine TriL.c1 rfl (op_bin (ltb rfl) rfl rfl rfl) ?_
    refine TriL.nil ?_
    refine Tri.cond rfl (fun hc2 => ?_) (fun hc2 => ?_)
    · refine Tri.seq ?_
      refine Tri.region ?_
      refine TriL.c1 rfl (op_mv (ltb rfl) rfl) ?_
      refine TriL.c1 rfl (op_shr (ltb rfl) rfl rfl (by decide)) ?_
      refine TriL.c1 rfl (op_as (ltb rfl) rfl) ?_
      refine TriL.nil ?_
      refine Tri.region ?_
      refine TriL.c1 rfl (op_mv (ltb rfl) rfl) ?_
      refine TriL.c1 rfl (op_bin (ltb rfl) rfl rfl rfl) ?_
      refine TriL.c1 rfl (op_as (ltb rfl) rfl) ?_
      refine TriL.nil ?_
      refine Tri.seq ?_
      refine Tri.seq ?_
      refine Tri.region ?_
      refine TriL.c1 rfl (op_mv (ltb rfl) rfl) ?_
      refine TriL.c1 rfl (op_bin (ltb rfl) rfl rfl rfl) ?_
      refine TriL.nil ?_
      refine Tri.cond rfl (fun hc3 => ?_) (fun hc3 => ?_)
      · refine Tri.seq ?_
        refine Tri.region ?_
        refine TriL.c1 rfl (op_mv (ltb rfl) rfl) ?_
        refine TriL.c1 rfl (op_shr (ltb rfl) rfl rfl (by decide)) ?_
        refine TriL.c1 rfl (op_as (ltb rfl) rfl) ?_
        refine TriL.nil ?_
        refine Tri.region ?_
        refine TriL.c1 rfl (op_mv (ltb rfl) rfl) ?_
        refine TriL.c1 rfl (op_bin (ltb rfl) rfl rfl rfl) ?_
        refine TriL.c1 rfl (op_as (ltb rfl) rfl) ?_
        refine TriL.nil ?_
        refine Tri.seq ?_
        refine Tri.region ?_
        refine TriL.c1 rfl (op_mv (ltb rfl) rfl) ?_
        refine TriL.c1 rfl (op_mv (ltb rfl) rfl) ?_
        refine TriL.c1 rfl (op_cvi (ltb rfl) un40_E10 un5_E10 rfl) ?_
        have q0 : (((4294967296 : Nat) : Int) ≤ ((n : Nat) : Int)) := of_decide_eq_true hc1
        have q1 : (((65536 : Nat) : Int) ≤ ((n / 4294967296 : Nat) : Int)) := of_decide_eq_true hc2
        have q2 : (((256 : Nat) : Int) ≤ ((n / 4294967296 / 65536 : Nat) : Int)) := of_decide_eq_true hc3
        have hm : n / 4294967296 / 65536 / 256 < 256 := by omega
        refine TriL.c1 rfl (op_ixs (ltb rfl) un9_E10 rfl rfl (leaf0 (m := n / 4294967296 / 65536 / 256) hm) (leaf1 (m := n / 4294967296 / 65536 / 256) hm)) ?_
        refine TriL.c1 rfl (op_cvi (ltb rfl) un5_E10 un3_E10 rfl) ?_
        refine TriL.c1 rfl (op_bin (ltb rfl) rfl rfl rfl) ?_
        refine TriL.c1 rfl (op_as (ltb rfl) rfl) ?_
        refine TriL.nil ?_
        refine Tri.ret ?_
        exact ⟨.inr rfl, (ResOK.r1 rfl (.tmp rfl .nil)).cast (res_i64 (leaf2 (n := n) (m := n / 4294967296 / 65536 / 256) (off := 56) (by first | rfl | decide) hm (leaf5 (by omega) (by omega) (by omega)) (by decide))), rfl⟩
      · refine Tri.skip ?_
        refine Tri.seq ?_
        refine Tri.region ?_
        refine TriL.c1 rfl (op_mv (ltb rfl) rfl) ?_
        refine TriL.c1 rfl (op_mv (ltb rfl) rfl) ?_
        refine TriL.c1 rfl (op_cvi (ltb rfl) un40_E10 un5_E10 rfl) ?_
        have q0 : (((4294967296 : Nat) : Int) ≤ ((n : Nat) : Int)) := of_decide_eq_true hc1
        have q1 : (((65536 : Nat) : Int) ≤ ((n / 4294967296 : Nat) : Int)) := of_decide_eq_true hc2
        have q2 : ¬ (((256 : Nat) : Int) ≤ ((n / 4294967296 / 65536 : Nat) : Int)) := of_decide_eq_false hc3
        have hm : n / 4294967296 / 65536 < 256 := by omega
        refine TriL.c1 rfl (op_ixs (ltb rfl) un9_E10 rfl rfl (leaf0 (m := n / 4294967296 / 65536) hm) (leaf1 (m := n / 4294967296 / 65536) hm)) ?_
        refine TriL.c1 rfl (op_cvi (ltb rfl) un5_E10 un3_E10 rfl) ?_
        refine TriL.c1 rfl (op_bin (ltb rfl) rfl rfl rfl) ?_
        refine TriL.c1 rfl (op_as (ltb rfl) rfl) ?_
        refine TriL.nil ?_
        refine Tri.ret ?_
        exact ⟨.inr rfl, (ResOK.r1 rfl (.tmp rfl .nil)).cast (res_i64 (leaf2 (n := n) (m := n / 4294967296 / 65536) (off := 48) (by first | rfl | decide) hm (leaf4 (by omega) (by omega)) (by decide))), rfl⟩
    · refine Tri.skip ?_
      refine Tri.seq ?_
      refine Tri.seq ?_
      refine Tri.region ?_
      refine TriL.c1 rfl (op_mv (ltb rfl) rfl) ?_
      refine TriL.c1 rfl (op_bin (ltb rfl) rfl rfl rfl) ?_
      refine TriL.nil ?_
      refine Tri.cond rfl (fun hc4 => ?_) (fun hc4 => ?_)
      · refine Tri.seq ?_
        refine Tri.region ?_
        refine TriL.c1 rfl (op_mv (ltb rfl) rfl) ?_
        refine TriL.c1 rfl (op_shr (ltb rfl) rfl rfl (by decide)) ?_
        refine TriL.c1 rfl (op_as (ltb rfl) rfl) ?_
        refine TriL.nil ?_
        refine Tri.region ?_
        refine TriL.c1 rfl (op_mv (ltb rfl) rfl) ?_
        refine TriL.c1 rfl (op_bin (ltb rfl) rfl rfl rfl) ?_
        refine TriL.c1 rfl (op_as (ltb rfl) rfl) ?_
        refine TriL.nil ?_
        refine Tri.seq ?_
        refine Tri.region ?_
        refine TriL.c1 rfl (op_mv (ltb rfl) rfl) ?_
        refine TriL.c1 rfl (op_mv (ltb rfl) rfl) ?_
        refine TriL.c1 rfl (op_cvi (ltb rfl) un40_E10 un5_E10 rfl) ?_
        have q0 : (((4294967296 : Nat) : Int) ≤ ((n : Nat) : Int)) := of_decide_eq_true hc1
        have q1 : ¬ (((65536 : Nat) : Int) ≤ ((n / 4294967296 : Nat) : Int)) := of_decide_eq_false hc2
        have q2 : (((256 : Nat) : Int) ≤ ((n / 4294967296 : Nat) : Int)) := of_decide_eq_true hc4
        have hm : n / 4294967296 / 256 < 256 := by omega
        refine TriL.c1 rfl (op_ixs (ltb rfl) un9_E10 rfl rfl (leaf0 (m := n / 4294967296 / 256) hm) (leaf1 (m := n / 4294967296 / 256) hm)) ?_
        refine TriL.c1 rfl (op_cvi (ltb rfl) un5_E10 un3_E10 rfl) ?_
        refine TriL.c1 rfl (op_bin (ltb rfl) rfl rfl rfl) ?_
        refine TriL.c1 rfl (op_as (ltb rfl) rfl) ?_
        refine TriL.nil ?_
        refine Tri.ret ?_
        exact ⟨.inr rfl, (ResOK.r1 rfl (.tmp rfl .nil)).cast (res_i64 (leaf2 (n := n) (m := n / 4294967296 / 256) (off := 40) (by first | rfl | decide) hm (leaf9 (by omega) (by omega)) (by decide))), rfl⟩
      · refine Tri.skip ?_
        refine Tri.seq ?_
        refine Tri.region ?_
        refine TriL.c1 rfl (op_mv (ltb rfl) rfl) ?_
        refine TriL.c1 rfl (op_mv (ltb rfl) rfl) ?_
        refine TriL.c1 rfl (op_cvi (ltb rfl) un40_E10 un5_E10 rfl) ?_
        have q0 : (((4294967296 : Nat) : Int) ≤ ((n : Nat) : Int)) := of_decide_eq_true hc1
        have q1 : ¬ (((65536 : Nat) : Int) ≤ ((n / 4294967296 : Nat) : Int)) := of_decide_eq_false hc2
        have q2 : ¬ (((256 : Nat) : Int) ≤ ((n / 4294967296 : Nat) : Int)) := of_decide_eq_false hc4
        have hm : n / 4294967296 < 256 := by omega
        refine TriL.c1 rfl (op_ixs (ltb rfl) un9_E10 rfl rfl (leaf0 (m := n / 4294967296) hm) (leaf1 (m := n / 4294967296) hm)) ?_
        refine TriL.c1 rfl (op_cvi (ltb rfl) un5_E10 un3_E10 rfl) ?_
        refine TriL.c1 rfl (op_bin (ltb rfl) rfl rfl rfl) ?_
        refine TriL.c1 rfl (op_as (ltb rfl) rfl) ?_
        refine TriL.nil ?_
        refine Tri.ret ?_
        exact ⟨.inr rfl, (ResOK.r1 rfl (.tmp rfl .nil)).cast (res_i64 (leaf2 (n := n) (m := n / 4294967296) (off := 32) (by first | rfl | decide) hm (leaf3 (by omega)) (by decide))), rfl⟩
  · refine Tri.skip ?_
    refine Tri.seq ?_
    refine Tri.seq ?_
    refine Tri.region ?_
    refine TriL.c1 rfl (op_mv (ltb rfl) rfl) ?_
    refine TriL.c1 rfl (op_bin (ltb rfl) rfl rfl rfl) ?_
    refine TriL.nil ?_
    refine Tri.cond rfl (fun hc5 => ?_) (fun hc5 => ?_)
    · refine Tri.seq ?_
      refine Tri.region ?_
      refine TriL.c1 rfl (op_mv (ltb rfl) rfl) ?_
      refine TriL.c1 rfl (op_shr (ltb rfl) rfl rfl (by decide)) ?_
      refine TriL.c1 rfl (op_as (ltb rfl) rfl) ?_
      refine TriL.nil ?_
      refine Tri.region ?_
      refine TriL.c1 rfl (op_mv (ltb rfl) rfl) ?_
      refine TriL.c1 rfl (op_bin (ltb rfl) rfl rfl rfl) ?_
      refine TriL.c1 rfl (op_as (ltb rfl) rfl) ?_
      refine TriL.nil ?_
      refine Tri.seq ?_
      refine Tri.seq ?_
      refine Tri.region ?_
      refine TriL.c1 rfl (op_mv (ltb rfl) rfl) ?_
      refine TriL.c1 rfl (op_bin (ltb rfl) rfl rfl rfl) ?_
      refine TriL.nil ?_
      refine Tri.cond rfl (fun hc6 => ?_) (fun hc6 => ?_)
      · refine Tri.seq ?_
        refine Tri.region ?_
        refine TriL.c1 rfl (op_mv (ltb rfl) rfl) ?_
        refine TriL.c1 rfl (op_shr (ltb rfl) rfl rfl (by decide)) ?_
        refine TriL.c1 rfl (op_as (ltb rfl) rfl) ?_
        refine TriL.nil ?_
        refine Tri.region ?_
        refine TriL.c1 rfl (op_mv (ltb rfl) rfl) ?_
        refine TriL.c1 rfl (op_bin (ltb rfl) rfl rfl rfl) ?_
        refine TriL.c1 rfl (op_as (ltb rfl) rfl) ?_
        refine TriL.nil ?_
        refine Tri.seq ?_
        refine Tri.region ?_
        refine TriL.c1 rfl (op_mv (ltb rfl) rfl) ?_
        refine TriL.c1 rfl (op_mv (ltb rfl) rfl) ?_
        refine TriL.c1 rfl (op_cvi (ltb rfl) un40_E10 un5_E10 rfl) ?_
        have q0 : ¬ (((4294967296 : Nat) : Int) ≤ ((n : Nat) : Int)) := of_decide_eq_false hc1
        have q1 : (((65536 : Nat) : Int) ≤ ((n : Nat) : Int)) := of_decide_eq_true hc5
        have q2 : (((256 : Nat) : Int) ≤ ((n / 65536 : Nat) : Int)) := of_decide_eq_true hc6
        have hm : n / 65536 / 256 < 256 := by omega
        refine TriL.c1 rfl (op_ixs (ltb rfl) un9_E10 rfl rfl (leaf0 (m := n / 65536 / 256) hm) (leaf1 (m := n / 65536 / 256) hm)) ?_
        refine TriL.c1 rfl (op_cvi (ltb rfl) un5_E10 un3_E10 rfl) ?_
        refine TriL.c1 rfl (op_bin (ltb rfl) rfl rfl rfl) ?_
        refine TriL.c1 rfl (op_as (ltb rfl) rfl) ?_
        refine TriL.nil ?_
        refine Tri.ret ?_
        exact ⟨.inr rfl, (ResOK.r1 rfl (.tmp rfl .nil)).cast (res_i64 (leaf2 (n := n) (m := n / 65536 / 256) (off := 24) (by first | rfl | decide) hm (leaf7 (by omega) (by omega)) (by decide))), rfl⟩
      · refine Tri.skip ?_
        refine Tri.seq ?_
        refine Tri.region ?_
        refine TriL.c1 rfl (op_mv (ltb rfl) rfl) ?_
        refine TriL.c1 rfl (op_mv (ltb rfl) rfl) ?_
        refine TriL.c1 rfl (op_cvi (ltb rfl) un40_E10 un5_E10 rfl) ?_
        have q0 : ¬ (((4294967296 : Nat) : Int) ≤ ((n : Nat) : Int)) := of_decide_eq_false hc1
        have q1 : (((65536 : Nat) : Int) ≤ ((n : Nat) : Int)) := of_decide_eq_true hc5
        have q2 : ¬ (((256 : Nat) : Int) ≤ ((n / 65536 : Nat) : Int)) := of_decide_eq_false hc6
        have hm : n / 65536 < 256 := by omega
        refine TriL.c1 rfl (op_ixs (ltb rfl) un9_E10 rfl rfl (leaf0 (m := n / 65536) hm) (leaf1 (m := n / 65536) hm)) ?_
        refine TriL.c1 rfl (op_cvi (ltb rfl) un5_E10 un3_E10 rfl) ?_
        refine TriL.c1 rfl (op_bin (ltb rfl) rfl rfl rfl) ?_
        refine TriL.c1 rfl (op_as (ltb rfl) rfl) ?_
        refine TriL.nil ?_
        refine Tri.ret ?_
        exact ⟨.inr rfl, (ResOK.r1 rfl (.tmp rfl .nil)).cast (res_i64 (leaf2 (n := n) (m := n / 65536) (off := 16) (by first | rfl | decide) hm (leaf6 (by omega)) (by decide))), rfl⟩
    · refine Tri.skip ?_
      refine Tri.seq ?_
      refine Tri.seq ?_
      refine Tri.region ?_
      refine TriL.c1 rfl (op_mv (ltb rfl) rfl) ?_
      refine TriL.c1 rfl (op_bin (ltb rfl) rfl rfl rfl) ?_
      refine TriL.nil ?_
      refine Tri.cond rfl (fun hc7 => ?_) (fun hc7 => ?_)
      · refine Tri.seq ?_
        refine Tri.region ?_
        refine TriL.c1 rfl (op_mv (ltb rfl) rfl) ?_
        refine TriL.c1 rfl (op_shr (ltb rfl) rfl rfl (by decide)) ?_
        refine TriL.c1 rfl (op_as (ltb rfl) rfl) ?_
        refine TriL.nil ?_
        refine Tri.region ?_
        refine TriL.c1 rfl (op_mv (ltb rfl) rfl) ?_
        refine TriL.c1 rfl (op_bin (ltb rfl) rfl rfl rfl) ?_
        refine TriL.c1 rfl (op_as (ltb rfl) rfl) ?_
        refine TriL.nil ?_
        refine Tri.seq ?_
        refine Tri.region ?_
        refine TriL.c1 rfl (op_mv (ltb rfl) rfl) ?_
        refine TriL.c1 rfl (op_mv (ltb rfl) rfl) ?_
        refine TriL.c1 rfl (op_cvi (ltb rfl) un40_E10 un5_E10 rfl) ?_
        have q0 : ¬ (((4294967296 : Nat) : Int) ≤ ((n : Nat) : Int)) := of_decide_eq_false hc1
        have q1 : ¬ (((65536 : Nat) : Int) ≤ ((n : Nat) : Int)) := of_decide_eq_false hc5
        have q2 : (((256 : Nat) : Int) ≤ ((n : Nat) : Int)) := of_decide_eq_true hc7
        have hm : n / 256 < 256 := by omega
        refine TriL.c1 rfl (op_ixs (ltb rfl) un9_E10 rfl rfl (leaf0 (m := n / 256) hm) (leaf1 (m := n / 256) hm)) ?_
        refine TriL.c1 rfl (op_cvi (ltb rfl) un5_E10 un3_E10 rfl) ?_
        refine TriL.c1 rfl (op_bin (ltb rfl) rfl rfl rfl) ?_
        refine TriL.c1 rfl (op_as (ltb rfl) rfl) ?_
        refine TriL.nil ?_
        refine Tri.ret ?_
        exact ⟨.inr rfl, (ResOK.r1 rfl (.tmp rfl .nil)).cast (res_i64 (leaf2 (n := n) (m := n / 256) (off := 8) (by first | rfl | decide) hm (leaf8 (by omega)) (by decide))), rfl⟩
      · refine Tri.skip ?_
        refine Tri.seq ?_
        refine Tri.region ?_
        refine TriL.c1 rfl (op_mv (ltb rfl) rfl) ?_
        refine TriL.c1 rfl (op_mv (ltb rfl) rfl) ?_
        refine TriL.c1 rfl (op_cvi (ltb rfl) un40_E10 un5_E10 rfl) ?_
        have q0 : ¬ (((4294967296 : Nat) : Int) ≤ ((n : Nat) : Int)) := of_decide_eq_false hc1
        have q1 : ¬ (((65536 : Nat) : Int) ≤ ((n : Nat) : Int)) := of_decide_eq_false hc5
        have q2 : ¬ (((256 : Nat) : Int) ≤ ((n : Nat) : Int)) := of_decide_eq_false hc7
        have hm : n < 256 := by omega
        refine TriL.c1 rfl (op_ixs (ltb rfl) un9_E10 rfl rfl (leaf0 (m := n) hm) (leaf1 (m := n) hm)) ?_
        refine TriL.c1 rfl (op_cvi (ltb rfl) un5_E10 un3_E10 rfl) ?_
        refine TriL.c1 rfl (op_bin (ltb rfl) rfl rfl rfl) ?_
        refine TriL.c1 rfl (op_as (ltb rfl) rfl) ?_
        refine TriL.nil ?_
        refine Tri.ret ?_
        exact ⟨.inr rfl, (ResOK.r1 rfl (.tmp rfl .nil)).cast (res_i64 (leaf2 (n := n) (m := n) (off := 0) (by first | rfl | decide) hm (rfl) (by decide))), rfl⟩
end Go.Proofs.YtnpgcmeclkncnaaDoor.X
/- varint: Size, Put. -/
set_option linter.unusedVariables false
set_option maxRecDepth 100000
set_option linter.unusedSimpArgs false
namespace Go.Proofs.YtnpgcmeclkncnaaDoor.X
open Go Go.RowKit Go.Proofs
theorem fn48_E11 : isFn Tryd.prog 48 = true := by kernel_rfl
theorem fn62_E11 : isFn Tryd.prog 62 = true := by kernel_rfl
theorem se36_E11 : se Tryd.prog 36 = some (5, 1, 1) := by kernel_rfl
theorem un40_E11 : Tryd.prog.underlying 40 = some (TypeDesc.int IntKind.u64) := Tryd.underlying40
theorem un5_E11 : Tryd.prog.underlying 5 = some (TypeDesc.int IntKind.u8) := Tryd.underlying5
theorem zAe36_E11 : zeroA Tryd.prog 5 = some [AV.int IntKind.u8 (0)] := by kernel_rfl
/-- a number's bytes: seven bits each, the last one below 128 -/
def vput (n : Nat) : List UInt8 := if h : n < 128 then [UInt8.ofNat n] else UInt8.ofNat (n % 128 + 128) :: vput (n / 128)
termination_by n
decreasing_by omega
theorem vput_lo {n : Nat} (h : n < 128) : vput n = [UInt8.ofNat n] := by rw [vput, dif_pos h]
theorem vput_hi {n : Nat} (h : ¬ n < 128) : vput n = UInt8.ofNat (n % 128 + 128) :: vput (n / 128) := by rw [vput, dif_neg h]
theorem blen_or (n : Nat) : blen (n ||| 1) = blen (n / 2) + 1 := by
  have h1 : (n ||| 1) / 2 = n / 2 := by have := Nat.shiftRight_or_distrib (i := 1) (a := n) (b := 1); rw [Nat.shiftRight_eq_div_pow, Nat.shiftRight_eq_div_pow, Nat.shiftRight_eq_div_pow] at this; simpa using this
  have h2 : 1 ≤ n ||| 1 := by have := Nat.right_le_or (n := n) (m := 1); omega
  rw [blen_half h2, h1]
theorem vput_len (n : Nat) : (vput n).length = (blen (n ||| 1) + 6) / 7 := by
  induction n using Nat.strongRecOn with
  | _ n ih =>
    rw [blen_or]
    by_cases h : n < 128
    · rw [vput_lo h]
      have : blen (n / 2) ≤ 6 := by
        have : ∀ k : Fin 64, blen k.val ≤ 6 := by decide +kernel
        exact this ⟨n / 2, by omega⟩
      simp only [List.length_cons, List.length_nil]; omega
    · rw [vput_hi h, List.length_cons, ih (n / 128) (by omega), blen_or, ← blen_half (n := n) (by omega), blen_shift 7 n (by omega), ← blen_half (n := n / 128) (by omega), show (2 ^ 7 : Nat) = 128 from rfl]
      omega
theorem vput_pos (n : Nat) : 1 ≤ (vput n).length := by
  by_cases h : n < 128
  · rw [vput_lo h]; simp
  · rw [vput_hi h]; simp
theorem vput_one {n : Nat} (h : (vput n).length ≤ 1) : n < 128 := by
  by_cases h2 : n < 128
  · exact h2
  · rw [vput_hi h2, List.length_cons] at h; have := vput_pos (n / 128); omega
theorem blen_le : ∀ (k n : Nat), n < 2 ^ k → blen n ≤ k
  | 0, n, h => by have : n = 0 := by omega
                  subst this; simp [blen]
  | k + 1, n, h => by
    by_cases h0 : n = 0
    · subst h0; simp [blen]
    · rw [blen_half (by omega)]
      have := blen_le k (n / 2) (by rw [Nat.pow_succ] at h; omega)
      omega
theorem or1_lt {n : Nat} (h : n < 18446744073709551616) : n ||| 1 < 18446744073709551616 := Nat.or_lt_two_pow (n := 64) h (by decide)
theorem vput_max {n : Nat} (h : n < 18446744073709551616) : (vput n).length ≤ 10 := by
  rw [vput_len]
  have := blen_le 64 (n ||| 1) (or1_lt h)
  omega
theorem or_u64 {n m : Nat} (h : n < 18446744073709551616) (k : m < 18446744073709551616) : ibits .or .u64 (n : Int) (m : Int) = ((n ||| m : Nat) : Int) := by
  have e1 : (BitVec.ofInt 64 ((n : Nat) : Int)).toNat = n := by rw [BitVec.toNat_ofInt]; omega
  have e2 : (BitVec.ofInt 64 ((m : Nat) : Int)).toNat = m := by rw [BitVec.toNat_ofInt]; omega
  show IntKind.u64.wrap (((BitVec.ofInt 64 ((n : Nat) : Int)) ||| (BitVec.ofInt 64 ((m : Nat) : Int))).toNat : Int) = _
  rw [BitVec.toNat_or, e1, e2]
  have : n ||| m < 18446744073709551616 := Nat.or_lt_two_pow (n := 64) h k
  rw [wru64] <;> omega
theorem size_eq {n : Nat} (h : n < 18446744073709551616) : IntKind.i64.wrap ((IntKind.i64.wrap (IntKind.i64.wrap ((blen (n ||| 1) : Nat) + 7) - 1)).tdiv 7) = ((vput n).length : Int) := by
  have h1 := blen_le 64 (n ||| 1) (or1_lt h)
  rw [vput_len, wr64 (n := ((blen (n ||| 1) : Nat) : Int) + 7) (by omega) (by omega), wr64 (n := ((blen (n ||| 1) : Nat) : Int) + 7 - 1) (by omega) (by omega), Int.tdiv_eq_ediv_of_nonneg (by omega), wr64 (by omega) (by omega)]
  omega
theorem byte_or : ∀ m : Nat, ibits .or .u8 (IntKind.u8.wrap (m : Int)) 128 = (((UInt8.ofNat (m % 128 + 128)).toNat : Nat) : Int) := by
  intro m
  have h : ∀ k : Fin 256, ibits .or .u8 ((k.val : Nat) : Int) 128 = (((UInt8.ofNat (k.val % 128 + 128)).toNat : Nat) : Int) := by decide +kernel
  have e : IntKind.u8.wrap (m : Int) = ((m % 256 : Nat) : Int) := by simp only [IntKind.wrap, IntKind.bits, IntKind.signed]; simp
  rw [e]
  have := h ⟨m % 256, by omega⟩
  simp only at this
  rw [this, show m % 256 % 128 = m % 128 by omega]
theorem byte_of (m : Nat) : IntKind.u8.wrap (m : Int) = (((UInt8.ofNat m).toNat : Nat) : Int) := by
  have e : IntKind.u8.wrap (m : Int) = ((m % 256 : Nat) : Int) := by simp only [IntKind.wrap, IntKind.bits, IntKind.signed]; simp
  rw [e]; simp [UInt8.toNat_ofNat']
theorem len64_pure' {m : Int} {n : Nat} (e : m = n) (h : n < 18446744073709551616) : Pure Tryd.prog 62 [.int .u64 m] (.int .i64 (blen n)) := e ▸ len64_pure n h
theorem size_pure (n : Nat) (h : n < 18446744073709551616) : Pure Tryd.prog 48 [.int .u64 (n : Int)] (.int .i64 ((vput n).length : Nat)) := by
  refine Pure.of_tri Tryd.func48 rfl rfl (ltb rfl) fun H => ?_
  refine Tri.seq ?_
  refine Tri.region ?_
  refine TriL.c1 rfl (op_as (ltb rfl) rfl) ?_
  refine TriL.nil ?_
  refine Tri.seq ?_
  refine Tri.region ?_
  refine TriL.c1 rfl (op_mv (ltb rfl) rfl) ?_
  refine TriL.c1 rfl (op_bin (ltb rfl) rfl rfl rfl) ?_
  refine TriL.c1 rfl (op_call (ltb rfl) fn62_E11 rfl (len64_pure' (or_u64 (m := 1) h (by decide)) (or1_lt h))) ?_
  refine TriL.c1 rfl (op_bin (ltb rfl) rfl rfl rfl) ?_
  refine TriL.c1 rfl (op_bin (ltb rfl) rfl rfl rfl) ?_
  refine TriL.c1 rfl (op_bin (ltb rfl) rfl rfl rfl) ?_
  refine TriL.c1 rfl (op_as (ltb rfl) rfl) ?_
  refine TriL.nil ?_
  refine Tri.ret ?_
  exact ⟨.inr rfl, (ResOK.r1 rfl (.tmp rfl .nil)).cast (congrArg (AV.int .i64) (size_eq h)), rfl⟩
def StVP (H : Hp) (m : Int) (xs : List AV) (k j : Int) : St := [(.h, .hp H), (.s 0, .sv (.v (.int .u64 m))), (.s 3, .sv (.ow 4 xs)), (.s 7, .sv (.v (.int .i64 k))), (.s 8, .sv (.v (.int .i64 j))), (.t 4, .tk false 5 1 xs)]
theorem okEls_one (k : IntKind) (n : Int) : okEls 1 [.int k n] = true := rfl
theorem vput_pureO (n : Nat) (h : n < 18446744073709551616) : PureO Tryd.prog 29 [.int .u64 (n : Int)] 5 1 (bsl (vput n)) := by
  refine PureO.of_tri Tryd.func29 rfl rfl (ltb rfl) rfl fun H => ?_
  refine Tri.seq ?_
  refine Tri.region ?_
  refine TriL.c1 rfl (op_as (ltb rfl) rfl) ?_
  refine TriL.nil ?_
  refine Tri.seq ?_
  refine Tri.region ?_
  refine TriL.c2 rfl (op_mk0 (ltb rfl) se36_E11 rfl rfl (by omega) (by decide) (by decide) rfl) ?_
  refine TriL.c1 rfl (op_as (ltb rfl) rfl) ?_
  refine TriL.nil ?_
  refine Tri.seq ?_
  refine Tri.seq ?_
  refine Tri.region ?_
  refine TriL.c1 rfl (op_mv (ltb rfl) rfl) ?_
  refine TriL.c1 rfl (op_call (ltb rfl) fn48_E11 rfl (size_pure n h)) ?_
  refine TriL.c1 rfl (op_bin (ltb rfl) rfl rfl rfl) ?_
  refine TriL.c1 rfl (op_mv (ltb rfl) rfl) ?_
  refine TriL.kept (Kept.keep [.h, .s 0, .s 3, .s 7, .s 8, .t 4] rfl (by decide) (Kept.now ?_))
  refine Tri.blk ?_
  -- LOOP 1: KEEP
  have hz : IntKind.i64.wrap (((vput n).length : Nat) - 1) = (((vput n).length - 1 : Nat) : Int) := by
    have := vput_pos n; have := vput_max h
    rw [wr64] <;> omega
  refine Tri.loop (fun q s => ∃ (m : Nat) (o : List UInt8) (j : Int) (i : Nat), s = StVP H m (bsl o) (IntKind.i64.wrap (((vput n).length : Nat) - 1)) j ∧ j = i ∧ vput n = o ++ vput m ∧ i = o.length ∧ m < 18446744073709551616 ∧ q = (vput m).length) ?_ (n := (vput n).length) ⟨n, [], 0, 0, rfl, rfl, rfl, rfl, h, rfl⟩
  rintro q s ⟨m, o, j, i, rfl, hj, hv, hi, hm, rfl⟩
  have hlen : (vput n).length = o.length + (vput m).length := by rw [hv, List.length_append]
  have hmx := vput_max h
  refine Tri.seq ?_
  refine Tri.region ?_
  refine TriL.c1 rfl (op_bin (ltb rfl) rfl rfl rfl) ?_
  refine TriL.nil ?_
  refine Tri.seq ?_
  refine Tri.cond rfl (fun hc1 => ?_) (fun hc1 => ?_)
  · have hlt : 128 ≤ m := by
      have := of_decide_eq_true hc1
      rw [hz, hj] at this
      have h1 := vput_pos m
      by_cases h2 : m < 128
      · rw [vput_lo h2] at hlen; simp only [List.length_cons, List.length_nil] at hlen; omega
      · omega
    refine Tri.skip ?_
    refine Tri.seq ?_
    refine Tri.blk ?_
    refine Tri.seq ?_
    refine Tri.region ?_
    refine TriL.c1 rfl (op_mv (ltb rfl) rfl) ?_
    refine TriL.c1 rfl (op_mv (ltb rfl) rfl) ?_
    refine TriL.c1 rfl (op_cvi (ltb rfl) un40_E11 un5_E11 rfl) ?_
    refine TriL.c1 rfl (op_bin (ltb rfl) rfl rfl rfl) ?_
    refine TriL.c1 rfl (op_lit («as» := [_]) (ltb rfl) se36_E11 zAe36_E11 rfl rfl rfl (leb rfl)) ?_
    refine TriL.c3 rfl (op_app (ltb rfl) se36_E11 rfl rfl rfl (okEls_one _ _) rfl (by have := bsl_len o; simp only [List.length_cons, List.length_nil]; omega) (by have := bsl_len o; simp only [List.length_cons, List.length_nil]; omega)) ?_
    refine TriL.c1 rfl (op_as (ltb rfl) rfl) ?_
    refine TriL.nil ?_
    refine Tri.region ?_
    refine TriL.c1 rfl (op_mv (ltb rfl) rfl) ?_
    refine TriL.c1 rfl (op_shr (ltb rfl) rfl rfl (by decide)) ?_
    refine TriL.c1 rfl (op_as (ltb rfl) rfl) ?_
    refine TriL.nil ?_
    refine Tri.region ?_
    refine TriL.c1 rfl (op_bin (ltb rfl) rfl rfl rfl) ?_
    refine TriL.c1 rfl (op_mv (ltb rfl) rfl) ?_
    refine TriL.kept (Kept.keep [.h, .s 0, .s 3, .s 7, .s 8, .t 15] rfl (by decide) (Kept.ren 15 4 (by decide) rfl (Kept.now ?_)))
    have hb : bsl o ++ [.int .u8 (ibits .or .u8 (IntKind.u8.wrap (m : Int)) 128)] = bsl (o ++ [UInt8.ofNat (m % 128 + 128)]) := by rw [byte_or, bsl_app]; rfl
    refine ⟨(vput (m / 128)).length, by rw [vput_hi (n := m) (by omega), List.length_cons]; omega, m / 128, o ++ [UInt8.ofNat (m % 128 + 128)], _, i + 1, by rw [← hb]; rfl, ?_, ?_, by simp [hi], by omega, rfl⟩
    · rw [hj, wr64] <;> omega
    · rw [hv, vput_hi (n := m) (by omega)]; simp
  · have hlt : m < 128 := by
      have := of_decide_eq_false hc1
      rw [hz, hj] at this
      exact vput_one (by omega)
    refine Tri.exit ?_
    refine Tri.seq ?_
    refine Tri.region ?_
    refine TriL.c1 rfl (op_mv (ltb rfl) rfl) ?_
    refine TriL.c1 rfl (op_mv (ltb rfl) rfl) ?_
    refine TriL.c1 rfl (op_cvi (ltb rfl) un40_E11 un5_E11 rfl) ?_
    refine TriL.c1 rfl (op_lit («as» := [_]) (ltb rfl) se36_E11 zAe36_E11 rfl rfl rfl (leb rfl)) ?_
    refine TriL.c3 rfl (op_app (ltb rfl) se36_E11 rfl rfl rfl (okEls_one _ _) rfl (by have := bsl_len o; simp only [List.length_cons, List.length_nil]; omega) (by have := bsl_len o; simp only [List.length_cons, List.length_nil]; omega)) ?_
    refine TriL.c1 rfl (op_as (ltb rfl) rfl) ?_
    refine TriL.nil ?_
    refine Tri.ret ?_
    have hb : bsl o ++ [.int .u8 (IntKind.u8.wrap (m : Int))] = bsl (vput n) := by rw [hv, vput_lo hlt, bsl_app, byte_of]; rfl
    rw [← hb]
    exact ⟨.inr rfl, ⟨23, rfl, rfl⟩, rfl⟩
end Go.Proofs.YtnpgcmeclkncnaaDoor.X
