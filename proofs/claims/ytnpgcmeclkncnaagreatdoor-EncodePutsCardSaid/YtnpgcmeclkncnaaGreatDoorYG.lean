/- the document: a schema checked; values: how great, the same, how deep. -/
import Derived.Test.YtnpgcmeclkncnaaGreatDoorYF
import Derived.Test.YtnpgcmeclkncnaaGreatDoorYD
set_option linter.unusedVariables false
set_option linter.unusedSimpArgs false
set_option linter.unusedSectionVars false
set_option maxRecDepth 100000
namespace Go.Proofs.YtnpgcmeclkncnaaGreatDoor.X
open Go Go.RowKit Go.Proofs
theorem fn36_M5 : isFn Tryz.prog 36 = true := by kernel_rfl
theorem fn37_M5 : isFn Tryz.prog 37 = true := by kernel_rfl
theorem fn38_M5 : isFn Tryz.prog 38 = true := by kernel_rfl
theorem fn39_M5 : isFn Tryz.prog 39 = true := by kernel_rfl
theorem fn40_M5 : isFn Tryz.prog 40 = true := by kernel_rfl
theorem fn41_M5 : isFn Tryz.prog 41 = true := by kernel_rfl
theorem fn42_M5 : isFn Tryz.prog 42 = true := by kernel_rfl
theorem fn43_M5 : isFn Tryz.prog 43 = true := by kernel_rfl
theorem fn44_M5 : isFn Tryz.prog 44 = true := by kernel_rfl
theorem fo131_3_M5 : fo Tryz.prog 131 3 = some 3 := by kernel_rfl
theorem fo32_0_M5 : fo Tryz.prog 32 0 = some 0 := by kernel_rfl
theorem fo32_1_M5 : fo Tryz.prog 32 1 = some 1 := by kernel_rfl
theorem fo83_1_M5 : fo Tryz.prog 83 1 = some 1 := by kernel_rfl
theorem fo86_1_M5 : fo Tryz.prog 86 1 = some 1 := by kernel_rfl
theorem fo86_2_M5 : fo Tryz.prog 86 2 = some 2 := by kernel_rfl
theorem ie29_M5 : ie Tryz.prog 29 = some 2 := by kernel_rfl
theorem ie30_M5 : ie Tryz.prog 30 = some 4 := by kernel_rfl
theorem ie63_M5 : ie Tryz.prog 63 = some 2 := by kernel_rfl
theorem ie81_M5 : ie Tryz.prog 81 = some 3 := by kernel_rfl
theorem lk25_M5 : lk Tryz.prog 25 = some (true, 2) := by kernel_rfl
theorem lk29_M5 : lk Tryz.prog 29 = some (false, 1) := by kernel_rfl
theorem lk30_M5 : lk Tryz.prog 30 = some (false, 1) := by kernel_rfl
theorem lk32_M5 : lk Tryz.prog 32 = some (true, 2) := by kernel_rfl
theorem lk63_M5 : lk Tryz.prog 63 = some (false, 1) := by kernel_rfl
theorem lk81_M5 : lk Tryz.prog 81 = some (false, 1) := by kernel_rfl
theorem lk9_M5 : lk Tryz.prog 9 = some (false, 1) := by kernel_rfl
theorem un29_M5 : Tryz.prog.underlying 29 = some (TypeDesc.slice 83) := Tryz.underlying29
theorem un30_M5 : Tryz.prog.underlying 30 = some (TypeDesc.slice 131) := Tryz.underlying30
theorem un63_M5 : Tryz.prog.underlying 63 = some (TypeDesc.slice 32) := Tryz.underlying63
theorem un81_M5 : Tryz.prog.underlying 81 = some (TypeDesc.slice 86) := Tryz.underlying81
theorem un9_M5 : Tryz.prog.underlying 9 = some TypeDesc.string := Tryz.underlying9
theorem r_chk (s : Sch) (hs : s.big) : Pure Tryz.prog 21 [s.av] (.int .i64 s.chk) := by
  refine Pure.of_tri Tryz.func21 rfl rfl (ltb rfl) fun H => ?_
  refine Tri.seq ?_
  refine Tri.region ?_
  refine TriL.c2 rfl (op_box (ltb rfl) rfl rfl rfl) ?_
  refine TriL.c1 rfl (op_as (ltb rfl) rfl) ?_
  refine TriL.nil ?_
  refine Tri.seq ?_
  refine Tri.seq ?_
  refine Tri.region ?_
  refine TriL.c1 rfl (op_ldl (ltb rfl) lk25_M5 rfl rfl rfl) ?_
  refine TriL.c1 rfl (op_call (ltb rfl) fn36_M5 rfl (r_many _ hs)) ?_
  refine TriL.nil ?_
  refine Tri.cond rfl (fun hc1 => ?_) (fun hc1 => ?_)
  · refine Tri.seq ?_
    refine Tri.region ?_
    refine TriL.c1 rfl (op_as (ltb rfl) rfl) ?_
    refine TriL.nil ?_
    refine Tri.ret ?_
    exact ⟨.inr rfl, (ResOK.r1 rfl (.tmp rfl .nil)).cast (congrArg (AV.int .i64) (by grind [Sch.chk])), rfl⟩
  · have hs2 := Sch.sm_of hc1
    refine Tri.skip ?_
    refine Tri.seq ?_
    refine Tri.seq ?_
    refine Tri.region ?_
    refine TriL.c1 rfl (op_ldl (ltb rfl) lk25_M5 rfl rfl rfl) ?_
    refine TriL.c1 rfl (op_call (ltb rfl) fn37_M5 rfl (r_none _ hs2)) ?_
    refine TriL.nil ?_
    refine Tri.cond rfl (fun hc2 => ?_) (fun hc2 => ?_)
    · refine Tri.seq ?_
      refine Tri.region ?_
      refine TriL.c1 rfl (op_as (ltb rfl) rfl) ?_
      refine TriL.nil ?_
      refine Tri.ret ?_
      exact ⟨.inr rfl, (ResOK.r1 rfl (.tmp rfl .nil)).cast (congrArg (AV.int .i64) (by grind [Sch.chk])), rfl⟩
    · have hn2 := (Sch.none_of hc2).2
      refine Tri.skip ?_
      refine Tri.seq ?_
      refine Tri.seq ?_
      refine Tri.region ?_
      refine TriL.c1 rfl (op_ldl (ltb rfl) lk25_M5 rfl rfl rfl) ?_
      refine TriL.c1 rfl (op_call (ltb rfl) fn38_M5 rfl (r_text _ hs2)) ?_
      refine TriL.nil ?_
      refine Tri.cond rfl (fun hc3 => ?_) (fun hc3 => ?_)
      · refine Tri.seq ?_
        refine Tri.region ?_
        refine TriL.c1 rfl (op_as (ltb rfl) rfl) ?_
        refine TriL.nil ?_
        refine Tri.ret ?_
        exact ⟨.inr rfl, (ResOK.r1 rfl (.tmp rfl .nil)).cast (congrArg (AV.int .i64) (by grind [Sch.chk])), rfl⟩
      · refine Tri.skip ?_
        refine Tri.seq ?_
        refine Tri.seq ?_
        refine Tri.region ?_
        refine TriL.c1 rfl (op_ldl (ltb rfl) lk25_M5 rfl rfl rfl) ?_
        refine TriL.c1 rfl (op_call (ltb rfl) fn39_M5 rfl (r_fields _ hs2)) ?_
        refine TriL.c1 rfl (op_as (ltb rfl) rfl) ?_
        refine TriL.nil ?_
        refine Tri.seq ?_
        refine Tri.region ?_
        refine TriL.c1 rfl (op_mv (ltb rfl) rfl) ?_
        refine TriL.c1 rfl (op_bin (ltb rfl) rfl rfl rfl) ?_
        refine TriL.nil ?_
        refine Tri.cond rfl (fun hc4 => ?_) (fun hc4 => ?_)
        · refine Tri.seq ?_
          refine Tri.region ?_
          refine TriL.c1 rfl (op_mv (ltb rfl) rfl) ?_
          refine TriL.c1 rfl (op_as (ltb rfl) rfl) ?_
          refine TriL.nil ?_
          refine Tri.ret ?_
          exact ⟨.inr rfl, (ResOK.r1 rfl (.tmp rfl .nil)).cast (congrArg (AV.int .i64) (by grind [Sch.chk])), rfl⟩
        · refine Tri.skip ?_
          refine Tri.seq ?_
          refine Tri.seq ?_
          refine Tri.region ?_
          refine TriL.c1 rfl (op_ldl (ltb rfl) lk25_M5 rfl rfl rfl) ?_
          refine TriL.c1 rfl (op_call (ltb rfl) fn40_M5 rfl (r_twice _ hs2)) ?_
          refine TriL.nil ?_
          refine Tri.cond rfl (fun hc5 => ?_) (fun hc5 => ?_)
          · refine Tri.seq ?_
            refine Tri.region ?_
            refine TriL.c1 rfl (op_as (ltb rfl) rfl) ?_
            refine TriL.nil ?_
            refine Tri.ret ?_
            exact ⟨.inr rfl, (ResOK.r1 rfl (.tmp rfl .nil)).cast (congrArg (AV.int .i64) (by grind [Sch.chk])), rfl⟩
          · refine Tri.skip ?_
            refine Tri.seq ?_
            refine Tri.seq ?_
            refine Tri.region ?_
            refine TriL.c1 rfl (op_ldl (ltb rfl) lk25_M5 rfl rfl rfl) ?_
            refine TriL.c1 rfl (op_call (ltb rfl) fn41_M5 rfl (r_order _ hs2 hn2)) ?_
            refine TriL.nil ?_
            refine Tri.cond rfl (fun hc6 => ?_) (fun hc6 => ?_)
            · refine Tri.seq ?_
              refine Tri.region ?_
              refine TriL.c1 rfl (op_as (ltb rfl) rfl) ?_
              refine TriL.nil ?_
              refine Tri.ret ?_
              exact ⟨.inr rfl, (ResOK.r1 rfl (.tmp rfl .nil)).cast (congrArg (AV.int .i64) (by grind [Sch.chk])), rfl⟩
            · refine Tri.skip ?_
              refine Tri.seq ?_
              refine Tri.seq ?_
              refine Tri.region ?_
              refine TriL.c1 rfl (op_ldl (ltb rfl) lk25_M5 rfl rfl rfl) ?_
              refine TriL.c1 rfl (op_call (ltb rfl) fn42_M5 rfl (r_barred _ hs2)) ?_
              refine TriL.nil ?_
              refine Tri.cond rfl (fun hc7 => ?_) (fun hc7 => ?_)
              · refine Tri.seq ?_
                refine Tri.region ?_
                refine TriL.c1 rfl (op_as (ltb rfl) rfl) ?_
                refine TriL.nil ?_
                refine Tri.ret ?_
                exact ⟨.inr rfl, (ResOK.r1 rfl (.tmp rfl .nil)).cast (congrArg (AV.int .i64) (by grind [Sch.chk])), rfl⟩
              · refine Tri.skip ?_
                refine Tri.seq ?_
                refine Tri.seq ?_
                refine Tri.region ?_
                refine TriL.c1 rfl (op_ldl (ltb rfl) lk25_M5 rfl rfl rfl) ?_
                refine TriL.c1 rfl (op_call (ltb rfl) fn43_M5 rfl (r_refs _ hs2)) ?_
                refine TriL.nil ?_
                refine Tri.cond rfl (fun hc8 => ?_) (fun hc8 => ?_)
                · refine Tri.seq ?_
                  refine Tri.region ?_
                  refine TriL.c1 rfl (op_as (ltb rfl) rfl) ?_
                  refine TriL.nil ?_
                  refine Tri.ret ?_
                  exact ⟨.inr rfl, (ResOK.r1 rfl (.tmp rfl .nil)).cast (congrArg (AV.int .i64) (by grind [Sch.chk])), rfl⟩
                · refine Tri.skip ?_
                  refine Tri.seq ?_
                  refine Tri.region ?_
                  refine TriL.c1 rfl (op_as (ltb rfl) rfl) ?_
                  refine TriL.nil ?_
                  refine Tri.ret ?_
                  exact ⟨.inr rfl, (ResOK.r1 rfl (.tmp rfl .nil)).cast (congrArg (AV.int .i64) (by grind [Sch.chk])), rfl⟩
theorem r_left1 (t : Tree) (hb : t.big) (ih : ∀ x ∈ t.slots, ∀ v ∈ x.vals, ∀ u ∈ v.m, ∀ n d : Int, Pure Tryz.prog 44 [.agg u.cells, .int .i64 n, .int .i64 d] (.int .i64 (u.left n d))) (n d : Int) : Pure Tryz.prog 44 [.agg t.cells, .int .i64 n, .int .i64 d] (.int .i64 (t.left n d)) := by
  have hb1 := hb.here.s
  have hb2 := hb.here.r
  refine Pure.of_tri Tryz.func44 rfl rfl (ltb rfl) fun H => ?_
  refine Tri.seq ?_
  refine Tri.region ?_
  refine TriL.c2 rfl (op_box (ltb rfl) rfl rfl rfl) ?_
  refine TriL.c1 rfl (op_as (ltb rfl) rfl) ?_
  refine TriL.nil ?_
  refine Tri.seq ?_
  refine Tri.region ?_
  refine TriL.c1 rfl (op_mv (ltb rfl) rfl) ?_
  refine TriL.c1 rfl (op_fal (ltb rfl) fo32_1_M5 rfl) ?_
  refine TriL.c1 rfl (op_ldl (ltb rfl) lk30_M5 rfl rfl rfl) ?_
  refine TriL.c1 rfl (op_lenl (ltb rfl) un30_M5 rfl) ?_
  refine TriL.c1 rfl (op_bin (ltb rfl) rfl rfl rfl) ?_
  refine TriL.c1 rfl (op_fal (ltb rfl) fo32_0_M5 rfl) ?_
  refine TriL.c1 rfl (op_ldl (ltb rfl) lk29_M5 rfl rfl rfl) ?_
  refine TriL.c1 rfl (op_lenl (ltb rfl) un29_M5 rfl) ?_
  refine TriL.c1 rfl (op_bin (ltb rfl) rfl rfl rfl) ?_
  refine TriL.c1 rfl (op_as (ltb rfl) rfl) ?_
  refine TriL.nil ?_
  refine Tri.seq ?_
  refine Tri.seq ?_
  refine Tri.region ?_
  refine TriL.c1 rfl (op_mv (ltb rfl) rfl) ?_
  refine TriL.c1 rfl (op_bin (ltb rfl) rfl rfl rfl) ?_
  refine TriL.nil ?_
  refine Tri.cond rfl (fun hc1 => ?_) (fun hc1 => ?_)
  · refine Tri.seq ?_
    refine Tri.region ?_
    refine TriL.c1 rfl (op_as (ltb rfl) rfl) ?_
    refine TriL.nil ?_
    refine Tri.ret ?_
    exact ⟨.inr rfl, (ResOK.r1 rfl (.tmp rfl .nil)).cast (congrArg (AV.int .i64) (by grind [Tree.left_eq, leftS_neg, leftV_neg, leftT_neg, leftR_neg])), rfl⟩
  · refine Tri.skip ?_
    refine Tri.joinu [.h, .s 2, .s 3, .b 3] (fun (m : Int) => [(.s 1, .sv (.v (.int .i64 m)))]) (fun (m : Int) => m = leftR t.rest (w64 (w64 (n - (t.rest.length : Int)) - (t.slots.length : Int)))) rfl ?_ ?_
    · refine Tri.seq ?_
      refine Tri.region ?_
      refine TriL.c1 rfl (op_as (ltb rfl) rfl) ?_
      refine TriL.nil ?_
      refine Tri.blk ?_
      refine Tri.ofKept (Kept.keep [.s 7, .s 1, .h, .s 2, .s 3, .b 3] rfl (by decide) (Kept.now ?_))
      -- LOOP 1
      refine Tri.loopk (fun ((i, m) : Nat × Int) => [(.s 7, .sv (.v (.int .i64 (i : Int)))), (.s 1, .sv (.v (.int .i64 m)))]) _ (fun ((i, m) : Nat × Int) => leftR (t.rest.drop i) m = leftR t.rest (w64 (w64 (n - (t.rest.length : Int)) - (t.slots.length : Int)))) (fun ((i, m) : Nat × Int) => t.rest.length - i) (0, _) rfl (by simp) ?_
      rintro ⟨i, m⟩ hI
      refine Tri.seq ?_
      refine Tri.seq ?_
      refine Tri.region ?_
      refine TriL.c1 rfl (op_mv (ltb rfl) rfl) ?_
      refine TriL.c1 rfl (op_fal (ltb rfl) fo32_1_M5 rfl) ?_
      refine TriL.c1 rfl (op_ldl (ltb rfl) lk30_M5 rfl rfl rfl) ?_
      refine TriL.c1 rfl (op_lenl (ltb rfl) un30_M5 rfl) ?_
      refine TriL.c1 rfl (op_bin (ltb rfl) rfl rfl rfl) ?_
      refine TriL.c1 rfl (op_mv (ltb rfl) rfl) ?_
      refine TriL.split (d := 27) rfl (fun hg2 => ?_) (fun hg2 => ?_)
      · have hi := ltm hg2
        have hS := @leftR_step t.rest i m hi
        refine TriL.g1 rfl (ltb rfl) rfl hg2 (op_mv (ltb rfl) rfl) ?_
        refine TriL.g1 rfl (ltb rfl) rfl hg2 (op_bin (ltb rfl) rfl rfl rfl) ?_
        refine TriL.c1 rfl (op_pickt (ltb rfl) rfl hg2 rfl) ?_
        refine TriL.nil ?_
        refine Tri.cond rfl (fun hc3 => ?_) (fun hc3 => ?_)
        · refine Tri.skip ?_
          refine Tri.seq ?_
          refine Tri.blk ?_
          refine Tri.region ?_
          refine TriL.c1 rfl (op_mv (ltb rfl) rfl) ?_
          refine TriL.c1 rfl (op_fal (ltb rfl) fo32_1_M5 rfl) ?_
          refine TriL.c1 rfl (op_ldl (ltb rfl) lk30_M5 rfl rfl rfl) ?_
          refine TriL.c1 rfl (op_mv (ltb rfl) rfl) ?_
          refine TriL.c1 rfl (op_iak (ltb rfl) ie30_M5 rfl rfl (Int.natCast_nonneg _) (ixm hi) rfl) ?_
          refine TriL.c1 rfl (op_fak (ltb rfl) fo131_3_M5 rfl) ?_
          refine TriL.c1 rfl (op_ldk (ltb rfl) lk9_M5 rfl rfl) ?_
          refine TriL.c1 rfl (op_lens (ltb rfl) un9_M5 rfl) ?_
          refine TriL.c1 rfl (op_bin (ltb rfl) rfl rfl rfl) ?_
          refine TriL.c1 rfl (op_bin (ltb rfl) rfl rfl rfl) ?_
          refine TriL.c1 rfl (op_as (ltb rfl) rfl) ?_
          refine TriL.nil ?_
          refine Tri.region ?_
          refine TriL.c1 rfl (op_mv (ltb rfl) rfl) ?_
          refine TriL.c1 rfl (op_bin (ltb rfl) rfl rfl rfl) ?_
          refine TriL.c1 rfl (op_as (ltb rfl) rfl) ?_
          refine TriL.kept (Kept.seti 7 rfl (inc (by omega)) (Kept.keep [.s 7, .s 1, .h, .s 2, .s 3, .b 3] rfl (by decide) (Kept.now ?_)))
          exact ⟨(i + 1, _), (by dsimp only; omega), by grind, rfl⟩
        · refine Tri.ofKept (Kept.keep [.s 1, .h, .s 2, .s 3, .b 3] rfl (by decide) (Kept.now ?_))
          refine Tri.exit ?_
          exact ⟨_, by grind [leftR_neg], rfl⟩
      · have hi := gem hg2
        have hS := @leftR_end t.rest i m hi
        refine TriL.skipu rfl rfl (ltb rfl) (ltb rfl) rfl hg2 ?_
        refine TriL.skipu rfl rfl (ltb rfl) (ltb rfl) rfl hg2 ?_
        refine TriL.c1 rfl (op_pickf (ltb rfl) rfl hg2 rfl) ?_
        refine TriL.nil ?_
        refine Tri.condF rfl rfl ?_
        refine Tri.ofKept (Kept.keep [.s 1, .h, .s 2, .s 3, .b 3] rfl (by decide) (Kept.now ?_))
        refine Tri.exit ?_
        exact ⟨_, by grind [leftR_neg], rfl⟩
    · rintro m hF8
      refine Tri.seq ?_
      refine Tri.seq ?_
      refine Tri.region ?_
      refine TriL.c1 rfl (op_as (ltb rfl) rfl) ?_
      refine TriL.nil ?_
      refine Tri.blk ?_
      refine Tri.ofKept (Kept.keep [.s 8, .s 1, .h, .s 2, .s 3, .b 3] rfl (by decide) (Kept.now ?_))
      -- LOOP 2
      refine Tri.loopk (fun ((j, m) : Nat × Int) => [(.s 8, .sv (.v (.int .i64 (j : Int)))), (.s 1, .sv (.v (.int .i64 m)))]) _ (fun ((j, m) : Nat × Int) => leftS (t.slots.drop j) m d = t.left n d) (fun ((j, m) : Nat × Int) => t.slots.length - j) (0, _) rfl (by rw [Tree.left_eq, if_neg (by have := of_decide_eq_false hc1; omega)]; grind) ?_
      rintro ⟨j, m⟩ hI
      refine Tri.seq ?_
      refine Tri.seq ?_
      refine Tri.region ?_
      refine TriL.c1 rfl (op_mv (ltb rfl) rfl) ?_
      refine TriL.c1 rfl (op_fal (ltb rfl) fo32_0_M5 rfl) ?_
      refine TriL.c1 rfl (op_ldl (ltb rfl) lk29_M5 rfl rfl rfl) ?_
      refine TriL.c1 rfl (op_lenl (ltb rfl) un29_M5 rfl) ?_
      refine TriL.c1 rfl (op_bin (ltb rfl) rfl rfl rfl) ?_
      refine TriL.c1 rfl (op_mv (ltb rfl) rfl) ?_
      refine TriL.split (d := 48) rfl (fun hg4 => ?_) (fun hg4 => ?_)
      · have hj := ltm hg4
        have hS := @leftS_step t.slots j m d hj
        have hSl := Slot.left_eq (t.slots[j]'hj) m d
        have hv := hb.here.v _ (List.getElem_mem hj)
        refine TriL.g1 rfl (ltb rfl) rfl hg4 (op_mv (ltb rfl) rfl) ?_
        refine TriL.g1 rfl (ltb rfl) rfl hg4 (op_bin (ltb rfl) rfl rfl rfl) ?_
        refine TriL.c1 rfl (op_pickt (ltb rfl) rfl hg4 rfl) ?_
        refine TriL.nil ?_
        refine Tri.cond rfl (fun hc5 => ?_) (fun hc5 => ?_)
        · refine Tri.skip ?_
          refine Tri.seq ?_
          refine Tri.blk ?_
          refine Tri.seq ?_
          refine Tri.region ?_
          refine TriL.c1 rfl (op_mv (ltb rfl) rfl) ?_
          refine TriL.c1 rfl (op_fal (ltb rfl) fo32_0_M5 rfl) ?_
          refine TriL.c1 rfl (op_ldl (ltb rfl) lk29_M5 rfl rfl rfl) ?_
          refine TriL.c1 rfl (op_mv (ltb rfl) rfl) ?_
          refine TriL.c1 rfl (op_iak (ltb rfl) ie29_M5 rfl rfl (Int.natCast_nonneg _) (ixmE Slot.av_eq hj) rfl) ?_
          refine TriL.c1 rfl (op_fak (ltb rfl) fo83_1_M5 rfl) ?_
          refine TriL.c1 rfl (op_ldk (ltb rfl) lk81_M5 rfl rfl) ?_
          refine TriL.c1 rfl (op_lenl (ltb rfl) un81_M5 rfl) ?_
          refine TriL.c1 rfl (op_bin (ltb rfl) rfl rfl rfl) ?_
          refine TriL.c1 rfl (op_as (ltb rfl) rfl) ?_
          refine TriL.nil ?_
          refine Tri.seq ?_
          refine Tri.region ?_
          refine TriL.c1 rfl (op_as (ltb rfl) rfl) ?_
          refine TriL.nil ?_
          refine Tri.blk ?_
          refine Tri.ofKept (Kept.keep [.s 9, .s 1, .h, .s 2, .s 3, .b 3, .s 8] rfl (by decide) (Kept.now ?_))
          -- LOOP 3
          refine Tri.loopk (fun ((k, p) : Nat × Int) => [(.s 9, .sv (.v (.int .i64 (k : Int)))), (.s 1, .sv (.v (.int .i64 p)))]) _ (fun ((k, p) : Nat × Int) => leftV ((t.slots[j]'hj).vals.drop k) p d = (t.slots[j]'hj).left m d) (fun ((k, p) : Nat × Int) => (t.slots[j]'hj).vals.length - k) (0, _) rfl (by rw [hSl]; simp) ?_
          rintro ⟨k, p⟩ hI
          refine Tri.seq ?_
          refine Tri.seq ?_
          refine Tri.region ?_
          refine TriL.c1 rfl (op_mv (ltb rfl) rfl) ?_
          refine TriL.c1 rfl (op_fal (ltb rfl) fo32_0_M5 rfl) ?_
          refine TriL.c1 rfl (op_ldl (ltb rfl) lk29_M5 rfl rfl rfl) ?_
          refine TriL.c1 rfl (op_mv (ltb rfl) rfl) ?_
          refine TriL.c1 rfl (op_iak (ltb rfl) ie29_M5 rfl rfl (Int.natCast_nonneg _) (ixmE Slot.av_eq hj) rfl) ?_
          refine TriL.c1 rfl (op_fak (ltb rfl) fo83_1_M5 rfl) ?_
          refine TriL.c1 rfl (op_ldk (ltb rfl) lk81_M5 rfl rfl) ?_
          refine TriL.c1 rfl (op_lenl (ltb rfl) un81_M5 rfl) ?_
          refine TriL.c1 rfl (op_bin (ltb rfl) rfl rfl rfl) ?_
          refine TriL.c1 rfl (op_mv (ltb rfl) rfl) ?_
          refine TriL.split (d := 72) rfl (fun hg6 => ?_) (fun hg6 => ?_)
          · have hk := ltm hg6
            have hT := @leftV_step (t.slots[j]'hj).vals k p d hk
            have hVl := Val.left_eq ((t.slots[j]'hj).vals[k]'hk) p d
            have hm := hb.here.m _ (List.getElem_mem hj) _ (List.getElem_mem hk)
            refine TriL.g1 rfl (ltb rfl) rfl hg6 (op_mv (ltb rfl) rfl) ?_
            refine TriL.g1 rfl (ltb rfl) rfl hg6 (op_bin (ltb rfl) rfl rfl rfl) ?_
            refine TriL.c1 rfl (op_pickt (ltb rfl) rfl hg6 rfl) ?_
            refine TriL.nil ?_
            refine Tri.cond rfl (fun hc7 => ?_) (fun hc7 => ?_)
            · refine Tri.skip ?_
              refine Tri.seq ?_
              refine Tri.blk ?_
              refine Tri.seq ?_
              refine Tri.region ?_
              refine TriL.c1 rfl (op_mv (ltb rfl) rfl) ?_
              refine TriL.c1 rfl (op_fal (ltb rfl) fo32_0_M5 rfl) ?_
              refine TriL.c1 rfl (op_ldl (ltb rfl) lk29_M5 rfl rfl rfl) ?_
              refine TriL.c1 rfl (op_mv (ltb rfl) rfl) ?_
              refine TriL.c1 rfl (op_iak (ltb rfl) ie29_M5 rfl rfl (Int.natCast_nonneg _) (ixmE Slot.av_eq hj) rfl) ?_
              refine TriL.c1 rfl (op_fak (ltb rfl) fo83_1_M5 rfl) ?_
              refine TriL.c1 rfl (op_ldk (ltb rfl) lk81_M5 rfl rfl) ?_
              refine TriL.c1 rfl (op_mv (ltb rfl) rfl) ?_
              refine TriL.c1 rfl (op_iak (ltb rfl) ie81_M5 rfl rfl (Int.natCast_nonneg _) (ixmE Val.av_eq hk) rfl) ?_
              refine TriL.c1 rfl (op_fak (ltb rfl) fo86_1_M5 rfl) ?_
              refine TriL.c1 rfl (op_ldk (ltb rfl) lk9_M5 rfl rfl) ?_
              refine TriL.c1 rfl (op_lens (ltb rfl) un9_M5 rfl) ?_
              refine TriL.c1 rfl (op_bin (ltb rfl) rfl rfl rfl) ?_
              refine TriL.c1 rfl (op_bin (ltb rfl) rfl rfl rfl) ?_
              refine TriL.c1 rfl (op_as (ltb rfl) rfl) ?_
              refine TriL.nil ?_
              refine Tri.seq ?_
              refine Tri.region ?_
              refine TriL.c1 rfl (op_as (ltb rfl) rfl) ?_
              refine TriL.nil ?_
              refine Tri.blk ?_
              refine Tri.ofKept (Kept.keep [.s 10, .s 1, .h, .s 2, .s 3, .b 3, .s 8, .s 9] rfl (by decide) (Kept.now ?_))
              -- LOOP 4
              refine Tri.loopk (fun ((l, q) : Nat × Int) => [(.s 10, .sv (.v (.int .i64 (l : Int)))), (.s 1, .sv (.v (.int .i64 q)))]) _ (fun ((l, q) : Nat × Int) => leftT (((t.slots[j]'hj).vals[k]'hk).m.drop l) q d = ((t.slots[j]'hj).vals[k]'hk).left p d) (fun ((l, q) : Nat × Int) => ((t.slots[j]'hj).vals[k]'hk).m.length - l) (0, _) rfl (by rw [hVl]; simp) ?_
              rintro ⟨l, q⟩ hI
              refine Tri.seq ?_
              refine Tri.seq ?_
              refine Tri.region ?_
              refine TriL.c1 rfl (op_mv (ltb rfl) rfl) ?_
              refine TriL.c1 rfl (op_fal (ltb rfl) fo32_0_M5 rfl) ?_
              refine TriL.c1 rfl (op_ldl (ltb rfl) lk29_M5 rfl rfl rfl) ?_
              refine TriL.c1 rfl (op_mv (ltb rfl) rfl) ?_
              refine TriL.c1 rfl (op_iak (ltb rfl) ie29_M5 rfl rfl (Int.natCast_nonneg _) (ixmE Slot.av_eq hj) rfl) ?_
              refine TriL.c1 rfl (op_fak (ltb rfl) fo83_1_M5 rfl) ?_
              refine TriL.c1 rfl (op_ldk (ltb rfl) lk81_M5 rfl rfl) ?_
              refine TriL.c1 rfl (op_mv (ltb rfl) rfl) ?_
              refine TriL.c1 rfl (op_iak (ltb rfl) ie81_M5 rfl rfl (Int.natCast_nonneg _) (ixmE Val.av_eq hk) rfl) ?_
              refine TriL.c1 rfl (op_fak (ltb rfl) fo86_2_M5 rfl) ?_
              refine TriL.c1 rfl (op_ldk (ltb rfl) lk63_M5 rfl rfl) ?_
              refine TriL.c1 rfl (op_lenl (ltb rfl) un63_M5 rfl) ?_
              refine TriL.c1 rfl (op_bin (ltb rfl) rfl rfl rfl) ?_
              refine TriL.c1 rfl (op_mv (ltb rfl) rfl) ?_
              refine TriL.split (d := 105) rfl (fun hg8 => ?_) (fun hg8 => ?_)
              · have hl := ltm hg8
                have hU := @leftT_step ((t.slots[j]'hj).vals[k]'hk).m l q d hl
                refine TriL.g1 rfl (ltb rfl) rfl hg8 (op_mv (ltb rfl) rfl) ?_
                refine TriL.g1 rfl (ltb rfl) rfl hg8 (op_bin (ltb rfl) rfl rfl rfl) ?_
                refine TriL.c1 rfl (op_pickt (ltb rfl) rfl hg8 rfl) ?_
                refine TriL.nil ?_
                refine Tri.cond rfl (fun hc9 => ?_) (fun hc9 => ?_)
                · refine Tri.skip ?_
                  refine Tri.seq ?_
                  refine Tri.blk ?_
                  refine Tri.region ?_
                  refine TriL.c1 rfl (op_fal (ltb rfl) fo32_0_M5 rfl) ?_
                  refine TriL.c1 rfl (op_ldl (ltb rfl) lk29_M5 rfl rfl rfl) ?_
                  refine TriL.c1 rfl (op_mv (ltb rfl) rfl) ?_
                  refine TriL.c1 rfl (op_iak (ltb rfl) ie29_M5 rfl rfl (Int.natCast_nonneg _) (ixmE Slot.av_eq hj) rfl) ?_
                  refine TriL.c1 rfl (op_fak (ltb rfl) fo83_1_M5 rfl) ?_
                  refine TriL.c1 rfl (op_ldk (ltb rfl) lk81_M5 rfl rfl) ?_
                  refine TriL.c1 rfl (op_mv (ltb rfl) rfl) ?_
                  refine TriL.c1 rfl (op_iak (ltb rfl) ie81_M5 rfl rfl (Int.natCast_nonneg _) (ixmE Val.av_eq hk) rfl) ?_
                  refine TriL.c1 rfl (op_fak (ltb rfl) fo86_2_M5 rfl) ?_
                  refine TriL.c1 rfl (op_ldk (ltb rfl) lk63_M5 rfl rfl) ?_
                  refine TriL.c1 rfl (op_mv (ltb rfl) rfl) ?_
                  refine TriL.c1 rfl (op_iak (ltb rfl) ie63_M5 rfl rfl (Int.natCast_nonneg _) (ixmE Tree.av_eq hl) rfl) ?_
                  refine TriL.c1 rfl (op_ldk (ltb rfl) lk32_M5 rfl rfl) ?_
                  refine TriL.c1 rfl (op_mv (ltb rfl) rfl) ?_
                  refine TriL.c1 rfl (op_bin (ltb rfl) rfl rfl rfl) ?_
                  refine TriL.c1 rfl (op_mv (ltb rfl) rfl) ?_
                  refine TriL.c1 rfl (op_bin (ltb rfl) rfl rfl rfl) ?_
                  refine TriL.c1 rfl (op_call (ltb rfl) fn44_M5 rfl (ih _ (List.getElem_mem hj) _ (List.getElem_mem hk) _ (List.getElem_mem hl) _ _)) ?_
                  refine TriL.c1 rfl (op_as (ltb rfl) rfl) ?_
                  refine TriL.nil ?_
                  refine Tri.region ?_
                  refine TriL.c1 rfl (op_mv (ltb rfl) rfl) ?_
                  refine TriL.c1 rfl (op_bin (ltb rfl) rfl rfl rfl) ?_
                  refine TriL.c1 rfl (op_as (ltb rfl) rfl) ?_
                  refine TriL.kept (Kept.seti 10 rfl (inc (by omega)) (Kept.keep [.s 10, .s 1, .h, .s 2, .s 3, .b 3, .s 8, .s 9] rfl (by decide) (Kept.now ?_)))
                  exact ⟨(l + 1, _), (by dsimp only; omega), by grind, rfl⟩
                · refine Tri.exit ?_
                  refine Tri.region ?_
                  refine TriL.c1 rfl (op_mv (ltb rfl) rfl) ?_
                  refine TriL.c1 rfl (op_bin (ltb rfl) rfl rfl rfl) ?_
                  refine TriL.c1 rfl (op_as (ltb rfl) rfl) ?_
                  refine TriL.kept (Kept.seti 9 rfl (inc (by omega)) (Kept.keep [.s 9, .s 1, .h, .s 2, .s 3, .b 3, .s 8] rfl (by decide) (Kept.now ?_)))
                  exact ⟨(k + 1, _), (by dsimp only; omega), by grind, rfl⟩
              · have hl := gem hg8
                have hU := @leftT_end ((t.slots[j]'hj).vals[k]'hk).m l q d hl
                refine TriL.skipu rfl rfl (ltb rfl) (ltb rfl) rfl hg8 ?_
                refine TriL.skipu rfl rfl (ltb rfl) (ltb rfl) rfl hg8 ?_
                refine TriL.c1 rfl (op_pickf (ltb rfl) rfl hg8 rfl) ?_
                refine TriL.nil ?_
                refine Tri.condF rfl rfl ?_
                refine Tri.exit ?_
                refine Tri.region ?_
                refine TriL.c1 rfl (op_mv (ltb rfl) rfl) ?_
                refine TriL.c1 rfl (op_bin (ltb rfl) rfl rfl rfl) ?_
                refine TriL.c1 rfl (op_as (ltb rfl) rfl) ?_
                refine TriL.kept (Kept.seti 9 rfl (inc (by omega)) (Kept.keep [.s 9, .s 1, .h, .s 2, .s 3, .b 3, .s 8] rfl (by decide) (Kept.now ?_)))
                exact ⟨(k + 1, _), (by dsimp only; omega), by grind, rfl⟩
            · refine Tri.exit ?_
              refine Tri.region ?_
              refine TriL.c1 rfl (op_mv (ltb rfl) rfl) ?_
              refine TriL.c1 rfl (op_bin (ltb rfl) rfl rfl rfl) ?_
              refine TriL.c1 rfl (op_as (ltb rfl) rfl) ?_
              refine TriL.kept (Kept.seti 8 rfl (inc (by omega)) (Kept.keep [.s 8, .s 1, .h, .s 2, .s 3, .b 3] rfl (by decide) (Kept.now ?_)))
              exact ⟨(j + 1, _), (by dsimp only; omega), by grind, rfl⟩
          · have hk := gem hg6
            have hT := @leftV_end (t.slots[j]'hj).vals k p d hk
            refine TriL.skipu rfl rfl (ltb rfl) (ltb rfl) rfl hg6 ?_
            refine TriL.skipu rfl rfl (ltb rfl) (ltb rfl) rfl hg6 ?_
            refine TriL.c1 rfl (op_pickf (ltb rfl) rfl hg6 rfl) ?_
            refine TriL.nil ?_
            refine Tri.condF rfl rfl ?_
            refine Tri.exit ?_
            refine Tri.region ?_
            refine TriL.c1 rfl (op_mv (ltb rfl) rfl) ?_
            refine TriL.c1 rfl (op_bin (ltb rfl) rfl rfl rfl) ?_
            refine TriL.c1 rfl (op_as (ltb rfl) rfl) ?_
            refine TriL.kept (Kept.seti 8 rfl (inc (by omega)) (Kept.keep [.s 8, .s 1, .h, .s 2, .s 3, .b 3] rfl (by decide) (Kept.now ?_)))
            exact ⟨(j + 1, _), (by dsimp only; omega), by grind, rfl⟩
        · refine Tri.exit ?_
          refine Tri.seq ?_
          refine Tri.region ?_
          refine TriL.c1 rfl (op_mv (ltb rfl) rfl) ?_
          refine TriL.c1 rfl (op_as (ltb rfl) rfl) ?_
          refine TriL.nil ?_
          refine Tri.ret ?_
          exact ⟨.inr rfl, (ResOK.r1 rfl (.tmp rfl .nil)).cast (congrArg (AV.int .i64) (by grind [Tree.left_eq, leftS_neg, leftV_neg, leftT_neg, leftR_neg])), rfl⟩
      · have hj := gem hg4
        have hS := @leftS_end t.slots j m d hj
        refine TriL.skipu rfl rfl (ltb rfl) (ltb rfl) rfl hg4 ?_
        refine TriL.skipu rfl rfl (ltb rfl) (ltb rfl) rfl hg4 ?_
        refine TriL.c1 rfl (op_pickf (ltb rfl) rfl hg4 rfl) ?_
        refine TriL.nil ?_
        refine Tri.condF rfl rfl ?_
        refine Tri.exit ?_
        refine Tri.seq ?_
        refine Tri.region ?_
        refine TriL.c1 rfl (op_mv (ltb rfl) rfl) ?_
        refine TriL.c1 rfl (op_as (ltb rfl) rfl) ?_
        refine TriL.nil ?_
        refine Tri.ret ?_
        exact ⟨.inr rfl, (ResOK.r1 rfl (.tmp rfl .nil)).cast (congrArg (AV.int .i64) (by grind [Tree.left_eq, leftS_neg, leftV_neg, leftT_neg, leftR_neg])), rfl⟩
theorem r_left (t : Tree) (hb : t.big) (n d : Int) : Pure Tryz.prog 44 [.agg t.cells, .int .i64 n, .int .i64 d] (.int .i64 (t.left n d)) :=
  Tree.ind (Q := fun t => t.big → ∀ n d : Int, Pure Tryz.prog 44 [.agg t.cells, .int .i64 n, .int .i64 d] (.int .i64 (t.left n d))) (fun t ih hb n d => r_left1 t hb (fun x hx v hv u hu => ih x hx v hv u hu (hb.sub hu hv hx)) n d) t hb n d
def Tree.small (t : Tree) : Bool := decide (0 ≤ t.left 400 40)
theorem r_tsmall (t : Tree) (hb : t.big) : Pure Tryz.prog 22 [.agg t.cells] (.bool t.small) := by
  refine Pure.of_tri Tryz.func22 rfl rfl (ltb rfl) fun H => ?_
  refine Tri.seq ?_
  refine Tri.region ?_
  refine TriL.c2 rfl (op_box (ltb rfl) rfl rfl rfl) ?_
  refine TriL.c1 rfl (op_as (ltb rfl) rfl) ?_
  refine TriL.nil ?_
  refine Tri.seq ?_
  refine Tri.region ?_
  refine TriL.c1 rfl (op_ldl (ltb rfl) lk32_M5 rfl rfl rfl) ?_
  refine TriL.c1 rfl (op_call (ltb rfl) fn44_M5 rfl (r_left _ hb _ _)) ?_
  refine TriL.c1 rfl (op_bin (ltb rfl) rfl rfl rfl) ?_
  refine TriL.c1 rfl (op_as (ltb rfl) rfl) ?_
  refine TriL.nil ?_
  refine Tri.ret ?_
  exact ⟨.inr rfl, (ResOK.r1 rfl (.tmp rfl .nil)).cast rfl, rfl⟩
end Go.Proofs.YtnpgcmeclkncnaaGreatDoor.X
/- the document: values: the same, how deep. -/
set_option linter.unusedVariables false
set_option linter.unusedSimpArgs false
set_option linter.unusedSectionVars false
set_option maxRecDepth 100000
set_option maxHeartbeats 400000
namespace Go.Proofs.YtnpgcmeclkncnaaGreatDoor.X
open Go Go.RowKit Go.Proofs
theorem fn28_M6 : isFn Tryz.prog 28 = true := by kernel_rfl
theorem fn53_M6 : isFn Tryz.prog 53 = true := by kernel_rfl
theorem fn55_M6 : isFn Tryz.prog 55 = true := by kernel_rfl
theorem fn56_M6 : isFn Tryz.prog 56 = true := by kernel_rfl
theorem fo32_0_M6 : fo Tryz.prog 32 0 = some 0 := by kernel_rfl
theorem fo32_1_M6 : fo Tryz.prog 32 1 = some 1 := by kernel_rfl
theorem fo83_0_M6 : fo Tryz.prog 83 0 = some 0 := by kernel_rfl
theorem fo83_1_M6 : fo Tryz.prog 83 1 = some 1 := by kernel_rfl
theorem fo86_0_M6 : fo Tryz.prog 86 0 = some 0 := by kernel_rfl
theorem fo86_1_M6 : fo Tryz.prog 86 1 = some 1 := by kernel_rfl
theorem fo86_2_M6 : fo Tryz.prog 86 2 = some 2 := by kernel_rfl
theorem ie29_M6 : ie Tryz.prog 29 = some 2 := by kernel_rfl
theorem ie30_M6 : ie Tryz.prog 30 = some 4 := by kernel_rfl
theorem ie63_M6 : ie Tryz.prog 63 = some 2 := by kernel_rfl
theorem ie81_M6 : ie Tryz.prog 81 = some 3 := by kernel_rfl
theorem lk131_M6 : lk Tryz.prog 131 = some (true, 4) := by kernel_rfl
theorem lk29_M6 : lk Tryz.prog 29 = some (false, 1) := by kernel_rfl
theorem lk3_M6 : lk Tryz.prog 3 = some (false, 1) := by kernel_rfl
theorem lk30_M6 : lk Tryz.prog 30 = some (false, 1) := by kernel_rfl
theorem lk32_M6 : lk Tryz.prog 32 = some (true, 2) := by kernel_rfl
theorem lk63_M6 : lk Tryz.prog 63 = some (false, 1) := by kernel_rfl
theorem lk81_M6 : lk Tryz.prog 81 = some (false, 1) := by kernel_rfl
theorem lk84_M6 : lk Tryz.prog 84 = some (false, 1) := by kernel_rfl
theorem lk9_M6 : lk Tryz.prog 9 = some (false, 1) := by kernel_rfl
theorem un29_M6 : Tryz.prog.underlying 29 = some (TypeDesc.slice 83) := Tryz.underlying29
theorem un30_M6 : Tryz.prog.underlying 30 = some (TypeDesc.slice 131) := Tryz.underlying30
theorem un63_M6 : Tryz.prog.underlying 63 = some (TypeDesc.slice 32) := Tryz.underlying63
theorem un81_M6 : Tryz.prog.underlying 81 = some (TypeDesc.slice 86) := Tryz.underlying81
theorem eqGuardRw : Tryz.prog.eqGuardType Tryz.prog.depth 131 = false := by kernel_rfl
theorem neqRw_run (a b : Rw) (w : World) : (binOp .neq 131 (.agg #[.int .i64 a.num, .int .i64 a.wire, .int .u64 (a.n : Int), .string ⟨a.s.toArray⟩]) (.agg #[.int .i64 b.num, .int .i64 b.wire, .int .u64 (b.n : Int), .string ⟨b.s.toArray⟩])).run Tryz.prog w = .ok (.bool (!decide (a = b))) w := by
  obtain ⟨a0, a1, a2, a3⟩ := a
  obtain ⟨b0, b1, b2, b3⟩ := b
  go_simp
  by_cases h0 : a0 = b0
  · by_cases h1 : a1 = b1
    · by_cases h2 : a2 = b2
      · by_cases h3 : a3 = b3
        · simp [h0, h1, h2, h3, Int.natCast_inj]
        · simp [h0, h1, h2, h3, Int.natCast_inj]
      · simp [h0, h1, h2, Int.natCast_inj]
    · simp [h0, h1, Int.natCast_inj]
  · simp [h0, Int.natCast_inj]
theorem eqlRw_run (a b : Rw) (w : World) : (binOp .eql 131 (.agg #[.int .i64 a.num, .int .i64 a.wire, .int .u64 (a.n : Int), .string ⟨a.s.toArray⟩]) (.agg #[.int .i64 b.num, .int .i64 b.wire, .int .u64 (b.n : Int), .string ⟨b.s.toArray⟩])).run Tryz.prog w = .ok (.bool (decide (a = b))) w := by
  obtain ⟨a0, a1, a2, a3⟩ := a
  obtain ⟨b0, b1, b2, b3⟩ := b
  go_simp
  by_cases h0 : a0 = b0
  · by_cases h1 : a1 = b1
    · by_cases h2 : a2 = b2
      · by_cases h3 : a3 = b3
        · simp [h0, h1, h2, h3, Int.natCast_inj]
        · simp [h0, h1, h2, h3, Int.natCast_inj]
      · simp [h0, h1, h2, Int.natCast_inj]
    · simp [h0, h1, Int.natCast_inj]
  · simp [h0, Int.natCast_inj]
theorem Rw_val {G : Gh} {v : Value} {t : Rw} (h : V G v (.agg t.cells)) : v = (.agg #[.int .i64 t.num, .int .i64 t.wire, .int .u64 (t.n : Int), .string ⟨t.s.toArray⟩]) := by
  unfold Rw.cells at h
  cases h with
  | agg vs cs hl hf hv =>
    obtain ⟨l⟩ := vs
    match l, hl with
    | [x0, x1, x2, x3], _ =>
      have h0 : V G x0 (.int .i64 t.num) := hv 0 _ rfl
      cases h0
      have h1 : V G x1 (.int .i64 t.wire) := hv 1 _ rfl
      cases h1
      have h2 : V G x2 (.int .u64 (t.n : Int)) := hv 2 _ rfl
      cases h2
      have h3 : V G x3 (.str t.s) := hv 3 _ rfl
      cases h3
      rfl
theorem op_nes131 {N : Nat} {s : St} {d : Nat} {ty : TypeId} {pos : String} {af : Array Edge} {g : Option (Nat × Bool)} {t2 : TypeId} {x y : Operand} {u v : AV} (a b : Rw) (hN : d < N) (hx : opv x s = some u) (hy : opv y s = some v) (hu : u = .agg a.cells) (hv : v = .agg b.cells) :
    OpOK Tryz.prog N ⟨some d, .binOp .neq 131 x y t2, ty, pos, af, g⟩ s (rd x ++ rd y) [(.s d, .sv (.v (.bool (!decide (a = b)))))] := by
  subst hu hv
  exact OpOK.val rfl hN fun E G L c w tt hr hR => by
    refine ⟨.bool (!decide (a = b)), ?_, .bool _⟩
    have h1 := Rw_val (opv_sound hr hR.left hx)
    have h2 := Rw_val (opv_sound hr hR.right hy)
    have hgd := run_eqGuard_agg (P := Tryz.prog) w .neq 131 x y #[.int .i64 a.num, .int .i64 a.wire, .int .u64 (a.n : Int), .string ⟨a.s.toArray⟩] #[.int .i64 b.num, .int .i64 b.wire, .int .u64 (b.n : Int), .string ⟨b.s.toArray⟩] eqGuardRw
    simp only [execOp, Sem.run_bind, h1, h2, hgd, Result.andThen_ok, neqRw_run, Sem.run_pure]
theorem op_eqs131 {N : Nat} {s : St} {d : Nat} {ty : TypeId} {pos : String} {af : Array Edge} {g : Option (Nat × Bool)} {t2 : TypeId} {x y : Operand} {u v : AV} (a b : Rw) (hN : d < N) (hx : opv x s = some u) (hy : opv y s = some v) (hu : u = .agg a.cells) (hv : v = .agg b.cells) :
    OpOK Tryz.prog N ⟨some d, .binOp .eql 131 x y t2, ty, pos, af, g⟩ s (rd x ++ rd y) [(.s d, .sv (.v (.bool (decide (a = b)))))] := by
  subst hu hv
  exact OpOK.val rfl hN fun E G L c w tt hr hR => by
    refine ⟨.bool (decide (a = b)), ?_, .bool _⟩
    have h1 := Rw_val (opv_sound hr hR.left hx)
    have h2 := Rw_val (opv_sound hr hR.right hy)
    have hgd := run_eqGuard_agg (P := Tryz.prog) w .eql 131 x y #[.int .i64 a.num, .int .i64 a.wire, .int .u64 (a.n : Int), .string ⟨a.s.toArray⟩] #[.int .i64 b.num, .int .i64 b.wire, .int .u64 (b.n : Int), .string ⟨b.s.toArray⟩] eqGuardRw
    simp only [execOp, Sem.run_bind, h1, h2, hgd, Result.andThen_ok, eqlRw_run, Sem.run_pure]
theorem r_rsame (a b : List Rw) (ha : a.length ≤ 9223372036854775807) : Pure Tryz.prog 55 [.sl (a.map Rw.av), .sl (b.map Rw.av)] (.bool (eqb a b)) := by
  refine Pure.of_tri Tryz.func55 rfl rfl (ltb rfl) fun H => ?_
  refine Tri.seq ?_
  refine Tri.region ?_
  refine TriL.c1 rfl (op_as (ltb rfl) rfl) ?_
  refine TriL.nil ?_
  refine Tri.joinu [.h, .s 0, .s 1] (fun (_ : Unit) => []) (fun (_ : Unit) => a.length = b.length) rfl ?_ ?_
  · refine Tri.seq ?_
    refine Tri.region ?_
    refine TriL.c1 rfl (op_mv (ltb rfl) rfl) ?_
    refine TriL.c1 rfl (op_lenl (ltb rfl) un30_M6 rfl) ?_
    refine TriL.c1 rfl (op_mv (ltb rfl) rfl) ?_
    refine TriL.c1 rfl (op_lenl (ltb rfl) un30_M6 rfl) ?_
    refine TriL.c1 rfl (op_bin (ltb rfl) rfl rfl rfl) ?_
    refine TriL.nil ?_
    refine Tri.cond rfl (fun hc1 => ?_) (fun hc1 => ?_)
    · refine Tri.seq ?_
      refine Tri.region ?_
      refine TriL.c1 rfl (op_as (ltb rfl) rfl) ?_
      refine TriL.nil ?_
      refine Tri.ret ?_
      exact ⟨.inr rfl, (ResOK.r1 rfl (.tmp rfl .nil)).cast (congrArg AV.bool (by have hE := @eqb_true _ a b; have hF := @eqb_false _ a b; grind)), rfl⟩
    · refine Tri.ofKept (Kept.keep [.h, .s 0, .s 1] rfl (by decide) (Kept.now ?_))
      refine Tri.skip ?_
      exact ⟨(), by have h : (!((a.map Rw.av).length : Int) == ((b.map Rw.av).length : Int)) = false := hc1; simp at h; omega, rfl⟩
  · rintro _ hF3
    refine Tri.seq ?_
    refine Tri.seq ?_
    refine Tri.region ?_
    refine TriL.c1 rfl (op_as (ltb rfl) rfl) ?_
    refine TriL.nil ?_
    refine Tri.blk ?_
    refine Tri.ofKept (Kept.keep [.s 5, .h, .s 0, .s 1] rfl (by decide) (Kept.now ?_))
    -- LOOP 1
    refine Tri.loopk (fun (i : Nat) => [(.s 5, .sv (.v (.int .i64 (i : Int))))]) _ (fun (i : Nat) => a.take i = b.take i) (fun (i : Nat) => a.length - i) 0 rfl rfl ?_
    rintro i hI
    refine Tri.seq ?_
    refine Tri.seq ?_
    refine Tri.region ?_
    refine TriL.c1 rfl (op_mv (ltb rfl) rfl) ?_
    refine TriL.c1 rfl (op_mv (ltb rfl) rfl) ?_
    refine TriL.c1 rfl (op_lenl (ltb rfl) un30_M6 rfl) ?_
    refine TriL.c1 rfl (op_bin (ltb rfl) rfl rfl rfl) ?_
    refine TriL.nil ?_
    refine Tri.cond rfl (fun hc2 => ?_) (fun hc2 => ?_)
    · have hi := ltm hc2
      have hN := @ne_at _ a b i hi (by omega)
      refine Tri.skip ?_
      refine Tri.seq ?_
      refine Tri.blk ?_
      refine Tri.seq ?_
      refine Tri.drawn mixed rfl ?_
      refine TriD.c1 rfl (op_mv (ltb rfl) rfl) ?_
      refine TriD.c1 rfl (op_mv (ltb rfl) rfl) ?_
      refine TriD.c1 rfl (op_iak (ltb rfl) ie30_M6 rfl rfl (Int.natCast_nonneg _) (ixm (by omega)) rfl) ?_
      refine TriD.c1 rfl (op_ldk (ltb rfl) lk131_M6 rfl rfl) ?_
      refine TriD.c1 rfl (op_mv (ltb rfl) rfl) ?_
      refine TriD.c1 rfl (op_mv (ltb rfl) rfl) ?_
      refine TriD.c1 rfl (op_iak (ltb rfl) ie30_M6 rfl rfl (Int.natCast_nonneg _) (ixm (by omega)) rfl) ?_
      refine TriD.c1 rfl (op_ldk (ltb rfl) lk131_M6 rfl rfl) ?_
      refine TriD.c1 rfl (op_nes131 (a[i]'hi) (b[i]'(by omega)) (ltb rfl) rfl rfl rfl rfl) ?_
      refine TriD.nil (by kernel_rfl) (Kept.now ?_)
      refine Tri.cond rfl (fun hc3 => ?_) (fun hc3 => ?_)
      · refine Tri.seq ?_
        refine Tri.region ?_
        refine TriL.c1 rfl (op_as (ltb rfl) rfl) ?_
        refine TriL.nil ?_
        refine Tri.ret ?_
        exact ⟨.inr rfl, (ResOK.r1 rfl (.tmp rfl .nil)).cast (congrArg AV.bool (by have hE := @eqb_true _ a b; have hF := @eqb_false _ a b; grind)), rfl⟩
      · refine Tri.skip ?_
        refine Tri.region ?_
        refine TriL.c1 rfl (op_mv (ltb rfl) rfl) ?_
        refine TriL.c1 rfl (op_bin (ltb rfl) rfl rfl rfl) ?_
        refine TriL.c1 rfl (op_as (ltb rfl) rfl) ?_
        refine TriL.kept (Kept.seti 5 rfl (inc (by omega)) (Kept.keep [.s 5, .h, .s 0, .s 1] rfl (by decide) (Kept.now ?_)))
        exact ⟨i + 1, by omega, take_eq_step hi (by omega) hI (by grind), rfl⟩
    · have hi := gem hc2
      have hE2 := take_eq_end (a := a) (b := b) (by omega) hi hI
      refine Tri.exit ?_
      refine Tri.seq ?_
      refine Tri.region ?_
      refine TriL.c1 rfl (op_as (ltb rfl) rfl) ?_
      refine TriL.nil ?_
      refine Tri.ret ?_
      exact ⟨.inr rfl, (ResOK.r1 rfl (.tmp rfl .nil)).cast (congrArg AV.bool (by have hE := @eqb_true _ a b; have hF := @eqb_false _ a b; grind)), rfl⟩
theorem r_samevals1 (a b : List Val) (ha : a.length ≤ 9223372036854775807) (hm : ∀ v ∈ a, v.m.length ≤ 9223372036854775807) (ih : ∀ v ∈ a, ∀ u ∈ v.m, ∀ w : Tree, Pure Tryz.prog 28 [.agg u.cells, .agg w.cells] (.bool (eqb u w))) : Pure Tryz.prog 56 [.sl (a.map Val.av), .sl (b.map Val.av)] (.bool (eqb a b)) := by
  refine Pure.of_tri Tryz.func56 rfl rfl (ltb rfl) fun H => ?_
  refine Tri.seq ?_
  refine Tri.region ?_
  refine TriL.c1 rfl (op_as (ltb rfl) rfl) ?_
  refine TriL.nil ?_
  refine Tri.joinu [.h, .s 0, .s 1] (fun (_ : Unit) => []) (fun (_ : Unit) => a.length = b.length) rfl ?_ ?_
  · refine Tri.seq ?_
    refine Tri.region ?_
    refine TriL.c1 rfl (op_mv (ltb rfl) rfl) ?_
    refine TriL.c1 rfl (op_lenl (ltb rfl) un81_M6 rfl) ?_
    refine TriL.c1 rfl (op_mv (ltb rfl) rfl) ?_
    refine TriL.c1 rfl (op_lenl (ltb rfl) un81_M6 rfl) ?_
    refine TriL.c1 rfl (op_bin (ltb rfl) rfl rfl rfl) ?_
    refine TriL.nil ?_
    refine Tri.cond rfl (fun hc1 => ?_) (fun hc1 => ?_)
    · refine Tri.seq ?_
      refine Tri.region ?_
      refine TriL.c1 rfl (op_as (ltb rfl) rfl) ?_
      refine TriL.nil ?_
      refine Tri.ret ?_
      exact ⟨.inr rfl, (ResOK.r1 rfl (.tmp rfl .nil)).cast (congrArg AV.bool (by have hE := @eqb_true _ a b; have hF := @eqb_false _ a b; grind [eqb_true, eqb_false])), rfl⟩
    · refine Tri.ofKept (Kept.keep [.h, .s 0, .s 1] rfl (by decide) (Kept.now ?_))
      refine Tri.skip ?_
      exact ⟨(), by have h : (!((a.map Val.av).length : Int) == ((b.map Val.av).length : Int)) = false := hc1; simp at h; omega, rfl⟩
  · rintro _ hF3
    refine Tri.seq ?_
    refine Tri.seq ?_
    refine Tri.region ?_
    refine TriL.c1 rfl (op_as (ltb rfl) rfl) ?_
    refine TriL.nil ?_
    refine Tri.blk ?_
    refine Tri.ofKept (Kept.keep [.s 5, .h, .s 0, .s 1] rfl (by decide) (Kept.now ?_))
    -- LOOP 1
    refine Tri.loopk (fun (i : Nat) => [(.s 5, .sv (.v (.int .i64 (i : Int))))]) _ (fun (i : Nat) => a.take i = b.take i) (fun (i : Nat) => a.length - i) 0 rfl rfl ?_
    rintro i hI
    refine Tri.seq ?_
    refine Tri.seq ?_
    refine Tri.region ?_
    refine TriL.c1 rfl (op_mv (ltb rfl) rfl) ?_
    refine TriL.c1 rfl (op_mv (ltb rfl) rfl) ?_
    refine TriL.c1 rfl (op_lenl (ltb rfl) un81_M6 rfl) ?_
    refine TriL.c1 rfl (op_bin (ltb rfl) rfl rfl rfl) ?_
    refine TriL.nil ?_
    refine Tri.cond rfl (fun hc2 => ?_) (fun hc2 => ?_)
    · have hi := ltm hc2
      have hN := @ne_at _ a b i hi (by omega)
      have hm1 := hm _ (List.getElem_mem hi)
      refine Tri.skip ?_
      refine Tri.seq ?_
      refine Tri.blk ?_
      refine Tri.joinu [.h, .s 0, .s 1, .s 5] (fun (_ : Unit) => []) (fun (_ : Unit) => (a[i]'hi).n = (b[i]'(by omega)).n ∧ (a[i]'hi).s = (b[i]'(by omega)).s ∧ (a[i]'hi).m.length = (b[i]'(by omega)).m.length) rfl ?_ ?_
      · refine Tri.seq ?_
        refine Tri.drawn mixed rfl ?_
        refine TriD.c1 rfl (op_mv (ltb rfl) rfl) ?_
        refine TriD.c1 rfl (op_mv (ltb rfl) rfl) ?_
        refine TriD.c1 rfl (op_iak (ltb rfl) ie81_M6 rfl rfl (Int.natCast_nonneg _) (ixmE Val.av_eq (by omega)) rfl) ?_
        refine TriD.c1 rfl (op_fak (ltb rfl) fo86_0_M6 rfl) ?_
        refine TriD.c1 rfl (op_ldk (ltb rfl) lk84_M6 rfl rfl) ?_
        refine TriD.c1 rfl (op_mv (ltb rfl) rfl) ?_
        refine TriD.c1 rfl (op_mv (ltb rfl) rfl) ?_
        refine TriD.c1 rfl (op_iak (ltb rfl) ie81_M6 rfl rfl (Int.natCast_nonneg _) (ixmE Val.av_eq (by omega)) rfl) ?_
        refine TriD.c1 rfl (op_fak (ltb rfl) fo86_0_M6 rfl) ?_
        refine TriD.c1 rfl (op_ldk (ltb rfl) lk84_M6 rfl rfl) ?_
        refine TriD.c1 rfl (op_bin (ltb rfl) rfl rfl rfl) ?_
        refine TriD.c1 rfl (op_mv (ltb rfl) rfl) ?_
        refine TriD.split (d := 29) rfl (fun hg3 => ?_) (fun hg3 => ?_)
        · refine TriD.skipu rfl rfl (ltb rfl) (ltb rfl) rfl hg3 ?_
          refine TriD.skipu rfl rfl (ltb rfl) (ltb rfl) rfl hg3 ?_
          refine TriD.skipu rfl rfl (ltb rfl) (ltb rfl) rfl hg3 ?_
          refine TriD.skipu rfl rfl (ltb rfl) (ltb rfl) rfl hg3 ?_
          refine TriD.skipu rfl rfl (ltb rfl) (ltb rfl) rfl hg3 ?_
          refine TriD.skipu rfl rfl (ltb rfl) (ltb rfl) rfl hg3 ?_
          refine TriD.skipu rfl rfl (ltb rfl) (ltb rfl) rfl hg3 ?_
          refine TriD.skipu rfl rfl (ltb rfl) (ltb rfl) rfl hg3 ?_
          refine TriD.skipu rfl rfl (ltb rfl) (ltb rfl) rfl hg3 ?_
          refine TriD.skipu rfl rfl (ltb rfl) (ltb rfl) rfl hg3 ?_
          refine TriD.skipu rfl rfl (ltb rfl) (ltb rfl) rfl hg3 ?_
          refine TriD.c1 rfl (op_pickt (ltb rfl) rfl hg3 rfl) ?_
          refine TriD.c1 rfl (op_mv (ltb rfl) rfl) ?_
          refine TriD.skipu rfl rfl (ltb rfl) (ltb rfl) rfl rfl ?_
          refine TriD.skipu rfl rfl (ltb rfl) (ltb rfl) rfl rfl ?_
          refine TriD.skipu rfl rfl (ltb rfl) (ltb rfl) rfl rfl ?_
          refine TriD.skipu rfl rfl (ltb rfl) (ltb rfl) rfl rfl ?_
          refine TriD.skipu rfl rfl (ltb rfl) (ltb rfl) rfl rfl ?_
          refine TriD.skipu rfl rfl (ltb rfl) (ltb rfl) rfl rfl ?_
          refine TriD.skipu rfl rfl (ltb rfl) (ltb rfl) rfl rfl ?_
          refine TriD.skipu rfl rfl (ltb rfl) (ltb rfl) rfl rfl ?_
          refine TriD.skipu rfl rfl (ltb rfl) (ltb rfl) rfl rfl ?_
          refine TriD.skipu rfl rfl (ltb rfl) (ltb rfl) rfl rfl ?_
          refine TriD.skipu rfl rfl (ltb rfl) (ltb rfl) rfl rfl ?_
          refine TriD.skipu rfl rfl (ltb rfl) (ltb rfl) rfl rfl ?_
          refine TriD.skipu rfl rfl (ltb rfl) (ltb rfl) rfl rfl ?_
          refine TriD.c1 rfl (op_pickt (ltb rfl) rfl rfl rfl) ?_
          refine TriD.nil (by kernel_rfl) (Kept.now ?_)
          refine Tri.condT rfl rfl ?_
          refine Tri.seq ?_
          refine Tri.region ?_
          refine TriL.c1 rfl (op_as (ltb rfl) rfl) ?_
          refine TriL.nil ?_
          refine Tri.ret ?_
          exact ⟨.inr rfl, (ResOK.r1 rfl (.tmp rfl .nil)).cast (congrArg AV.bool (by have hE := @eqb_true _ a b; have hF := @eqb_false _ a b; grind [eqb_true, eqb_false])), rfl⟩
        · refine TriD.g1 rfl (ltb rfl) rfl hg3 (op_mv (ltb rfl) rfl) ?_
          refine TriD.g1 rfl (ltb rfl) rfl hg3 (op_mv (ltb rfl) rfl) ?_
          refine TriD.g1 rfl (ltb rfl) rfl hg3 (op_iak (ltb rfl) ie81_M6 rfl rfl (Int.natCast_nonneg _) (ixmE Val.av_eq (by omega)) rfl) ?_
          refine TriD.g1 rfl (ltb rfl) rfl hg3 (op_fak (ltb rfl) fo86_1_M6 rfl) ?_
          refine TriD.g1 rfl (ltb rfl) rfl hg3 (op_ldk (ltb rfl) lk9_M6 rfl rfl) ?_
          refine TriD.g1 rfl (ltb rfl) rfl hg3 (op_mv (ltb rfl) rfl) ?_
          refine TriD.g1 rfl (ltb rfl) rfl hg3 (op_mv (ltb rfl) rfl) ?_
          refine TriD.g1 rfl (ltb rfl) rfl hg3 (op_iak (ltb rfl) ie81_M6 rfl rfl (Int.natCast_nonneg _) (ixmE Val.av_eq (by omega)) rfl) ?_
          refine TriD.g1 rfl (ltb rfl) rfl hg3 (op_fak (ltb rfl) fo86_1_M6 rfl) ?_
          refine TriD.g1 rfl (ltb rfl) rfl hg3 (op_ldk (ltb rfl) lk9_M6 rfl rfl) ?_
          refine TriD.g1 rfl (ltb rfl) rfl hg3 (op_bin (ltb rfl) rfl rfl rfl) ?_
          refine TriD.c1 rfl (op_pickf (ltb rfl) rfl hg3 rfl) ?_
          refine TriD.c1 rfl (op_mv (ltb rfl) rfl) ?_
          refine TriD.split (d := 42) rfl (fun hg4 => ?_) (fun hg4 => ?_)
          · refine TriD.skipu rfl rfl (ltb rfl) (ltb rfl) rfl hg4 ?_
            refine TriD.skipu rfl rfl (ltb rfl) (ltb rfl) rfl hg4 ?_
            refine TriD.skipu rfl rfl (ltb rfl) (ltb rfl) rfl hg4 ?_
            refine TriD.skipu rfl rfl (ltb rfl) (ltb rfl) rfl hg4 ?_
            refine TriD.skipu rfl rfl (ltb rfl) (ltb rfl) rfl hg4 ?_
            refine TriD.skipu rfl rfl (ltb rfl) (ltb rfl) rfl hg4 ?_
            refine TriD.skipu rfl rfl (ltb rfl) (ltb rfl) rfl hg4 ?_
            refine TriD.skipu rfl rfl (ltb rfl) (ltb rfl) rfl hg4 ?_
            refine TriD.skipu rfl rfl (ltb rfl) (ltb rfl) rfl hg4 ?_
            refine TriD.skipu rfl rfl (ltb rfl) (ltb rfl) rfl hg4 ?_
            refine TriD.skipu rfl rfl (ltb rfl) (ltb rfl) rfl hg4 ?_
            refine TriD.skipu rfl rfl (ltb rfl) (ltb rfl) rfl hg4 ?_
            refine TriD.skipu rfl rfl (ltb rfl) (ltb rfl) rfl hg4 ?_
            refine TriD.c1 rfl (op_pickt (ltb rfl) rfl hg4 rfl) ?_
            refine TriD.nil (by kernel_rfl) (Kept.now ?_)
            refine Tri.condT rfl rfl ?_
            refine Tri.seq ?_
            refine Tri.region ?_
            refine TriL.c1 rfl (op_as (ltb rfl) rfl) ?_
            refine TriL.nil ?_
            refine Tri.ret ?_
            exact ⟨.inr rfl, (ResOK.r1 rfl (.tmp rfl .nil)).cast (congrArg AV.bool (by have hE := @eqb_true _ a b; have hF := @eqb_false _ a b; grind [eqb_true, eqb_false])), rfl⟩
          · refine TriD.g1 rfl (ltb rfl) rfl hg4 (op_mv (ltb rfl) rfl) ?_
            refine TriD.g1 rfl (ltb rfl) rfl hg4 (op_mv (ltb rfl) rfl) ?_
            refine TriD.g1 rfl (ltb rfl) rfl hg4 (op_iak (ltb rfl) ie81_M6 rfl rfl (Int.natCast_nonneg _) (ixmE Val.av_eq (by omega)) rfl) ?_
            refine TriD.g1 rfl (ltb rfl) rfl hg4 (op_fak (ltb rfl) fo86_2_M6 rfl) ?_
            refine TriD.g1 rfl (ltb rfl) rfl hg4 (op_ldk (ltb rfl) lk63_M6 rfl rfl) ?_
            refine TriD.g1 rfl (ltb rfl) rfl hg4 (op_lenl (ltb rfl) un63_M6 rfl) ?_
            refine TriD.g1 rfl (ltb rfl) rfl hg4 (op_mv (ltb rfl) rfl) ?_
            refine TriD.g1 rfl (ltb rfl) rfl hg4 (op_mv (ltb rfl) rfl) ?_
            refine TriD.g1 rfl (ltb rfl) rfl hg4 (op_iak (ltb rfl) ie81_M6 rfl rfl (Int.natCast_nonneg _) (ixmE Val.av_eq (by omega)) rfl) ?_
            refine TriD.g1 rfl (ltb rfl) rfl hg4 (op_fak (ltb rfl) fo86_2_M6 rfl) ?_
            refine TriD.g1 rfl (ltb rfl) rfl hg4 (op_ldk (ltb rfl) lk63_M6 rfl rfl) ?_
            refine TriD.g1 rfl (ltb rfl) rfl hg4 (op_lenl (ltb rfl) un63_M6 rfl) ?_
            refine TriD.g1 rfl (ltb rfl) rfl hg4 (op_bin (ltb rfl) rfl rfl rfl) ?_
            refine TriD.c1 rfl (op_pickf (ltb rfl) rfl hg4 rfl) ?_
            refine TriD.nil (by kernel_rfl) (Kept.now ?_)
            refine Tri.cond rfl (fun hc5 => ?_) (fun hc5 => ?_)
            · refine Tri.seq ?_
              refine Tri.region ?_
              refine TriL.c1 rfl (op_as (ltb rfl) rfl) ?_
              refine TriL.nil ?_
              refine Tri.ret ?_
              exact ⟨.inr rfl, (ResOK.r1 rfl (.tmp rfl .nil)).cast (congrArg AV.bool (by have hE := @eqb_true _ a b; have hF := @eqb_false _ a b; grind [eqb_true, eqb_false])), rfl⟩
            · refine Tri.ofKept (Kept.keep [.h, .s 0, .s 1, .s 5] rfl (by decide) (Kept.now ?_))
              refine Tri.skip ?_
              exact ⟨(), by grind, rfl⟩
      · rintro _ hF8
        refine Tri.seq ?_
        refine Tri.region ?_
        refine TriL.c1 rfl (op_as (ltb rfl) rfl) ?_
        refine TriL.nil ?_
        refine Tri.blk ?_
        refine Tri.ofKept (Kept.keep [.s 6, .h, .s 0, .s 1, .s 5] rfl (by decide) (Kept.now ?_))
        -- LOOP 2
        refine Tri.loopk (fun (l : Nat) => [(.s 6, .sv (.v (.int .i64 (l : Int))))]) _ (fun (l : Nat) => (a[i]'hi).m.take l = (b[i]'(by omega)).m.take l) (fun (l : Nat) => (a[i]'hi).m.length - l) 0 rfl rfl ?_
        rintro l hL
        refine Tri.seq ?_
        refine Tri.seq ?_
        refine Tri.region ?_
        refine TriL.c1 rfl (op_mv (ltb rfl) rfl) ?_
        refine TriL.c1 rfl (op_mv (ltb rfl) rfl) ?_
        refine TriL.c1 rfl (op_mv (ltb rfl) rfl) ?_
        refine TriL.c1 rfl (op_iak (ltb rfl) ie81_M6 rfl rfl (Int.natCast_nonneg _) (ixmE Val.av_eq (by omega)) rfl) ?_
        refine TriL.c1 rfl (op_fak (ltb rfl) fo86_2_M6 rfl) ?_
        refine TriL.c1 rfl (op_ldk (ltb rfl) lk63_M6 rfl rfl) ?_
        refine TriL.c1 rfl (op_lenl (ltb rfl) un63_M6 rfl) ?_
        refine TriL.c1 rfl (op_bin (ltb rfl) rfl rfl rfl) ?_
        refine TriL.nil ?_
        refine Tri.cond rfl (fun hc6 => ?_) (fun hc6 => ?_)
        · have hl := ltm hc6
          have hM := @ne_at _ (a[i]'hi).m (b[i]'(by omega)).m l hl (by omega)
          refine Tri.skip ?_
          refine Tri.seq ?_
          refine Tri.blk ?_
          refine Tri.seq ?_
          refine Tri.drawn mixed rfl ?_
          refine TriD.c1 rfl (op_mv (ltb rfl) rfl) ?_
          refine TriD.c1 rfl (op_mv (ltb rfl) rfl) ?_
          refine TriD.c1 rfl (op_iak (ltb rfl) ie81_M6 rfl rfl (Int.natCast_nonneg _) (ixmE Val.av_eq (by omega)) rfl) ?_
          refine TriD.c1 rfl (op_fak (ltb rfl) fo86_2_M6 rfl) ?_
          refine TriD.c1 rfl (op_ldk (ltb rfl) lk63_M6 rfl rfl) ?_
          refine TriD.c1 rfl (op_mv (ltb rfl) rfl) ?_
          refine TriD.c1 rfl (op_iak (ltb rfl) ie63_M6 rfl rfl (Int.natCast_nonneg _) (ixmE Tree.av_eq (by omega)) rfl) ?_
          refine TriD.c1 rfl (op_ldk (ltb rfl) lk32_M6 rfl rfl) ?_
          refine TriD.c1 rfl (op_mv (ltb rfl) rfl) ?_
          refine TriD.c1 rfl (op_mv (ltb rfl) rfl) ?_
          refine TriD.c1 rfl (op_iak (ltb rfl) ie81_M6 rfl rfl (Int.natCast_nonneg _) (ixmE Val.av_eq (by omega)) rfl) ?_
          refine TriD.c1 rfl (op_fak (ltb rfl) fo86_2_M6 rfl) ?_
          refine TriD.c1 rfl (op_ldk (ltb rfl) lk63_M6 rfl rfl) ?_
          refine TriD.c1 rfl (op_mv (ltb rfl) rfl) ?_
          refine TriD.c1 rfl (op_iak (ltb rfl) ie63_M6 rfl rfl (Int.natCast_nonneg _) (ixmE Tree.av_eq (by omega)) rfl) ?_
          refine TriD.c1 rfl (op_ldk (ltb rfl) lk32_M6 rfl rfl) ?_
          refine TriD.c1 rfl (op_call (ltb rfl) fn28_M6 rfl (ih _ (List.getElem_mem hi) _ (List.getElem_mem hl) _)) ?_
          refine TriD.c1 rfl (op_un (ltb rfl) rfl rfl) ?_
          refine TriD.nil (by kernel_rfl) (Kept.now ?_)
          refine Tri.cond rfl (fun hc7 => ?_) (fun hc7 => ?_)
          · refine Tri.seq ?_
            refine Tri.region ?_
            refine TriL.c1 rfl (op_as (ltb rfl) rfl) ?_
            refine TriL.nil ?_
            refine Tri.ret ?_
            exact ⟨.inr rfl, (ResOK.r1 rfl (.tmp rfl .nil)).cast (congrArg AV.bool (by have hE := @eqb_true _ a b; have hF := @eqb_false _ a b; grind [eqb_true, eqb_false])), rfl⟩
          · refine Tri.skip ?_
            refine Tri.region ?_
            refine TriL.c1 rfl (op_mv (ltb rfl) rfl) ?_
            refine TriL.c1 rfl (op_bin (ltb rfl) rfl rfl rfl) ?_
            refine TriL.c1 rfl (op_as (ltb rfl) rfl) ?_
            refine TriL.kept (Kept.seti 6 rfl (inc (by omega)) (Kept.keep [.s 6, .h, .s 0, .s 1, .s 5] rfl (by decide) (Kept.now ?_)))
            exact ⟨l + 1, by omega, take_eq_step hl (by omega) hL (by grind [eqb_true]), rfl⟩
        · have hl := gem hc6
          have hE3 := take_eq_end (a := (a[i]'hi).m) (b := (b[i]'(by omega)).m) (by omega) hl hL
          have hQ := Val.ext (a := (a[i]'hi)) (b := (b[i]'(by omega))) hF8.1 hF8.2.1 hE3
          refine Tri.exit ?_
          refine Tri.region ?_
          refine TriL.c1 rfl (op_mv (ltb rfl) rfl) ?_
          refine TriL.c1 rfl (op_bin (ltb rfl) rfl rfl rfl) ?_
          refine TriL.c1 rfl (op_as (ltb rfl) rfl) ?_
          refine TriL.kept (Kept.seti 5 rfl (inc (by omega)) (Kept.keep [.s 5, .h, .s 0, .s 1] rfl (by decide) (Kept.now ?_)))
          exact ⟨i + 1, by omega, take_eq_step hi (by omega) hI hQ, rfl⟩
    · have hi := gem hc2
      have hE2 := take_eq_end (a := a) (b := b) (by omega) hi hI
      refine Tri.exit ?_
      refine Tri.seq ?_
      refine Tri.region ?_
      refine TriL.c1 rfl (op_as (ltb rfl) rfl) ?_
      refine TriL.nil ?_
      refine Tri.ret ?_
      exact ⟨.inr rfl, (ResOK.r1 rfl (.tmp rfl .nil)).cast (congrArg AV.bool (by have hE := @eqb_true _ a b; have hF := @eqb_false _ a b; grind [eqb_true, eqb_false])), rfl⟩
theorem r_same1 (a b : Tree) (hb : a.big) (ih : ∀ x ∈ a.slots, ∀ v ∈ x.vals, ∀ u ∈ v.m, ∀ w : Tree, Pure Tryz.prog 28 [.agg u.cells, .agg w.cells] (.bool (eqb u w))) : Pure Tryz.prog 28 [.agg a.cells, .agg b.cells] (.bool (eqb a b)) := by
  have hs := hb.here.s
  have hr := hb.here.r
  refine Pure.of_tri Tryz.func28 rfl rfl (ltb rfl) fun H => ?_
  refine Tri.seq ?_
  refine Tri.region ?_
  refine TriL.c2 rfl (op_box (ltb rfl) rfl rfl rfl) ?_
  refine TriL.c2 rfl (op_box (ltb rfl) rfl rfl rfl) ?_
  refine TriL.c1 rfl (op_as (ltb rfl) rfl) ?_
  refine TriL.nil ?_
  refine Tri.joinu [.h, .s 2, .b 2, .s 3, .b 3] (fun (_ : Unit) => []) (fun (_ : Unit) => a.slots.length = b.slots.length ∧ a.rest = b.rest) rfl ?_ ?_
  · refine Tri.seq ?_
    refine Tri.region ?_
    refine TriL.c1 rfl (op_fal (ltb rfl) fo32_0_M6 rfl) ?_
    refine TriL.c1 rfl (op_ldl (ltb rfl) lk29_M6 rfl rfl rfl) ?_
    refine TriL.c1 rfl (op_lenl (ltb rfl) un29_M6 rfl) ?_
    refine TriL.c1 rfl (op_fal (ltb rfl) fo32_0_M6 rfl) ?_
    refine TriL.c1 rfl (op_ldl (ltb rfl) lk29_M6 rfl rfl rfl) ?_
    refine TriL.c1 rfl (op_lenl (ltb rfl) un29_M6 rfl) ?_
    refine TriL.c1 rfl (op_bin (ltb rfl) rfl rfl rfl) ?_
    refine TriL.c1 rfl (op_mv (ltb rfl) rfl) ?_
    refine TriL.split (d := 13) rfl (fun hg1 => ?_) (fun hg1 => ?_)
    · refine TriL.skipu rfl rfl (ltb rfl) (ltb rfl) rfl hg1 ?_
      refine TriL.skipu rfl rfl (ltb rfl) (ltb rfl) rfl hg1 ?_
      refine TriL.skipu rfl rfl (ltb rfl) (ltb rfl) rfl hg1 ?_
      refine TriL.skipu rfl rfl (ltb rfl) (ltb rfl) rfl hg1 ?_
      refine TriL.skipu rfl rfl (ltb rfl) (ltb rfl) rfl hg1 ?_
      refine TriL.skipu rfl rfl (ltb rfl) (ltb rfl) rfl hg1 ?_
      refine TriL.c1 rfl (op_pickt (ltb rfl) rfl hg1 rfl) ?_
      refine TriL.nil ?_
      refine Tri.condT rfl rfl ?_
      refine Tri.seq ?_
      refine Tri.region ?_
      refine TriL.c1 rfl (op_as (ltb rfl) rfl) ?_
      refine TriL.nil ?_
      refine Tri.ret ?_
      exact ⟨.inr rfl, (ResOK.r1 rfl (.tmp rfl .nil)).cast (congrArg AV.bool (by have hE := @eqb_true _ a b; have hF := @eqb_false _ a b; grind [eqb_true, eqb_false, Tree.ext])), rfl⟩
    · refine TriL.g1 rfl (ltb rfl) rfl hg1 (op_fal (ltb rfl) fo32_1_M6 rfl) ?_
      refine TriL.g1 rfl (ltb rfl) rfl hg1 (op_ldl (ltb rfl) lk30_M6 rfl rfl rfl) ?_
      refine TriL.g1 rfl (ltb rfl) rfl hg1 (op_fal (ltb rfl) fo32_1_M6 rfl) ?_
      refine TriL.g1 rfl (ltb rfl) rfl hg1 (op_ldl (ltb rfl) lk30_M6 rfl rfl rfl) ?_
      refine TriL.g1 rfl (ltb rfl) rfl hg1 (op_call (ltb rfl) fn55_M6 rfl (r_rsame _ _ (by omega))) ?_
      refine TriL.g1 rfl (ltb rfl) rfl hg1 (op_un (ltb rfl) rfl rfl) ?_
      refine TriL.c1 rfl (op_pickf (ltb rfl) rfl hg1 rfl) ?_
      refine TriL.nil ?_
      refine Tri.cond rfl (fun hc2 => ?_) (fun hc2 => ?_)
      · refine Tri.seq ?_
        refine Tri.region ?_
        refine TriL.c1 rfl (op_as (ltb rfl) rfl) ?_
        refine TriL.nil ?_
        refine Tri.ret ?_
        exact ⟨.inr rfl, (ResOK.r1 rfl (.tmp rfl .nil)).cast (congrArg AV.bool (by have hE := @eqb_true _ a b; have hF := @eqb_false _ a b; grind [eqb_true, eqb_false, Tree.ext])), rfl⟩
      · refine Tri.ofKept (Kept.keep [.h, .s 2, .b 2, .s 3, .b 3] rfl (by decide) (Kept.now ?_))
        refine Tri.skip ?_
        exact ⟨(), by grind [eqb_true], rfl⟩
  · rintro _ hF3
    refine Tri.seq ?_
    refine Tri.seq ?_
    refine Tri.region ?_
    refine TriL.c1 rfl (op_as (ltb rfl) rfl) ?_
    refine TriL.nil ?_
    refine Tri.blk ?_
    refine Tri.ofKept (Kept.keep [.s 5, .h, .s 2, .b 2, .s 3, .b 3] rfl (by decide) (Kept.now ?_))
    -- LOOP 1
    refine Tri.loopk (fun (i : Nat) => [(.s 5, .sv (.v (.int .i64 (i : Int))))]) _ (fun (i : Nat) => a.slots.take i = b.slots.take i) (fun (i : Nat) => a.slots.length - i) 0 rfl rfl ?_
    rintro i hI
    refine Tri.seq ?_
    refine Tri.seq ?_
    refine Tri.region ?_
    refine TriL.c1 rfl (op_mv (ltb rfl) rfl) ?_
    refine TriL.c1 rfl (op_fal (ltb rfl) fo32_0_M6 rfl) ?_
    refine TriL.c1 rfl (op_ldl (ltb rfl) lk29_M6 rfl rfl rfl) ?_
    refine TriL.c1 rfl (op_lenl (ltb rfl) un29_M6 rfl) ?_
    refine TriL.c1 rfl (op_bin (ltb rfl) rfl rfl rfl) ?_
    refine TriL.nil ?_
    refine Tri.cond rfl (fun hc3 => ?_) (fun hc3 => ?_)
    · have hi := ltm hc3
      have hN := @ne_at _ a.slots b.slots i hi (by omega)
      refine Tri.skip ?_
      refine Tri.seq ?_
      refine Tri.blk ?_
      refine Tri.seq ?_
      refine Tri.drawn mixed rfl ?_
      refine TriD.c1 rfl (op_fal (ltb rfl) fo32_0_M6 rfl) ?_
      refine TriD.c1 rfl (op_ldl (ltb rfl) lk29_M6 rfl rfl rfl) ?_
      refine TriD.c1 rfl (op_mv (ltb rfl) rfl) ?_
      refine TriD.c1 rfl (op_iak (ltb rfl) ie29_M6 rfl rfl (Int.natCast_nonneg _) (ixmE Slot.av_eq (by omega)) rfl) ?_
      refine TriD.c1 rfl (op_fak (ltb rfl) fo83_0_M6 rfl) ?_
      refine TriD.c1 rfl (op_ldk (ltb rfl) lk3_M6 rfl rfl) ?_
      refine TriD.c1 rfl (op_fal (ltb rfl) fo32_0_M6 rfl) ?_
      refine TriD.c1 rfl (op_ldl (ltb rfl) lk29_M6 rfl rfl rfl) ?_
      refine TriD.c1 rfl (op_mv (ltb rfl) rfl) ?_
      refine TriD.c1 rfl (op_iak (ltb rfl) ie29_M6 rfl rfl (Int.natCast_nonneg _) (ixmE Slot.av_eq (by omega)) rfl) ?_
      refine TriD.c1 rfl (op_fak (ltb rfl) fo83_0_M6 rfl) ?_
      refine TriD.c1 rfl (op_ldk (ltb rfl) lk3_M6 rfl rfl) ?_
      refine TriD.c1 rfl (op_bin (ltb rfl) rfl rfl rfl) ?_
      refine TriD.c1 rfl (op_mv (ltb rfl) rfl) ?_
      refine TriD.split (d := 41) rfl (fun hg4 => ?_) (fun hg4 => ?_)
      · refine TriD.skipu rfl rfl (ltb rfl) (ltb rfl) rfl hg4 ?_
        refine TriD.skipu rfl rfl (ltb rfl) (ltb rfl) rfl hg4 ?_
        refine TriD.skipu rfl rfl (ltb rfl) (ltb rfl) rfl hg4 ?_
        refine TriD.skipu rfl rfl (ltb rfl) (ltb rfl) rfl hg4 ?_
        refine TriD.skipu rfl rfl (ltb rfl) (ltb rfl) rfl hg4 ?_
        refine TriD.skipu rfl rfl (ltb rfl) (ltb rfl) rfl hg4 ?_
        refine TriD.skipu rfl rfl (ltb rfl) (ltb rfl) rfl hg4 ?_
        refine TriD.skipu rfl rfl (ltb rfl) (ltb rfl) rfl hg4 ?_
        refine TriD.skipu rfl rfl (ltb rfl) (ltb rfl) rfl hg4 ?_
        refine TriD.skipu rfl rfl (ltb rfl) (ltb rfl) rfl hg4 ?_
        refine TriD.skipu rfl rfl (ltb rfl) (ltb rfl) rfl hg4 ?_
        refine TriD.skipu rfl rfl (ltb rfl) (ltb rfl) rfl hg4 ?_
        refine TriD.skipu rfl rfl (ltb rfl) (ltb rfl) rfl hg4 ?_
        refine TriD.skipu rfl rfl (ltb rfl) (ltb rfl) rfl hg4 ?_
        refine TriD.c1 rfl (op_pickt (ltb rfl) rfl hg4 rfl) ?_
        refine TriD.nil (by kernel_rfl) (Kept.now ?_)
        refine Tri.condT rfl rfl ?_
        refine Tri.seq ?_
        refine Tri.region ?_
        refine TriL.c1 rfl (op_as (ltb rfl) rfl) ?_
        refine TriL.nil ?_
        refine Tri.ret ?_
        exact ⟨.inr rfl, (ResOK.r1 rfl (.tmp rfl .nil)).cast (congrArg AV.bool (by have hE := @eqb_true _ a b; have hF := @eqb_false _ a b; grind [eqb_true, eqb_false, Tree.ext])), rfl⟩
      · refine TriD.g1 rfl (ltb rfl) rfl hg4 (op_fal (ltb rfl) fo32_0_M6 rfl) ?_
        refine TriD.g1 rfl (ltb rfl) rfl hg4 (op_ldl (ltb rfl) lk29_M6 rfl rfl rfl) ?_
        refine TriD.g1 rfl (ltb rfl) rfl hg4 (op_mv (ltb rfl) rfl) ?_
        refine TriD.g1 rfl (ltb rfl) rfl hg4 (op_iak (ltb rfl) ie29_M6 rfl rfl (Int.natCast_nonneg _) (ixmE Slot.av_eq (by omega)) rfl) ?_
        refine TriD.g1 rfl (ltb rfl) rfl hg4 (op_fak (ltb rfl) fo83_1_M6 rfl) ?_
        refine TriD.g1 rfl (ltb rfl) rfl hg4 (op_ldk (ltb rfl) lk81_M6 rfl rfl) ?_
        refine TriD.g1 rfl (ltb rfl) rfl hg4 (op_fal (ltb rfl) fo32_0_M6 rfl) ?_
        refine TriD.g1 rfl (ltb rfl) rfl hg4 (op_ldl (ltb rfl) lk29_M6 rfl rfl rfl) ?_
        refine TriD.g1 rfl (ltb rfl) rfl hg4 (op_mv (ltb rfl) rfl) ?_
        refine TriD.g1 rfl (ltb rfl) rfl hg4 (op_iak (ltb rfl) ie29_M6 rfl rfl (Int.natCast_nonneg _) (ixmE Slot.av_eq (by omega)) rfl) ?_
        refine TriD.g1 rfl (ltb rfl) rfl hg4 (op_fak (ltb rfl) fo83_1_M6 rfl) ?_
        refine TriD.g1 rfl (ltb rfl) rfl hg4 (op_ldk (ltb rfl) lk81_M6 rfl rfl) ?_
        refine TriD.g1 rfl (ltb rfl) rfl hg4 (op_call (ltb rfl) fn56_M6 rfl (r_samevals1 _ _ (hb.here.v _ (List.getElem_mem hi)) (hb.here.m _ (List.getElem_mem hi)) (ih _ (List.getElem_mem hi)))) ?_
        refine TriD.g1 rfl (ltb rfl) rfl hg4 (op_un (ltb rfl) rfl rfl) ?_
        refine TriD.c1 rfl (op_pickf (ltb rfl) rfl hg4 rfl) ?_
        refine TriD.nil (by kernel_rfl) (Kept.now ?_)
        refine Tri.cond rfl (fun hc5 => ?_) (fun hc5 => ?_)
        · refine Tri.seq ?_
          refine Tri.region ?_
          refine TriL.c1 rfl (op_as (ltb rfl) rfl) ?_
          refine TriL.nil ?_
          refine Tri.ret ?_
          exact ⟨.inr rfl, (ResOK.r1 rfl (.tmp rfl .nil)).cast (congrArg AV.bool (by have hE := @eqb_true _ a b; have hF := @eqb_false _ a b; grind [eqb_true, eqb_false, Tree.ext])), rfl⟩
        · refine Tri.skip ?_
          refine Tri.region ?_
          refine TriL.c1 rfl (op_mv (ltb rfl) rfl) ?_
          refine TriL.c1 rfl (op_bin (ltb rfl) rfl rfl rfl) ?_
          refine TriL.c1 rfl (op_as (ltb rfl) rfl) ?_
          refine TriL.kept (Kept.seti 5 rfl (inc (by omega)) (Kept.keep [.s 5, .h, .s 2, .b 2, .s 3, .b 3] rfl (by decide) (Kept.now ?_)))
          exact ⟨i + 1, by omega, take_eq_step hi (by omega) hI (Slot.ext (by grind) (by grind [eqb_true])), rfl⟩
    · have hi := gem hc3
      have hE2 := take_eq_end (a := a.slots) (b := b.slots) (by omega) hi hI
      have hQ := Tree.ext (a := a) (b := b) hE2 hF3.2
      refine Tri.exit ?_
      refine Tri.seq ?_
      refine Tri.region ?_
      refine TriL.c1 rfl (op_as (ltb rfl) rfl) ?_
      refine TriL.nil ?_
      refine Tri.ret ?_
      exact ⟨.inr rfl, (ResOK.r1 rfl (.tmp rfl .nil)).cast (congrArg AV.bool (by have hE := @eqb_true _ a b; have hF := @eqb_false _ a b; grind [eqb_true, eqb_false, Tree.ext])), rfl⟩
theorem r_same (a b : Tree) (hb : a.big) : Pure Tryz.prog 28 [.agg a.cells, .agg b.cells] (.bool (eqb a b)) :=
  Tree.ind (Q := fun a => a.big → ∀ b : Tree, Pure Tryz.prog 28 [.agg a.cells, .agg b.cells] (.bool (eqb a b))) (fun t ih hb b => r_same1 t b hb (fun x hx v hv u hu => ih x hx v hv u hu (hb.sub hu hv hx))) a hb b
theorem r_deep1 (t : Tree) (hb : t.big) (hd : t.deep ≤ 9223372036854775807) (ih : ∀ x ∈ t.slots, ∀ v ∈ x.vals, ∀ u ∈ v.m, Pure Tryz.prog 53 [.agg u.cells] (.int .i64 (u.deep : Int))) : Pure Tryz.prog 53 [.agg t.cells] (.int .i64 (t.deep : Int)) := by
  have hs := hb.here.s
  have hdd := t.deep_eq
  refine Pure.of_tri Tryz.func53 rfl rfl (ltb rfl) fun H => ?_
  refine Tri.seq ?_
  refine Tri.region ?_
  refine TriL.c2 rfl (op_box (ltb rfl) rfl rfl rfl) ?_
  refine TriL.c1 rfl (op_as (ltb rfl) rfl) ?_
  refine TriL.nil ?_
  refine Tri.seq ?_
  refine Tri.region ?_
  refine TriL.c1 rfl (op_as (ltb rfl) rfl) ?_
  refine TriL.nil ?_
  refine Tri.seq ?_
  refine Tri.seq ?_
  refine Tri.region ?_
  refine TriL.c1 rfl (op_as (ltb rfl) rfl) ?_
  refine TriL.nil ?_
  refine Tri.blk ?_
  refine Tri.ofKept (Kept.keep [.s 4, .s 3, .h, .s 1, .b 1] rfl (by decide) (Kept.now ?_))
  -- LOOP 1
  refine Tri.loopk (fun ((j, m0) : Nat × Nat) => [(.s 4, .sv (.v (.int .i64 (j : Int)))), (.s 3, .sv (.v (.int .i64 (m0 : Int))))]) _ (fun ((j, m0) : Nat × Nat) => max m0 (deepS (t.slots.drop j)) = deepS t.slots) (fun ((j, m0) : Nat × Nat) => t.slots.length - j) (0, _) rfl (by simp) ?_
  rintro ⟨j, m0⟩ hI
  refine Tri.seq ?_
  refine Tri.seq ?_
  refine Tri.region ?_
  refine TriL.c1 rfl (op_mv (ltb rfl) rfl) ?_
  refine TriL.c1 rfl (op_fal (ltb rfl) fo32_0_M6 rfl) ?_
  refine TriL.c1 rfl (op_ldl (ltb rfl) lk29_M6 rfl rfl rfl) ?_
  refine TriL.c1 rfl (op_lenl (ltb rfl) un29_M6 rfl) ?_
  refine TriL.c1 rfl (op_bin (ltb rfl) rfl rfl rfl) ?_
  refine TriL.nil ?_
  refine Tri.cond rfl (fun hc1 => ?_) (fun hc1 => ?_)
  · have hj := ltm hc1
    have hS := @deepS_step t.slots j hj
    have hSl := Slot.deep_eq (t.slots[j]'hj)
    have hv := hb.here.v _ (List.getElem_mem hj)
    refine Tri.skip ?_
    refine Tri.seq ?_
    refine Tri.blk ?_
    refine Tri.seq ?_
    refine Tri.region ?_
    refine TriL.c1 rfl (op_as (ltb rfl) rfl) ?_
    refine TriL.nil ?_
    refine Tri.blk ?_
    refine Tri.ofKept (Kept.keep [.s 5, .s 3, .h, .s 1, .b 1, .s 4] rfl (by decide) (Kept.now ?_))
    -- LOOP 2
    refine Tri.loopk (fun ((k, m1) : Nat × Nat) => [(.s 5, .sv (.v (.int .i64 (k : Int)))), (.s 3, .sv (.v (.int .i64 (m1 : Int))))]) _ (fun ((k, m1) : Nat × Nat) => max m1 (deepV ((t.slots[j]'hj).vals.drop k)) = max m0 (t.slots[j]'hj).deep) (fun ((k, m1) : Nat × Nat) => (t.slots[j]'hj).vals.length - k) (0, _) rfl (by rw [hSl]; simp) ?_
    rintro ⟨k, m1⟩ hI
    refine Tri.seq ?_
    refine Tri.seq ?_
    refine Tri.region ?_
    refine TriL.c1 rfl (op_mv (ltb rfl) rfl) ?_
    refine TriL.c1 rfl (op_fal (ltb rfl) fo32_0_M6 rfl) ?_
    refine TriL.c1 rfl (op_ldl (ltb rfl) lk29_M6 rfl rfl rfl) ?_
    refine TriL.c1 rfl (op_mv (ltb rfl) rfl) ?_
    refine TriL.c1 rfl (op_iak (ltb rfl) ie29_M6 rfl rfl (Int.natCast_nonneg _) (ixmE Slot.av_eq hj) rfl) ?_
    refine TriL.c1 rfl (op_fak (ltb rfl) fo83_1_M6 rfl) ?_
    refine TriL.c1 rfl (op_ldk (ltb rfl) lk81_M6 rfl rfl) ?_
    refine TriL.c1 rfl (op_lenl (ltb rfl) un81_M6 rfl) ?_
    refine TriL.c1 rfl (op_bin (ltb rfl) rfl rfl rfl) ?_
    refine TriL.nil ?_
    refine Tri.cond rfl (fun hc2 => ?_) (fun hc2 => ?_)
    · have hk := ltm hc2
      have hT := @deepV_step (t.slots[j]'hj).vals k hk
      have hVl := Val.deep_eq ((t.slots[j]'hj).vals[k]'hk)
      have hm := hb.here.m _ (List.getElem_mem hj) _ (List.getElem_mem hk)
      refine Tri.skip ?_
      refine Tri.seq ?_
      refine Tri.blk ?_
      refine Tri.seq ?_
      refine Tri.region ?_
      refine TriL.c1 rfl (op_as (ltb rfl) rfl) ?_
      refine TriL.nil ?_
      refine Tri.blk ?_
      refine Tri.ofKept (Kept.keep [.s 6, .s 3, .h, .s 1, .b 1, .s 4, .s 5] rfl (by decide) (Kept.now ?_))
      -- LOOP 3
      refine Tri.loopk (fun ((l, m2) : Nat × Nat) => [(.s 6, .sv (.v (.int .i64 (l : Int)))), (.s 3, .sv (.v (.int .i64 (m2 : Int))))]) _ (fun ((l, m2) : Nat × Nat) => max m2 (deepT (((t.slots[j]'hj).vals[k]'hk).m.drop l)) = max m1 ((t.slots[j]'hj).vals[k]'hk).deep) (fun ((l, m2) : Nat × Nat) => ((t.slots[j]'hj).vals[k]'hk).m.length - l) (0, _) rfl (by rw [hVl]; simp) ?_
      rintro ⟨l, m2⟩ hI
      refine Tri.seq ?_
      refine Tri.seq ?_
      refine Tri.region ?_
      refine TriL.c1 rfl (op_mv (ltb rfl) rfl) ?_
      refine TriL.c1 rfl (op_fal (ltb rfl) fo32_0_M6 rfl) ?_
      refine TriL.c1 rfl (op_ldl (ltb rfl) lk29_M6 rfl rfl rfl) ?_
      refine TriL.c1 rfl (op_mv (ltb rfl) rfl) ?_
      refine TriL.c1 rfl (op_iak (ltb rfl) ie29_M6 rfl rfl (Int.natCast_nonneg _) (ixmE Slot.av_eq hj) rfl) ?_
      refine TriL.c1 rfl (op_fak (ltb rfl) fo83_1_M6 rfl) ?_
      refine TriL.c1 rfl (op_ldk (ltb rfl) lk81_M6 rfl rfl) ?_
      refine TriL.c1 rfl (op_mv (ltb rfl) rfl) ?_
      refine TriL.c1 rfl (op_iak (ltb rfl) ie81_M6 rfl rfl (Int.natCast_nonneg _) (ixmE Val.av_eq hk) rfl) ?_
      refine TriL.c1 rfl (op_fak (ltb rfl) fo86_2_M6 rfl) ?_
      refine TriL.c1 rfl (op_ldk (ltb rfl) lk63_M6 rfl rfl) ?_
      refine TriL.c1 rfl (op_lenl (ltb rfl) un63_M6 rfl) ?_
      refine TriL.c1 rfl (op_bin (ltb rfl) rfl rfl rfl) ?_
      refine TriL.nil ?_
      refine Tri.cond rfl (fun hc3 => ?_) (fun hc3 => ?_)
      · have hl := ltm hc3
        have hU := @deepT_step ((t.slots[j]'hj).vals[k]'hk).m l hl
        refine Tri.skip ?_
        refine Tri.seq ?_
        refine Tri.blk ?_
        refine Tri.region ?_
        refine TriL.c1 rfl (op_mv (ltb rfl) rfl) ?_
        refine TriL.c1 rfl (op_fal (ltb rfl) fo32_0_M6 rfl) ?_
        refine TriL.c1 rfl (op_ldl (ltb rfl) lk29_M6 rfl rfl rfl) ?_
        refine TriL.c1 rfl (op_mv (ltb rfl) rfl) ?_
        refine TriL.c1 rfl (op_iak (ltb rfl) ie29_M6 rfl rfl (Int.natCast_nonneg _) (ixmE Slot.av_eq hj) rfl) ?_
        refine TriL.c1 rfl (op_fak (ltb rfl) fo83_1_M6 rfl) ?_
        refine TriL.c1 rfl (op_ldk (ltb rfl) lk81_M6 rfl rfl) ?_
        refine TriL.c1 rfl (op_mv (ltb rfl) rfl) ?_
        refine TriL.c1 rfl (op_iak (ltb rfl) ie81_M6 rfl rfl (Int.natCast_nonneg _) (ixmE Val.av_eq hk) rfl) ?_
        refine TriL.c1 rfl (op_fak (ltb rfl) fo86_2_M6 rfl) ?_
        refine TriL.c1 rfl (op_ldk (ltb rfl) lk63_M6 rfl rfl) ?_
        refine TriL.c1 rfl (op_mv (ltb rfl) rfl) ?_
        refine TriL.c1 rfl (op_iak (ltb rfl) ie63_M6 rfl rfl (Int.natCast_nonneg _) (ixmE Tree.av_eq hl) rfl) ?_
        refine TriL.c1 rfl (op_ldk (ltb rfl) lk32_M6 rfl rfl) ?_
        refine TriL.c1 rfl (op_call (ltb rfl) fn53_M6 rfl (ih _ (List.getElem_mem hj) _ (List.getElem_mem hk) _ (List.getElem_mem hl))) ?_
        refine TriL.c1 rfl (op_maxi (ltb rfl) rfl rfl) ?_
        refine TriL.c1 rfl (op_as (ltb rfl) rfl) ?_
        refine TriL.nil ?_
        refine Tri.region ?_
        refine TriL.c1 rfl (op_mv (ltb rfl) rfl) ?_
        refine TriL.c1 rfl (op_bin (ltb rfl) rfl rfl rfl) ?_
        refine TriL.c1 rfl (op_as (ltb rfl) rfl) ?_
        refine TriL.kept (Kept.seti 3 rfl (show (if ((((t.slots[j]'hj).vals[k]'hk).m[l]'hl).deep : Int) > (m2 : Int) then ((((t.slots[j]'hj).vals[k]'hk).m[l]'hl).deep : Int) else (m2 : Int)) = ((max m2 (((t.slots[j]'hj).vals[k]'hk).m[l]'hl).deep : Nat) : Int) by omega) (Kept.seti 6 rfl (inc (by omega)) (Kept.keep [.s 6, .s 3, .h, .s 1, .b 1, .s 4, .s 5] rfl (by decide) (Kept.now ?_))))
        exact ⟨(l + 1, _), (by dsimp only; omega), by grind, rfl⟩
      · have hl := gem hc3
        have hU := @deepT_end ((t.slots[j]'hj).vals[k]'hk).m l hl
        refine Tri.exit ?_
        refine Tri.region ?_
        refine TriL.c1 rfl (op_mv (ltb rfl) rfl) ?_
        refine TriL.c1 rfl (op_bin (ltb rfl) rfl rfl rfl) ?_
        refine TriL.c1 rfl (op_as (ltb rfl) rfl) ?_
        refine TriL.kept (Kept.seti 5 rfl (inc (by omega)) (Kept.keep [.s 5, .s 3, .h, .s 1, .b 1, .s 4] rfl (by decide) (Kept.now ?_)))
        exact ⟨(k + 1, _), (by dsimp only; omega), by grind, rfl⟩
    · have hk := gem hc2
      have hT := @deepV_end (t.slots[j]'hj).vals k hk
      refine Tri.exit ?_
      refine Tri.region ?_
      refine TriL.c1 rfl (op_mv (ltb rfl) rfl) ?_
      refine TriL.c1 rfl (op_bin (ltb rfl) rfl rfl rfl) ?_
      refine TriL.c1 rfl (op_as (ltb rfl) rfl) ?_
      refine TriL.kept (Kept.seti 4 rfl (inc (by omega)) (Kept.keep [.s 4, .s 3, .h, .s 1, .b 1] rfl (by decide) (Kept.now ?_)))
      exact ⟨(j + 1, _), (by dsimp only; omega), by grind, rfl⟩
  · have hj := gem hc1
    have hS := @deepS_end t.slots j hj
    refine Tri.exit ?_
    refine Tri.seq ?_
    refine Tri.region ?_
    refine TriL.c1 rfl (op_mv (ltb rfl) rfl) ?_
    refine TriL.c1 rfl (op_bin (ltb rfl) rfl rfl rfl) ?_
    refine TriL.c1 rfl (op_as (ltb rfl) rfl) ?_
    refine TriL.nil ?_
    refine Tri.ret ?_
    exact ⟨.inr rfl, (ResOK.r1 rfl (.tmp rfl .nil)).cast (congrArg (AV.int .i64) (by rw [inc (by omega)]; omega)), rfl⟩
end Go.Proofs.YtnpgcmeclkncnaaGreatDoor.X
/- numbers of types, in the program and in the document. -/
set_option linter.unusedVariables false
set_option linter.unusedSimpArgs false
set_option linter.unusedSectionVars false
set_option maxRecDepth 100000
namespace Go.Proofs.YtnpgcmeclkncnaaGreatDoor.X
open Go Go.RowKit Go.Proofs
theorem asz264_M7 : asz Tryz.prog 264 = some (16, 3, 1) := by kernel_rfl
theorem fn124_M7 : isFn Tryz.prog 124 = true := by kernel_rfl
theorem fn173_M7 : isFn Tryz.prog 173 = true := by kernel_rfl
theorem fn186_M7 : isFn Tryz.prog 186 = true := by kernel_rfl
theorem fn196_M7 : isFn Tryz.prog 196 = true := by kernel_rfl
theorem fn197_M7 : isFn Tryz.prog 197 = true := by kernel_rfl
theorem fn198_M7 : isFn Tryz.prog 198 = true := by kernel_rfl
theorem fn203_M7 : isFn Tryz.prog 203 = true := by kernel_rfl
theorem fn213_M7 : isFn Tryz.prog 213 = true := by kernel_rfl
theorem fn214_M7 : isFn Tryz.prog 214 = true := by kernel_rfl
theorem fn215_M7 : isFn Tryz.prog 215 = true := by kernel_rfl
theorem fn222_M7 : isFn Tryz.prog 222 = true := by kernel_rfl
theorem fn223_M7 : isFn Tryz.prog 223 = true := by kernel_rfl
theorem fn224_M7 : isFn Tryz.prog 224 = true := by kernel_rfl
theorem fn228_M7 : isFn Tryz.prog 228 = true := by kernel_rfl
theorem fn229_M7 : isFn Tryz.prog 229 = true := by kernel_rfl
theorem fn230_M7 : isFn Tryz.prog 230 = true := by kernel_rfl
theorem fn231_M7 : isFn Tryz.prog 231 = true := by kernel_rfl
theorem lk3_M7 : lk Tryz.prog 3 = some (false, 1) := by kernel_rfl
theorem un2_M7 : Tryz.prog.underlying 2 = some (TypeDesc.int IntKind.i64) := Tryz.underlying2
theorem un21_M7 : Tryz.prog.underlying 21 = some (TypeDesc.int IntKind.i32) := Tryz.underlying21
theorem un235_M7 : Tryz.prog.underlying 235 = some (TypeDesc.int IntKind.u32) := Tryz.underlying235
theorem un272_M7 : Tryz.prog.underlying 272 = some (TypeDesc.int IntKind.u64) := Tryz.underlying272
theorem un84_M7 : Tryz.prog.underlying 84 = some (TypeDesc.int IntKind.u64) := Tryz.underlying84
theorem zA264_M7 : zeroA Tryz.prog 264 = some [AV.int IntKind.i64 (0), AV.int IntKind.i64 (0), AV.int IntKind.i64 (0), AV.int IntKind.i64 (0), AV.int IntKind.i64 (0), AV.int IntKind.i64 (0), AV.int IntKind.i64 (0), AV.int IntKind.i64 (0), AV.int IntKind.i64 (0), AV.int IntKind.i64 (0), AV.int IntKind.i64 (0), AV.int IntKind.i64 (0), AV.int IntKind.i64 (0), AV.int IntKind.i64 (0), AV.int IntKind.i64 (0), AV.int IntKind.i64 (0)] := by kernel_rfl
theorem r_fits (z : Int) : Pure Tryz.prog 198 [.int .i64 z] (.bool (fitsT z)) := by
  refine Pure.of_tri Tryz.func198 rfl rfl (ltb rfl) fun H => ?_
  refine Tri.seq ?_
  refine Tri.region ?_
  refine TriL.c1 rfl (op_as (ltb rfl) rfl) ?_
  refine TriL.nil ?_
  refine Tri.seq ?_
  refine Tri.region ?_
  refine TriL.c1 rfl (op_mv (ltb rfl) rfl) ?_
  refine TriL.c1 rfl (op_bin (ltb rfl) rfl rfl rfl) ?_
  refine TriL.c1 rfl (op_mv (ltb rfl) rfl) ?_
  refine TriL.split (d := 5) rfl (fun hg1 => ?_) (fun hg1 => ?_)
  · refine TriL.g1 rfl (ltb rfl) rfl hg1 (op_mv (ltb rfl) rfl) ?_
    refine TriL.g1 rfl (ltb rfl) rfl hg1 (op_bin (ltb rfl) rfl rfl rfl) ?_
    refine TriL.c1 rfl (op_pickt (ltb rfl) rfl hg1 rfl) ?_
    refine TriL.c1 rfl (op_as (ltb rfl) rfl) ?_
    refine TriL.nil ?_
    refine Tri.ret ?_
    exact ⟨.inr rfl, (ResOK.r1 rfl (.tmp rfl .nil)).cast (congrArg AV.bool (by grind [fitsT])), rfl⟩
  · refine TriL.skipu rfl rfl (ltb rfl) (ltb rfl) rfl hg1 ?_
    refine TriL.skipu rfl rfl (ltb rfl) (ltb rfl) rfl hg1 ?_
    refine TriL.c1 rfl (op_pickf (ltb rfl) rfl hg1 rfl) ?_
    refine TriL.c1 rfl (op_as (ltb rfl) rfl) ?_
    refine TriL.nil ?_
    refine Tri.ret ?_
    exact ⟨.inr rfl, (ResOK.r1 rfl (.tmp rfl .nil)).cast (congrArg AV.bool (by grind [fitsT])), rfl⟩
theorem r_may (t : Int) (n : Nat) : Pure Tryz.prog 161 [.int .i64 t, .int .u64 (n : Int)] (.bool (mayT t n)) := by
  refine Pure.of_tri Tryz.func161 rfl rfl (ltb rfl) fun H => ?_
  refine Tri.seq ?_
  refine Tri.region ?_
  refine TriL.c1 rfl (op_as (ltb rfl) rfl) ?_
  refine TriL.nil ?_
  refine Tri.seq ?_
  refine Tri.seq ?_
  refine Tri.region ?_
  refine TriL.c1 rfl (op_mv (ltb rfl) rfl) ?_
  refine TriL.c1 rfl (op_bin (ltb rfl) rfl rfl rfl) ?_
  refine TriL.c1 rfl (op_mv (ltb rfl) rfl) ?_
  refine TriL.split (d := 7) rfl (fun hg1 => ?_) (fun hg1 => ?_)
  · refine TriL.skipu rfl rfl (ltb rfl) (ltb rfl) rfl hg1 ?_
    refine TriL.skipu rfl rfl (ltb rfl) (ltb rfl) rfl hg1 ?_
    refine TriL.c1 rfl (op_pickt (ltb rfl) rfl hg1 rfl) ?_
    refine TriL.nil ?_
    refine Tri.condT rfl rfl ?_
    refine Tri.seq ?_
    refine Tri.region ?_
    refine TriL.c1 rfl (op_as (ltb rfl) rfl) ?_
    refine TriL.nil ?_
    refine Tri.ret ?_
    exact ⟨.inr rfl, (ResOK.r1 rfl (.tmp rfl .nil)).cast (congrArg AV.bool (by grind [mayT, s64, fitsT])), rfl⟩
  · refine TriL.g1 rfl (ltb rfl) rfl hg1 (op_mv (ltb rfl) rfl) ?_
    refine TriL.g1 rfl (ltb rfl) rfl hg1 (op_bin (ltb rfl) rfl rfl rfl) ?_
    refine TriL.c1 rfl (op_pickf (ltb rfl) rfl hg1 rfl) ?_
    refine TriL.nil ?_
    refine Tri.cond rfl (fun hc2 => ?_) (fun hc2 => ?_)
    · refine Tri.seq ?_
      refine Tri.region ?_
      refine TriL.c1 rfl (op_as (ltb rfl) rfl) ?_
      refine TriL.nil ?_
      refine Tri.ret ?_
      exact ⟨.inr rfl, (ResOK.r1 rfl (.tmp rfl .nil)).cast (congrArg AV.bool (by grind [mayT, s64, fitsT])), rfl⟩
    · refine Tri.skip ?_
      refine Tri.seq ?_
      refine Tri.seq ?_
      refine Tri.region ?_
      refine TriL.c1 rfl (op_mv (ltb rfl) rfl) ?_
      refine TriL.c1 rfl (op_call (ltb rfl) fn196_M7 rfl (r_wideT _)) ?_
      refine TriL.nil ?_
      refine Tri.cond rfl (fun hc3 => ?_) (fun hc3 => ?_)
      · refine Tri.seq ?_
        refine Tri.region ?_
        refine TriL.c1 rfl (op_as (ltb rfl) rfl) ?_
        refine TriL.nil ?_
        refine Tri.ret ?_
        exact ⟨.inr rfl, (ResOK.r1 rfl (.tmp rfl .nil)).cast (congrArg AV.bool (by grind [mayT, s64, fitsT])), rfl⟩
      · refine Tri.skip ?_
        refine Tri.seq ?_
        refine Tri.seq ?_
        refine Tri.region ?_
        refine TriL.c1 rfl (op_mv (ltb rfl) rfl) ?_
        refine TriL.c1 rfl (op_call (ltb rfl) fn197_M7 rfl (r_signT _)) ?_
        refine TriL.nil ?_
        refine Tri.cond rfl (fun hc4 => ?_) (fun hc4 => ?_)
        · refine Tri.seq ?_
          refine Tri.region ?_
          refine TriL.c1 rfl (op_mv (ltb rfl) rfl) ?_
          refine TriL.c1 rfl (op_cvi (ltb rfl) un84_M7 un2_M7 rfl) ?_
          refine TriL.c1 rfl (op_call (ltb rfl) fn198_M7 rfl (r_fits _)) ?_
          refine TriL.c1 rfl (op_as (ltb rfl) rfl) ?_
          refine TriL.nil ?_
          refine Tri.ret ?_
          exact ⟨.inr rfl, (ResOK.r1 rfl (.tmp rfl .nil)).cast (congrArg AV.bool (by grind [mayT, s64, fitsT])), rfl⟩
        · refine Tri.skip ?_
          refine Tri.seq ?_
          refine Tri.seq ?_
          refine Tri.region ?_
          refine TriL.c1 rfl (op_mv (ltb rfl) rfl) ?_
          refine TriL.c1 rfl (op_bin (ltb rfl) rfl rfl rfl) ?_
          refine TriL.c1 rfl (op_mv (ltb rfl) rfl) ?_
          refine TriL.split (d := 20) rfl (fun hg5 => ?_) (fun hg5 => ?_)
          · refine TriL.skipu rfl rfl (ltb rfl) (ltb rfl) rfl hg5 ?_
            refine TriL.skipu rfl rfl (ltb rfl) (ltb rfl) rfl hg5 ?_
            refine TriL.c1 rfl (op_pickt (ltb rfl) rfl hg5 rfl) ?_
            refine TriL.nil ?_
            refine Tri.condT rfl rfl ?_
            refine Tri.seq ?_
            refine Tri.region ?_
            refine TriL.c1 rfl (op_mv (ltb rfl) rfl) ?_
            refine TriL.c1 rfl (op_bin (ltb rfl) rfl rfl rfl) ?_
            refine TriL.c1 rfl (op_as (ltb rfl) rfl) ?_
            refine TriL.nil ?_
            refine Tri.ret ?_
            exact ⟨.inr rfl, (ResOK.r1 rfl (.tmp rfl .nil)).cast (congrArg AV.bool (by grind [mayT, s64, fitsT])), rfl⟩
          · refine TriL.g1 rfl (ltb rfl) rfl hg5 (op_mv (ltb rfl) rfl) ?_
            refine TriL.g1 rfl (ltb rfl) rfl hg5 (op_bin (ltb rfl) rfl rfl rfl) ?_
            refine TriL.c1 rfl (op_pickf (ltb rfl) rfl hg5 rfl) ?_
            refine TriL.nil ?_
            refine Tri.cond rfl (fun hc6 => ?_) (fun hc6 => ?_)
            · refine Tri.seq ?_
              refine Tri.region ?_
              refine TriL.c1 rfl (op_mv (ltb rfl) rfl) ?_
              refine TriL.c1 rfl (op_bin (ltb rfl) rfl rfl rfl) ?_
              refine TriL.c1 rfl (op_as (ltb rfl) rfl) ?_
              refine TriL.nil ?_
              refine Tri.ret ?_
              exact ⟨.inr rfl, (ResOK.r1 rfl (.tmp rfl .nil)).cast (congrArg AV.bool (by grind [mayT, s64, fitsT])), rfl⟩
            · refine Tri.skip ?_
              refine Tri.seq ?_
              refine Tri.seq ?_
              refine Tri.region ?_
              refine TriL.c1 rfl (op_mv (ltb rfl) rfl) ?_
              refine TriL.c1 rfl (op_bin (ltb rfl) rfl rfl rfl) ?_
              refine TriL.nil ?_
              refine Tri.cond rfl (fun hc7 => ?_) (fun hc7 => ?_)
              · refine Tri.seq ?_
                refine Tri.region ?_
                refine TriL.c1 rfl (op_mv (ltb rfl) rfl) ?_
                refine TriL.c1 rfl (op_bin (ltb rfl) rfl rfl rfl) ?_
                refine TriL.c1 rfl (op_as (ltb rfl) rfl) ?_
                refine TriL.nil ?_
                refine Tri.ret ?_
                exact ⟨.inr rfl, (ResOK.r1 rfl (.tmp rfl .nil)).cast (congrArg AV.bool (by grind [mayT, s64, fitsT])), rfl⟩
              · refine Tri.skip ?_
                refine Tri.seq ?_
                refine Tri.region ?_
                refine TriL.c1 rfl (op_mv (ltb rfl) rfl) ?_
                refine TriL.c1 rfl (op_bin (ltb rfl) rfl rfl rfl) ?_
                refine TriL.c1 rfl (op_as (ltb rfl) rfl) ?_
                refine TriL.nil ?_
                refine Tri.ret ?_
                exact ⟨.inr rfl, (ResOK.r1 rfl (.tmp rfl .nil)).cast (congrArg AV.bool (by grind [mayT, s64, fitsT])), rfl⟩
theorem r_zig (z : Int) (h0 : -9223372036854775808 ≤ z) (h1 : z < 9223372036854775808) : Pure Tryz.prog 186 [.int .i64 z] (.int .u64 (zigT z : Int)) := by
  refine Pure.of_tri Tryz.func186 rfl rfl (ltb rfl) fun H => ?_
  refine Tri.seq ?_
  refine Tri.region ?_
  refine TriL.c1 rfl (op_as (ltb rfl) rfl) ?_
  refine TriL.nil ?_
  refine Tri.seq ?_
  refine Tri.seq ?_
  refine Tri.region ?_
  refine TriL.c1 rfl (op_mv (ltb rfl) rfl) ?_
  refine TriL.c1 rfl (op_bin (ltb rfl) rfl rfl rfl) ?_
  refine TriL.nil ?_
  refine Tri.cond rfl (fun hc1 => ?_) (fun hc1 => ?_)
  · refine Tri.seq ?_
    refine Tri.region ?_
    refine TriL.c1 rfl (op_mv (ltb rfl) rfl) ?_
    refine TriL.c1 rfl (op_cvi (ltb rfl) un2_M7 un84_M7 rfl) ?_
    refine TriL.c1 rfl (op_bin (ltb rfl) rfl rfl rfl) ?_
    refine TriL.c1 rfl (op_as (ltb rfl) rfl) ?_
    refine TriL.nil ?_
    refine Tri.ret ?_
    exact ⟨.inr rfl, (ResOK.r1 rfl (.tmp rfl .nil)).cast (congrArg (AV.int .u64) (by rw [zigT, if_pos (of_decide_eq_true hc1)]; have := of_decide_eq_true hc1; simp only [IntKind.wrap, IntKind.bits, IntKind.signed]; simp; omega)), rfl⟩
  · refine Tri.skip ?_
    refine Tri.seq ?_
    refine Tri.region ?_
    refine TriL.c1 rfl (op_mv (ltb rfl) rfl) ?_
    refine TriL.c1 rfl (op_bin (ltb rfl) rfl rfl rfl) ?_
    refine TriL.c1 rfl (op_un (ltb rfl) rfl rfl) ?_
    refine TriL.c1 rfl (op_cvi (ltb rfl) un2_M7 un84_M7 rfl) ?_
    refine TriL.c1 rfl (op_bin (ltb rfl) rfl rfl rfl) ?_
    refine TriL.c1 rfl (op_bin (ltb rfl) rfl rfl rfl) ?_
    refine TriL.c1 rfl (op_as (ltb rfl) rfl) ?_
    refine TriL.nil ?_
    refine Tri.ret ?_
    exact ⟨.inr rfl, (ResOK.r1 rfl (.tmp rfl .nil)).cast (congrArg (AV.int .u64) (by rw [zigT, if_neg (of_decide_eq_false hc1)]; have := of_decide_eq_false hc1; simp only [IntKind.wrap, IntKind.bits, IntKind.signed]; simp; omega)), rfl⟩
theorem r_to (t : Int) (n : Nat) (hn : n < 18446744073709551616) : Pure Tryz.prog 139 [.int .i64 t, .int .u64 (n : Int)] (.int .u64 (toT t n : Int)) := by
  have := s64_range hn
  refine Pure.of_tri Tryz.func139 rfl rfl (ltb rfl) fun H => ?_
  refine Tri.seq ?_
  refine Tri.region ?_
  refine TriL.c1 rfl (op_as (ltb rfl) rfl) ?_
  refine TriL.nil ?_
  refine Tri.seq ?_
  refine Tri.seq ?_
  refine Tri.region ?_
  refine TriL.c1 rfl (op_mv (ltb rfl) rfl) ?_
  refine TriL.nil ?_
  refine Tri.blk ?_
  refine Tri.seq ?_
  refine Tri.seq ?_
  refine Tri.region ?_
  refine TriL.c1 rfl (op_bin (ltb rfl) rfl rfl rfl) ?_
  refine TriL.c1 rfl (op_as (ltb rfl) rfl) ?_
  refine TriL.nil ?_
  refine Tri.cond rfl (fun hc1 => ?_) (fun hc1 => ?_)
  · refine Tri.skip ?_
    refine Tri.condT rfl hc1 ?_
    refine Tri.seq ?_
    refine Tri.region ?_
    refine TriL.c1 rfl (op_mv (ltb rfl) rfl) ?_
    refine TriL.c1 rfl (op_bin (ltb rfl) rfl rfl rfl) ?_
    refine TriL.c1 rfl (op_as (ltb rfl) rfl) ?_
    refine TriL.nil ?_
    refine Tri.ret ?_
    exact ⟨.inr rfl, (ResOK.r1 rfl (.tmp rfl .nil)).cast (congrArg (AV.int .u64) (by grind [toT, s64])), rfl⟩
  · refine Tri.seq ?_
    refine Tri.region ?_
    refine TriL.c1 rfl (op_bin (ltb rfl) rfl rfl rfl) ?_
    refine TriL.c1 rfl (op_as (ltb rfl) rfl) ?_
    refine TriL.nil ?_
    refine Tri.cond rfl (fun hc2 => ?_) (fun hc2 => ?_)
    · refine Tri.skip ?_
      refine Tri.condT rfl hc2 ?_
      refine Tri.seq ?_
      refine Tri.region ?_
      refine TriL.c1 rfl (op_mv (ltb rfl) rfl) ?_
      refine TriL.c1 rfl (op_bin (ltb rfl) rfl rfl rfl) ?_
      refine TriL.c1 rfl (op_as (ltb rfl) rfl) ?_
      refine TriL.nil ?_
      refine Tri.ret ?_
      exact ⟨.inr rfl, (ResOK.r1 rfl (.tmp rfl .nil)).cast (congrArg (AV.int .u64) (by grind [toT, s64])), rfl⟩
    · -- region 4 ref.go:35
      refine Tri.region ?_
      refine TriL.c1 rfl (op_bin (ltb rfl) rfl rfl rfl) ?_
      refine TriL.c1 rfl (op_as (ltb rfl) rfl) ?_
      refine TriL.nil ?_
      refine Tri.cond rfl (fun hc3 => ?_) (fun hc3 => ?_)
      · refine Tri.seq ?_
        refine Tri.region ?_
        refine TriL.c1 rfl (op_mv (ltb rfl) rfl) ?_
        refine TriL.c1 rfl (op_bin (ltb rfl) rfl rfl rfl) ?_
        refine TriL.c1 rfl (op_as (ltb rfl) rfl) ?_
        refine TriL.nil ?_
        refine Tri.ret ?_
        exact ⟨.inr rfl, (ResOK.r1 rfl (.tmp rfl .nil)).cast (congrArg (AV.int .u64) (by grind [toT, s64])), rfl⟩
      · refine Tri.seq ?_
        refine Tri.seq ?_
        refine Tri.region ?_
        refine TriL.c1 rfl (op_bin (ltb rfl) rfl rfl rfl) ?_
        refine TriL.c1 rfl (op_as (ltb rfl) rfl) ?_
        refine TriL.nil ?_
        refine Tri.cond rfl (fun hc4 => ?_) (fun hc4 => ?_)
        · refine Tri.skip ?_
          refine Tri.condT rfl hc4 ?_
          refine Tri.seq ?_
          refine Tri.region ?_
          refine TriL.c1 rfl (op_mv (ltb rfl) rfl) ?_
          refine TriL.c1 rfl (op_cvi (ltb rfl) un84_M7 un2_M7 rfl) ?_
          refine TriL.c1 rfl (op_call (ltb rfl) fn186_M7 rfl (r_zig _ this.1 this.2)) ?_
          refine TriL.c1 rfl (op_as (ltb rfl) rfl) ?_
          refine TriL.nil ?_
          refine Tri.ret ?_
          exact ⟨.inr rfl, (ResOK.r1 rfl (.tmp rfl .nil)).cast (congrArg (AV.int .u64) (by grind [toT, s64])), rfl⟩
        · -- region 7 ref.go:37
          refine Tri.region ?_
          refine TriL.c1 rfl (op_bin (ltb rfl) rfl rfl rfl) ?_
          refine TriL.c1 rfl (op_as (ltb rfl) rfl) ?_
          refine TriL.nil ?_
          refine Tri.cond rfl (fun hc5 => ?_) (fun hc5 => ?_)
          · refine Tri.seq ?_
            refine Tri.region ?_
            refine TriL.c1 rfl (op_mv (ltb rfl) rfl) ?_
            refine TriL.c1 rfl (op_cvi (ltb rfl) un84_M7 un2_M7 rfl) ?_
            refine TriL.c1 rfl (op_call (ltb rfl) fn186_M7 rfl (r_zig _ this.1 this.2)) ?_
            refine TriL.c1 rfl (op_as (ltb rfl) rfl) ?_
            refine TriL.nil ?_
            refine Tri.ret ?_
            exact ⟨.inr rfl, (ResOK.r1 rfl (.tmp rfl .nil)).cast (congrArg (AV.int .u64) (by grind [toT, s64])), rfl⟩
          · refine Tri.skip ?_
            refine Tri.seq ?_
            refine Tri.seq ?_
            refine Tri.region ?_
            refine TriL.c1 rfl (op_mv (ltb rfl) rfl) ?_
            refine TriL.c1 rfl (op_call (ltb rfl) fn124_M7 rfl (r_numT _)) ?_
            refine TriL.nil ?_
            refine Tri.cond rfl (fun hc6 => ?_) (fun hc6 => ?_)
            · refine Tri.seq ?_
              refine Tri.region ?_
              refine TriL.c1 rfl (op_mv (ltb rfl) rfl) ?_
              refine TriL.c1 rfl (op_as (ltb rfl) rfl) ?_
              refine TriL.nil ?_
              refine Tri.ret ?_
              exact ⟨.inr rfl, (ResOK.r1 rfl (.tmp rfl .nil)).cast (congrArg (AV.int .u64) (by grind [toT, s64])), rfl⟩
            · refine Tri.skip ?_
              refine Tri.seq ?_
              refine Tri.region ?_
              refine TriL.c1 rfl (op_as (ltb rfl) rfl) ?_
              refine TriL.nil ?_
              refine Tri.ret ?_
              exact ⟨.inr rfl, (ResOK.r1 rfl (.tmp rfl .nil)).cast (congrArg (AV.int .u64) (by grind [toT, s64])), rfl⟩
theorem p_kind (t : Int) : Pure Tryz.prog 203 [.int .i64 t] (.int .i64 (kindT t)) := by
  refine Pure.of_tri Tryz.func203 rfl rfl (ltb rfl) fun H => ?_
  refine Tri.seq ?_
  refine Tri.region ?_
  refine TriL.c1 rfl (op_as (ltb rfl) rfl) ?_
  refine TriL.nil ?_
  refine Tri.seq ?_
  refine Tri.seq ?_
  refine Tri.region ?_
  refine TriL.c1 rfl (op_mv (ltb rfl) rfl) ?_
  refine TriL.c1 rfl (op_bin (ltb rfl) rfl rfl rfl) ?_
  refine TriL.c1 rfl (op_mv (ltb rfl) rfl) ?_
  refine TriL.split (d := 5) rfl (fun hg1 => ?_) (fun hg1 => ?_)
  · refine TriL.skipu rfl rfl (ltb rfl) (ltb rfl) rfl hg1 ?_
    refine TriL.skipu rfl rfl (ltb rfl) (ltb rfl) rfl hg1 ?_
    refine TriL.c1 rfl (op_pickt (ltb rfl) rfl hg1 rfl) ?_
    refine TriL.nil ?_
    refine Tri.condT rfl rfl ?_
    refine Tri.seq ?_
    refine Tri.region ?_
    refine TriL.c1 rfl (op_as (ltb rfl) rfl) ?_
    refine TriL.nil ?_
    refine Tri.ret ?_
    exact ⟨.inr rfl, (ResOK.r1 rfl (.tmp rfl .nil)).cast (congrArg (AV.int .i64) (by grind [kindT_out])), rfl⟩
  · refine TriL.g1 rfl (ltb rfl) rfl hg1 (op_mv (ltb rfl) rfl) ?_
    refine TriL.g1 rfl (ltb rfl) rfl hg1 (op_bin (ltb rfl) rfl rfl rfl) ?_
    refine TriL.c1 rfl (op_pickf (ltb rfl) rfl hg1 rfl) ?_
    refine TriL.nil ?_
    refine Tri.cond rfl (fun hc2 => ?_) (fun hc2 => ?_)
    · refine Tri.seq ?_
      refine Tri.region ?_
      refine TriL.c1 rfl (op_as (ltb rfl) rfl) ?_
      refine TriL.nil ?_
      refine Tri.ret ?_
      exact ⟨.inr rfl, (ResOK.r1 rfl (.tmp rfl .nil)).cast (congrArg (AV.int .i64) (by grind [kindT_out])), rfl⟩
    · refine Tri.skip ?_
      refine Tri.seq ?_
      refine Tri.region ?_
      refine TriL.c1 rfl (op_blda (ltb rfl) asz264_M7 zA264_M7 rfl rfl) ?_
      refine TriL.c1 rfl (op_mv (ltb rfl) rfl) ?_
      refine TriL.c1 rfl (op_ixa (ltb rfl) asz264_M7 lk3_M7 rfl rfl (by grind) (by grind) (kind_cell (by grind) (by grind))) ?_
      refine TriL.c1 rfl (op_as (ltb rfl) rfl) ?_
      refine TriL.nil ?_
      refine Tri.ret ?_
      exact ⟨.inr rfl, (ResOK.r1 rfl (.tmp rfl .nil)).cast (congrArg (AV.int .i64) (by grind [kindT_out])), rfl⟩
theorem p_numT (t : Int) : Pure Tryz.prog 173 [.int .i64 t] (.bool (numT t)) := by
  refine Pure.of_tri Tryz.func173 rfl rfl (ltb rfl) fun H => ?_
  refine Tri.seq ?_
  refine Tri.region ?_
  refine TriL.c1 rfl (op_as (ltb rfl) rfl) ?_
  refine TriL.nil ?_
  refine Tri.seq ?_
  refine Tri.region ?_
  refine TriL.c1 rfl (op_mv (ltb rfl) rfl) ?_
  refine TriL.c1 rfl (op_call (ltb rfl) fn203_M7 rfl (p_kind _)) ?_
  refine TriL.c1 rfl (op_bin (ltb rfl) rfl rfl rfl) ?_
  refine TriL.c1 rfl (op_bin (ltb rfl) rfl rfl rfl) ?_
  refine TriL.c1 rfl (op_as (ltb rfl) rfl) ?_
  refine TriL.nil ?_
  refine Tri.ret ?_
  exact ⟨.inr rfl, (ResOK.r1 rfl (.tmp rfl .nil)).cast (congrArg AV.bool (kind_num t)), rfl⟩
theorem p_wholeT (t : Int) : Pure Tryz.prog 214 [.int .i64 t] (.bool (wholeT t)) := by
  refine Pure.of_tri Tryz.func214 rfl rfl (ltb rfl) fun H => ?_
  refine Tri.seq ?_
  refine Tri.region ?_
  refine TriL.c1 rfl (op_as (ltb rfl) rfl) ?_
  refine TriL.nil ?_
  refine Tri.seq ?_
  refine Tri.region ?_
  refine TriL.c1 rfl (op_mv (ltb rfl) rfl) ?_
  refine TriL.c1 rfl (op_call (ltb rfl) fn203_M7 rfl (p_kind _)) ?_
  refine TriL.c1 rfl (op_bin (ltb rfl) rfl rfl rfl) ?_
  refine TriL.c1 rfl (op_bin (ltb rfl) rfl rfl rfl) ?_
  refine TriL.c1 rfl (op_as (ltb rfl) rfl) ?_
  refine TriL.nil ?_
  refine Tri.ret ?_
  exact ⟨.inr rfl, (ResOK.r1 rfl (.tmp rfl .nil)).cast (congrArg AV.bool (kind_whole t)), rfl⟩
theorem p_signT (t : Int) : Pure Tryz.prog 215 [.int .i64 t] (.bool (signT t)) := by
  refine Pure.of_tri Tryz.func215 rfl rfl (ltb rfl) fun H => ?_
  refine Tri.seq ?_
  refine Tri.region ?_
  refine TriL.c1 rfl (op_as (ltb rfl) rfl) ?_
  refine TriL.nil ?_
  refine Tri.seq ?_
  refine Tri.region ?_
  refine TriL.c1 rfl (op_mv (ltb rfl) rfl) ?_
  refine TriL.c1 rfl (op_call (ltb rfl) fn203_M7 rfl (p_kind _)) ?_
  refine TriL.c1 rfl (op_bin (ltb rfl) rfl rfl rfl) ?_
  refine TriL.c1 rfl (op_bin (ltb rfl) rfl rfl rfl) ?_
  refine TriL.c1 rfl (op_as (ltb rfl) rfl) ?_
  refine TriL.nil ?_
  refine Tri.ret ?_
  exact ⟨.inr rfl, (ResOK.r1 rfl (.tmp rfl .nil)).cast (congrArg AV.bool (kind_sign t)), rfl⟩
theorem p_wideT (t : Int) : Pure Tryz.prog 213 [.int .i64 t] (.bool (wideT t)) := by
  refine Pure.of_tri Tryz.func213 rfl rfl (ltb rfl) fun H => ?_
  refine Tri.seq ?_
  refine Tri.region ?_
  refine TriL.c1 rfl (op_as (ltb rfl) rfl) ?_
  refine TriL.nil ?_
  refine Tri.seq ?_
  refine Tri.region ?_
  refine TriL.c1 rfl (op_mv (ltb rfl) rfl) ?_
  refine TriL.c1 rfl (op_call (ltb rfl) fn203_M7 rfl (p_kind _)) ?_
  refine TriL.c1 rfl (op_bin (ltb rfl) rfl rfl rfl) ?_
  refine TriL.c1 rfl (op_bin (ltb rfl) rfl rfl rfl) ?_
  refine TriL.c1 rfl (op_as (ltb rfl) rfl) ?_
  refine TriL.nil ?_
  refine Tri.ret ?_
  exact ⟨.inr rfl, (ResOK.r1 rfl (.tmp rfl .nil)).cast (congrArg AV.bool (kind_wide t)), rfl⟩
theorem p_wire (t : Int) : Pure Tryz.prog 205 [.int .i64 t] (.int .i64 (wireT t)) := by
  refine Pure.of_tri Tryz.func205 rfl rfl (ltb rfl) fun H => ?_
  refine Tri.seq ?_
  refine Tri.region ?_
  refine TriL.c1 rfl (op_as (ltb rfl) rfl) ?_
  refine TriL.nil ?_
  refine Tri.seq ?_
  refine Tri.seq ?_
  refine Tri.region ?_
  refine TriL.c1 rfl (op_mv (ltb rfl) rfl) ?_
  refine TriL.nil ?_
  refine Tri.blk ?_
  refine Tri.seq ?_
  refine Tri.seq ?_
  refine Tri.region ?_
  refine TriL.c1 rfl (op_bin (ltb rfl) rfl rfl rfl) ?_
  refine TriL.c1 rfl (op_as (ltb rfl) rfl) ?_
  refine TriL.nil ?_
  refine Tri.cond rfl (fun hc1 => ?_) (fun hc1 => ?_)
  · refine Tri.skip ?_
    refine Tri.condT rfl hc1 ?_
    refine Tri.seq ?_
    refine Tri.region ?_
    refine TriL.c1 rfl (op_as (ltb rfl) rfl) ?_
    refine TriL.nil ?_
    refine Tri.ret ?_
    exact ⟨.inr rfl, (ResOK.r1 rfl (.tmp rfl .nil)).cast (congrArg (AV.int .i64) (by grind [wireT])), rfl⟩
  · -- region 3 scalar.go:75
    refine Tri.region ?_
    refine TriL.c1 rfl (op_bin (ltb rfl) rfl rfl rfl) ?_
    refine TriL.c1 rfl (op_as (ltb rfl) rfl) ?_
    refine TriL.nil ?_
    refine Tri.cond rfl (fun hc2 => ?_) (fun hc2 => ?_)
    · refine Tri.seq ?_
      refine Tri.region ?_
      refine TriL.c1 rfl (op_as (ltb rfl) rfl) ?_
      refine TriL.nil ?_
      refine Tri.ret ?_
      exact ⟨.inr rfl, (ResOK.r1 rfl (.tmp rfl .nil)).cast (congrArg (AV.int .i64) (by grind [wireT])), rfl⟩
    · refine Tri.seq ?_
      refine Tri.seq ?_
      refine Tri.region ?_
      refine TriL.c1 rfl (op_bin (ltb rfl) rfl rfl rfl) ?_
      refine TriL.c1 rfl (op_as (ltb rfl) rfl) ?_
      refine TriL.nil ?_
      refine Tri.cond rfl (fun hc3 => ?_) (fun hc3 => ?_)
      · refine Tri.skip ?_
        refine Tri.condT rfl hc3 ?_
        refine Tri.seq ?_
        refine Tri.region ?_
        refine TriL.c1 rfl (op_as (ltb rfl) rfl) ?_
        refine TriL.nil ?_
        refine Tri.ret ?_
        exact ⟨.inr rfl, (ResOK.r1 rfl (.tmp rfl .nil)).cast (congrArg (AV.int .i64) (by grind [wireT])), rfl⟩
      · -- region 6 scalar.go:77
        refine Tri.region ?_
        refine TriL.c1 rfl (op_bin (ltb rfl) rfl rfl rfl) ?_
        refine TriL.c1 rfl (op_as (ltb rfl) rfl) ?_
        refine TriL.nil ?_
        refine Tri.cond rfl (fun hc4 => ?_) (fun hc4 => ?_)
        · refine Tri.seq ?_
          refine Tri.region ?_
          refine TriL.c1 rfl (op_as (ltb rfl) rfl) ?_
          refine TriL.nil ?_
          refine Tri.ret ?_
          exact ⟨.inr rfl, (ResOK.r1 rfl (.tmp rfl .nil)).cast (congrArg (AV.int .i64) (by grind [wireT])), rfl⟩
        · refine Tri.seq ?_
          refine Tri.seq ?_
          refine Tri.region ?_
          refine TriL.c1 rfl (op_bin (ltb rfl) rfl rfl rfl) ?_
          refine TriL.c1 rfl (op_as (ltb rfl) rfl) ?_
          refine TriL.nil ?_
          refine Tri.cond rfl (fun hc5 => ?_) (fun hc5 => ?_)
          · refine Tri.skip ?_
            refine Tri.condT rfl hc5 ?_
            refine Tri.seq ?_
            refine Tri.region ?_
            refine TriL.c1 rfl (op_as (ltb rfl) rfl) ?_
            refine TriL.nil ?_
            refine Tri.ret ?_
            exact ⟨.inr rfl, (ResOK.r1 rfl (.tmp rfl .nil)).cast (congrArg (AV.int .i64) (by grind [wireT])), rfl⟩
          · refine Tri.seq ?_
            refine Tri.region ?_
            refine TriL.c1 rfl (op_bin (ltb rfl) rfl rfl rfl) ?_
            refine TriL.c1 rfl (op_as (ltb rfl) rfl) ?_
            refine TriL.nil ?_
            refine Tri.cond rfl (fun hc6 => ?_) (fun hc6 => ?_)
            · refine Tri.skip ?_
              refine Tri.condT rfl hc6 ?_
              refine Tri.seq ?_
              refine Tri.region ?_
              refine TriL.c1 rfl (op_as (ltb rfl) rfl) ?_
              refine TriL.nil ?_
              refine Tri.ret ?_
              exact ⟨.inr rfl, (ResOK.r1 rfl (.tmp rfl .nil)).cast (congrArg (AV.int .i64) (by grind [wireT])), rfl⟩
            · -- region 10 scalar.go:79
              refine Tri.region ?_
              refine TriL.c1 rfl (op_bin (ltb rfl) rfl rfl rfl) ?_
              refine TriL.c1 rfl (op_as (ltb rfl) rfl) ?_
              refine TriL.nil ?_
              refine Tri.cond rfl (fun hc7 => ?_) (fun hc7 => ?_)
              · refine Tri.seq ?_
                refine Tri.region ?_
                refine TriL.c1 rfl (op_as (ltb rfl) rfl) ?_
                refine TriL.nil ?_
                refine Tri.ret ?_
                exact ⟨.inr rfl, (ResOK.r1 rfl (.tmp rfl .nil)).cast (congrArg (AV.int .i64) (by grind [wireT])), rfl⟩
              · refine Tri.skip ?_
                refine Tri.seq ?_
                refine Tri.region ?_
                refine TriL.c1 rfl (op_as (ltb rfl) rfl) ?_
                refine TriL.nil ?_
                refine Tri.ret ?_
                exact ⟨.inr rfl, (ResOK.r1 rfl (.tmp rfl .nil)).cast (congrArg (AV.int .i64) (by grind [wireT])), rfl⟩
theorem p_fits (z : Int) : Pure Tryz.prog 222 [.int .i64 z] (.bool (fitsT z)) := by
  refine Pure.of_tri Tryz.func222 rfl rfl (ltb rfl) fun H => ?_
  refine Tri.seq ?_
  refine Tri.region ?_
  refine TriL.c1 rfl (op_as (ltb rfl) rfl) ?_
  refine TriL.nil ?_
  refine Tri.seq ?_
  refine Tri.region ?_
  refine TriL.c1 rfl (op_mv (ltb rfl) rfl) ?_
  refine TriL.c1 rfl (op_cvi (ltb rfl) un2_M7 un21_M7 rfl) ?_
  refine TriL.c1 rfl (op_cvi (ltb rfl) un21_M7 un2_M7 rfl) ?_
  refine TriL.c1 rfl (op_mv (ltb rfl) rfl) ?_
  refine TriL.c1 rfl (op_bin (ltb rfl) rfl rfl rfl) ?_
  refine TriL.c1 rfl (op_as (ltb rfl) rfl) ?_
  refine TriL.nil ?_
  refine Tri.ret ?_
  exact ⟨.inr rfl, (ResOK.r1 rfl (.tmp rfl .nil)).cast (congrArg AV.bool (fits_wrap z)), rfl⟩
theorem p_may (t : Int) (n : Nat) : Pure Tryz.prog 201 [.int .i64 t, .int .u64 (n : Int)] (.bool (mayT t n)) := by
  refine Pure.of_tri Tryz.func201 rfl rfl (ltb rfl) fun H => ?_
  refine Tri.seq ?_
  refine Tri.region ?_
  refine TriL.c1 rfl (op_as (ltb rfl) rfl) ?_
  refine TriL.nil ?_
  refine Tri.seq ?_
  refine Tri.blk ?_
  refine Tri.seq ?_
  refine Tri.region ?_
  refine TriL.c1 rfl (op_mv (ltb rfl) rfl) ?_
  refine TriL.c1 rfl (op_bin (ltb rfl) rfl rfl rfl) ?_
  refine TriL.c1 rfl (op_mv (ltb rfl) rfl) ?_
  refine TriL.split (d := 8) rfl (fun hg1 => ?_) (fun hg1 => ?_)
  · refine TriL.skipu rfl rfl (ltb rfl) (ltb rfl) rfl hg1 ?_
    refine TriL.skipu rfl rfl (ltb rfl) (ltb rfl) rfl hg1 ?_
    refine TriL.c1 rfl (op_pickt (ltb rfl) rfl hg1 rfl) ?_
    refine TriL.c1 rfl (op_as (ltb rfl) rfl) ?_
    refine TriL.nil ?_
    refine Tri.condT rfl rfl ?_
    refine Tri.seq ?_
    refine Tri.region ?_
    refine TriL.c1 rfl (op_as (ltb rfl) rfl) ?_
    refine TriL.nil ?_
    refine Tri.ret ?_
    exact ⟨.inr rfl, (ResOK.r1 rfl (.tmp rfl .nil)).cast (congrArg AV.bool (by grind [mayT])), rfl⟩
  · refine TriL.g1 rfl (ltb rfl) rfl hg1 (op_mv (ltb rfl) rfl) ?_
    refine TriL.g1 rfl (ltb rfl) rfl hg1 (op_bin (ltb rfl) rfl rfl rfl) ?_
    refine TriL.c1 rfl (op_pickf (ltb rfl) rfl hg1 rfl) ?_
    refine TriL.c1 rfl (op_as (ltb rfl) rfl) ?_
    refine TriL.nil ?_
    refine Tri.cond rfl (fun hc2 => ?_) (fun hc2 => ?_)
    · refine Tri.seq ?_
      refine Tri.region ?_
      refine TriL.c1 rfl (op_as (ltb rfl) rfl) ?_
      refine TriL.nil ?_
      refine Tri.ret ?_
      exact ⟨.inr rfl, (ResOK.r1 rfl (.tmp rfl .nil)).cast (congrArg AV.bool (by grind [mayT])), rfl⟩
    · refine Tri.seq ?_
      refine Tri.region ?_
      refine TriL.c1 rfl (op_mv (ltb rfl) rfl) ?_
      refine TriL.c1 rfl (op_call (ltb rfl) fn213_M7 rfl (p_wideT _)) ?_
      refine TriL.c1 rfl (op_as (ltb rfl) rfl) ?_
      refine TriL.nil ?_
      refine Tri.cond rfl (fun hc3 => ?_) (fun hc3 => ?_)
      · refine Tri.seq ?_
        refine Tri.region ?_
        refine TriL.c1 rfl (op_as (ltb rfl) rfl) ?_
        refine TriL.nil ?_
        refine Tri.ret ?_
        exact ⟨.inr rfl, (ResOK.r1 rfl (.tmp rfl .nil)).cast (congrArg AV.bool (by grind [mayT])), rfl⟩
      · refine Tri.seq ?_
        refine Tri.region ?_
        refine TriL.c1 rfl (op_mv (ltb rfl) rfl) ?_
        refine TriL.c1 rfl (op_call (ltb rfl) fn215_M7 rfl (p_signT _)) ?_
        refine TriL.c1 rfl (op_as (ltb rfl) rfl) ?_
        refine TriL.nil ?_
        refine Tri.cond rfl (fun hc4 => ?_) (fun hc4 => ?_)
        · refine Tri.seq ?_
          refine Tri.region ?_
          refine TriL.c1 rfl (op_mv (ltb rfl) rfl) ?_
          refine TriL.c1 rfl (op_cvi (ltb rfl) un84_M7 un2_M7 rfl) ?_
          refine TriL.c1 rfl (op_call (ltb rfl) fn222_M7 rfl (p_fits _)) ?_
          refine TriL.c1 rfl (op_as (ltb rfl) rfl) ?_
          refine TriL.nil ?_
          refine Tri.ret ?_
          exact ⟨.inr rfl, (ResOK.r1 rfl (.tmp rfl .nil)).cast (congrArg AV.bool (by have := ty_cases t; grind [mayT, s64])), rfl⟩
        · refine Tri.seq ?_
          refine Tri.region ?_
          refine TriL.c1 rfl (op_mv (ltb rfl) rfl) ?_
          refine TriL.c1 rfl (op_call (ltb rfl) fn214_M7 rfl (p_wholeT _)) ?_
          refine TriL.c1 rfl (op_as (ltb rfl) rfl) ?_
          refine TriL.nil ?_
          refine Tri.cond rfl (fun hc5 => ?_) (fun hc5 => ?_)
          · refine Tri.seq ?_
            refine Tri.region ?_
            refine TriL.c1 rfl (op_mv (ltb rfl) rfl) ?_
            refine TriL.c1 rfl (op_shr (ltb rfl) rfl rfl (by decide)) ?_
            refine TriL.c1 rfl (op_bin (ltb rfl) rfl rfl rfl) ?_
            refine TriL.c1 rfl (op_as (ltb rfl) rfl) ?_
            refine TriL.nil ?_
            refine Tri.ret ?_
            exact ⟨.inr rfl, (ResOK.r1 rfl (.tmp rfl .nil)).cast (congrArg AV.bool (by have h2 : ((((n / 2 ^ (min ((32 : Int)).toNat IntKind.u64.bits) : Nat) : Int)) == 0) = decide (n < 4294967296) := (by rw [show 2 ^ (min ((32 : Int)).toNat IntKind.u64.bits) = 4294967296 by decide, Bool.eq_iff_iff]; simp; omega); rw [h2]; have := ty_cases t; grind [mayT, wholeT, wideT, signT])), rfl⟩
          · refine Tri.seq ?_
            refine Tri.region ?_
            refine TriL.c1 rfl (op_mv (ltb rfl) rfl) ?_
            refine TriL.c1 rfl (op_bin (ltb rfl) rfl rfl rfl) ?_
            refine TriL.c1 rfl (op_as (ltb rfl) rfl) ?_
            refine TriL.nil ?_
            refine Tri.cond rfl (fun hc6 => ?_) (fun hc6 => ?_)
            · refine Tri.seq ?_
              refine Tri.region ?_
              refine TriL.c1 rfl (op_mv (ltb rfl) rfl) ?_
              refine TriL.c1 rfl (op_bin (ltb rfl) rfl rfl rfl) ?_
              refine TriL.c1 rfl (op_as (ltb rfl) rfl) ?_
              refine TriL.nil ?_
              refine Tri.ret ?_
              exact ⟨.inr rfl, (ResOK.r1 rfl (.tmp rfl .nil)).cast (congrArg AV.bool (by have := ty_cases t; grind [mayT, wholeT, wideT, signT])), rfl⟩
            · refine Tri.skip ?_
              refine Tri.seq ?_
              refine Tri.region ?_
              refine TriL.c1 rfl (op_mv (ltb rfl) rfl) ?_
              refine TriL.c1 rfl (op_bin (ltb rfl) rfl rfl rfl) ?_
              refine TriL.c1 rfl (op_as (ltb rfl) rfl) ?_
              refine TriL.nil ?_
              refine Tri.ret ?_
              exact ⟨.inr rfl, (ResOK.r1 rfl (.tmp rfl .nil)).cast (congrArg AV.bool (by have := ty_cases t; grind [mayT, wholeT, wideT, signT])), rfl⟩
theorem p_twice (u : Int) : Pure Tryz.prog 229 [.int .u64 u] (.int .u64 (IntKind.u64.wrap (u * 2))) := by
  refine Pure.of_tri Tryz.func229 rfl rfl (ltb rfl) fun H => ?_
  refine Tri.seq ?_
  refine Tri.region ?_
  refine TriL.c1 rfl (op_as (ltb rfl) rfl) ?_
  refine TriL.nil ?_
  refine Tri.seq ?_
  refine Tri.region ?_
  refine TriL.c1 rfl (op_mv (ltb rfl) rfl) ?_
  refine TriL.c1 rfl (op_bin (ltb rfl) rfl rfl rfl) ?_
  refine TriL.c1 rfl (op_as (ltb rfl) rfl) ?_
  refine TriL.nil ?_
  refine Tri.ret ?_
  exact ⟨.inr rfl, (ResOK.r1 rfl (.tmp rfl .nil)).cast rfl, rfl⟩
theorem p_signs (u : Int) : Pure Tryz.prog 230 [.int .u64 u] (.int .u64 (IntKind.u64.wrap ((IntKind.i64.wrap u).fdiv (2 ^ 63)))) := by
  refine Pure.of_tri Tryz.func230 rfl rfl (ltb rfl) fun H => ?_
  refine Tri.seq ?_
  refine Tri.region ?_
  refine TriL.c1 rfl (op_as (ltb rfl) rfl) ?_
  refine TriL.nil ?_
  refine Tri.seq ?_
  refine Tri.region ?_
  refine TriL.c1 rfl (op_mv (ltb rfl) rfl) ?_
  refine TriL.c1 rfl (op_cvi (ltb rfl) un272_M7 un2_M7 rfl) ?_
  refine TriL.c1 rfl (op_bin (ltb rfl) rfl rfl rfl) ?_
  refine TriL.c1 rfl (op_cvi (ltb rfl) un2_M7 un272_M7 rfl) ?_
  refine TriL.c1 rfl (op_as (ltb rfl) rfl) ?_
  refine TriL.nil ?_
  refine Tri.ret ?_
  exact ⟨.inr rfl, (ResOK.r1 rfl (.tmp rfl .nil)).cast rfl, rfl⟩
theorem p_both (u : Int) : Pure Tryz.prog 228 [.int .u64 u, .fn 229 [], .fn 230 []] (.int .u64 (ibits .xor .u64 (IntKind.u64.wrap (u * 2)) (IntKind.u64.wrap ((IntKind.i64.wrap u).fdiv (2 ^ 63))))) := by
  refine Pure.of_tri Tryz.func228 rfl rfl (ltb rfl) fun H => ?_
  refine Tri.seq ?_
  refine Tri.region ?_
  refine TriL.c1 rfl (op_as (ltb rfl) rfl) ?_
  refine TriL.nil ?_
  refine Tri.seq ?_
  refine Tri.region ?_
  refine TriL.c1 rfl (op_mv (ltb rfl) rfl) ?_
  refine TriL.c1 rfl (op_mv (ltb rfl) rfl) ?_
  refine TriL.c1 rfl (op_callc (ltb rfl) fn229_M7 rfl rfl (p_twice _)) ?_
  refine TriL.c1 rfl (op_mv (ltb rfl) rfl) ?_
  refine TriL.c1 rfl (op_mv (ltb rfl) rfl) ?_
  refine TriL.c1 rfl (op_callc (ltb rfl) fn230_M7 rfl rfl (p_signs _)) ?_
  refine TriL.c1 rfl (op_bin (ltb rfl) rfl rfl rfl) ?_
  refine TriL.c1 rfl (op_as (ltb rfl) rfl) ?_
  refine TriL.nil ?_
  refine Tri.ret ?_
  exact ⟨.inr rfl, (ResOK.r1 rfl (.tmp rfl .nil)).cast rfl, rfl⟩
theorem p_zig (z : Int) (h0 : -9223372036854775808 ≤ z) (h1 : z < 9223372036854775808) : Pure Tryz.prog 223 [.int .i64 z] (.int .u64 (zigT z : Int)) := by
  refine Pure.of_tri Tryz.func223 rfl rfl (ltb rfl) fun H => ?_
  refine Tri.seq ?_
  refine Tri.region ?_
  refine TriL.c1 rfl (op_as (ltb rfl) rfl) ?_
  refine TriL.nil ?_
  refine Tri.seq ?_
  refine Tri.region ?_
  refine TriL.c1 rfl (op_mv (ltb rfl) rfl) ?_
  refine TriL.c1 rfl (op_cvi (ltb rfl) un2_M7 un272_M7 rfl) ?_
  refine TriL.c1 rfl (op_call (ltb rfl) fn228_M7 rfl (p_both _)) ?_
  refine TriL.c1 rfl (op_as (ltb rfl) rfl) ?_
  refine TriL.nil ?_
  refine Tri.ret ?_
  exact ⟨.inr rfl, (ResOK.r1 rfl (.tmp rfl .nil)).cast (congrArg (AV.int .u64) (zig_xor h0 h1)), rfl⟩
theorem p_low0 (z : Int) : Pure Tryz.prog 231 [.int .i64 z] (.int .u32 (IntKind.u32.wrap z)) := by
  refine Pure.of_tri Tryz.func231 rfl rfl (ltb rfl) fun H => ?_
  refine Tri.seq ?_
  refine Tri.region ?_
  refine TriL.c1 rfl (op_as (ltb rfl) rfl) ?_
  refine TriL.nil ?_
  refine Tri.seq ?_
  refine Tri.region ?_
  refine TriL.c1 rfl (op_mv (ltb rfl) rfl) ?_
  refine TriL.c1 rfl (op_cvi (ltb rfl) un2_M7 un235_M7 rfl) ?_
  refine TriL.c1 rfl (op_as (ltb rfl) rfl) ?_
  refine TriL.nil ?_
  refine Tri.ret ?_
  exact ⟨.inr rfl, (ResOK.r1 rfl (.tmp rfl .nil)).cast rfl, rfl⟩
theorem p_low (n : Nat) (hn : n < 18446744073709551616) : Pure Tryz.prog 224 [.int .u64 (n : Int)] (.int .u64 ((n % 4294967296 : Nat) : Int)) := by
  refine Pure.of_tri Tryz.func224 rfl rfl (ltb rfl) fun H => ?_
  refine Tri.seq ?_
  refine Tri.region ?_
  refine TriL.c1 rfl (op_as (ltb rfl) rfl) ?_
  refine TriL.nil ?_
  refine Tri.seq ?_
  refine Tri.region ?_
  refine TriL.c1 rfl (op_mv (ltb rfl) rfl) ?_
  refine TriL.c1 rfl (op_cvi (ltb rfl) un84_M7 un2_M7 rfl) ?_
  refine TriL.c1 rfl (op_call (ltb rfl) fn231_M7 rfl (p_low0 _)) ?_
  refine TriL.c1 rfl (op_cvi (ltb rfl) un235_M7 un84_M7 rfl) ?_
  refine TriL.c1 rfl (op_as (ltb rfl) rfl) ?_
  refine TriL.nil ?_
  refine Tri.ret ?_
  exact ⟨.inr rfl, (ResOK.r1 rfl (.tmp rfl .nil)).cast (congrArg (AV.int .u64) (by simp only [IntKind.wrap, IntKind.bits, IntKind.signed]; simp; omega)), rfl⟩
theorem p_to (t : Int) (n : Nat) (hn : n < 18446744073709551616) : Pure Tryz.prog 204 [.int .i64 t, .int .u64 (n : Int)] (.int .u64 (toT t n : Int)) := by
  have := s64_range hn
  refine Pure.of_tri Tryz.func204 rfl rfl (ltb rfl) fun H => ?_
  refine Tri.seq ?_
  refine Tri.region ?_
  refine TriL.c1 rfl (op_as (ltb rfl) rfl) ?_
  refine TriL.nil ?_
  refine Tri.seq ?_
  refine Tri.seq ?_
  refine Tri.region ?_
  refine TriL.c1 rfl (op_mv (ltb rfl) rfl) ?_
  refine TriL.nil ?_
  refine Tri.blk ?_
  refine Tri.seq ?_
  refine Tri.seq ?_
  refine Tri.region ?_
  refine TriL.c1 rfl (op_bin (ltb rfl) rfl rfl rfl) ?_
  refine TriL.c1 rfl (op_as (ltb rfl) rfl) ?_
  refine TriL.nil ?_
  refine Tri.cond rfl (fun hc1 => ?_) (fun hc1 => ?_)
  · refine Tri.skip ?_
    refine Tri.condT rfl hc1 ?_
    refine Tri.seq ?_
    refine Tri.region ?_
    refine TriL.c1 rfl (op_mv (ltb rfl) rfl) ?_
    refine TriL.c1 rfl (op_cvi (ltb rfl) un84_M7 un2_M7 rfl) ?_
    refine TriL.c1 rfl (op_call (ltb rfl) fn223_M7 rfl (p_zig _ this.1 this.2)) ?_
    refine TriL.c1 rfl (op_as (ltb rfl) rfl) ?_
    refine TriL.nil ?_
    refine Tri.ret ?_
    exact ⟨.inr rfl, (ResOK.r1 rfl (.tmp rfl .nil)).cast (congrArg (AV.int .u64) (by grind [toT, s64])), rfl⟩
  · -- region 3 num.go:39
    refine Tri.region ?_
    refine TriL.c1 rfl (op_bin (ltb rfl) rfl rfl rfl) ?_
    refine TriL.c1 rfl (op_as (ltb rfl) rfl) ?_
    refine TriL.nil ?_
    refine Tri.cond rfl (fun hc2 => ?_) (fun hc2 => ?_)
    · refine Tri.seq ?_
      refine Tri.region ?_
      refine TriL.c1 rfl (op_mv (ltb rfl) rfl) ?_
      refine TriL.c1 rfl (op_cvi (ltb rfl) un84_M7 un2_M7 rfl) ?_
      refine TriL.c1 rfl (op_call (ltb rfl) fn223_M7 rfl (p_zig _ this.1 this.2)) ?_
      refine TriL.c1 rfl (op_as (ltb rfl) rfl) ?_
      refine TriL.nil ?_
      refine Tri.ret ?_
      exact ⟨.inr rfl, (ResOK.r1 rfl (.tmp rfl .nil)).cast (congrArg (AV.int .u64) (by grind [toT, s64])), rfl⟩
    · refine Tri.seq ?_
      refine Tri.seq ?_
      refine Tri.region ?_
      refine TriL.c1 rfl (op_bin (ltb rfl) rfl rfl rfl) ?_
      refine TriL.c1 rfl (op_as (ltb rfl) rfl) ?_
      refine TriL.nil ?_
      refine Tri.cond rfl (fun hc3 => ?_) (fun hc3 => ?_)
      · refine Tri.skip ?_
        refine Tri.condT rfl hc3 ?_
        refine Tri.seq ?_
        refine Tri.region ?_
        refine TriL.c1 rfl (op_mv (ltb rfl) rfl) ?_
        refine TriL.c1 rfl (op_call (ltb rfl) fn224_M7 rfl (p_low _ hn)) ?_
        refine TriL.c1 rfl (op_as (ltb rfl) rfl) ?_
        refine TriL.nil ?_
        refine Tri.ret ?_
        exact ⟨.inr rfl, (ResOK.r1 rfl (.tmp rfl .nil)).cast (congrArg (AV.int .u64) (by grind [toT, s64])), rfl⟩
      · refine Tri.seq ?_
        refine Tri.region ?_
        refine TriL.c1 rfl (op_bin (ltb rfl) rfl rfl rfl) ?_
        refine TriL.c1 rfl (op_as (ltb rfl) rfl) ?_
        refine TriL.nil ?_
        refine Tri.cond rfl (fun hc4 => ?_) (fun hc4 => ?_)
        · refine Tri.skip ?_
          refine Tri.condT rfl hc4 ?_
          refine Tri.seq ?_
          refine Tri.region ?_
          refine TriL.c1 rfl (op_mv (ltb rfl) rfl) ?_
          refine TriL.c1 rfl (op_call (ltb rfl) fn224_M7 rfl (p_low _ hn)) ?_
          refine TriL.c1 rfl (op_as (ltb rfl) rfl) ?_
          refine TriL.nil ?_
          refine Tri.ret ?_
          exact ⟨.inr rfl, (ResOK.r1 rfl (.tmp rfl .nil)).cast (congrArg (AV.int .u64) (by grind [toT, s64])), rfl⟩
        · -- region 7 num.go:41
          refine Tri.region ?_
          refine TriL.c1 rfl (op_bin (ltb rfl) rfl rfl rfl) ?_
          refine TriL.c1 rfl (op_as (ltb rfl) rfl) ?_
          refine TriL.nil ?_
          refine Tri.cond rfl (fun hc5 => ?_) (fun hc5 => ?_)
          · refine Tri.seq ?_
            refine Tri.region ?_
            refine TriL.c1 rfl (op_mv (ltb rfl) rfl) ?_
            refine TriL.c1 rfl (op_call (ltb rfl) fn224_M7 rfl (p_low _ hn)) ?_
            refine TriL.c1 rfl (op_as (ltb rfl) rfl) ?_
            refine TriL.nil ?_
            refine Tri.ret ?_
            exact ⟨.inr rfl, (ResOK.r1 rfl (.tmp rfl .nil)).cast (congrArg (AV.int .u64) (by grind [toT, s64])), rfl⟩
          · refine Tri.skip ?_
            refine Tri.seq ?_
            refine Tri.seq ?_
            refine Tri.region ?_
            refine TriL.c1 rfl (op_mv (ltb rfl) rfl) ?_
            refine TriL.c1 rfl (op_call (ltb rfl) fn173_M7 rfl (p_numT _)) ?_
            refine TriL.c1 rfl (op_un (ltb rfl) rfl rfl) ?_
            refine TriL.nil ?_
            refine Tri.cond rfl (fun hc6 => ?_) (fun hc6 => ?_)
            · refine Tri.seq ?_
              refine Tri.region ?_
              refine TriL.c1 rfl (op_as (ltb rfl) rfl) ?_
              refine TriL.nil ?_
              refine Tri.ret ?_
              exact ⟨.inr rfl, (ResOK.r1 rfl (.tmp rfl .nil)).cast (congrArg (AV.int .u64) (by grind [toT, s64])), rfl⟩
            · refine Tri.skip ?_
              refine Tri.seq ?_
              refine Tri.region ?_
              refine TriL.c1 rfl (op_mv (ltb rfl) rfl) ?_
              refine TriL.c1 rfl (op_as (ltb rfl) rfl) ?_
              refine TriL.nil ?_
              refine Tri.ret ?_
              exact ⟨.inr rfl, (ResOK.r1 rfl (.tmp rfl .nil)).cast (congrArg (AV.int .u64) (by grind [toT, s64])), rfl⟩
end Go.Proofs.YtnpgcmeclkncnaaGreatDoor.X
