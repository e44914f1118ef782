/- Small of schemas; the page's example. -/
import Derived.Test.YtnpgcmeclkncnaaGreatDoorZN3H
import Derived.Test.YtnpgcmeclkncnaaGreatDoorZN3C
import Derived.ProofKit
import Derived.LaidMore
import Derived.OpenShut
import Derived.HandedShaped
import Derived.LaidLaws
import Derived.Lib.LaidU8T
set_option linter.unusedVariables false
set_option linter.unusedSimpArgs false
set_option linter.unusedSectionVars false
set_option maxRecDepth 100000
namespace Go.Proofs.YtnpgcmeclkncnaaGreatDoor.X
open Go Go.RowKit Go.Proofs
theorem fo25_0_MG : fo Tryz.prog 25 0 = some 0 := by kernel_rfl
theorem fo25_1_MG : fo Tryz.prog 25 1 = some 1 := by kernel_rfl
theorem fo78_0_MG : fo Tryz.prog 78 0 = some 0 := by kernel_rfl
theorem fo78_1_MG : fo Tryz.prog 78 1 = some 1 := by kernel_rfl
theorem fo78_2_MG : fo Tryz.prog 78 2 = some 2 := by kernel_rfl
theorem fo94_0_MG : fo Tryz.prog 94 0 = some 0 := by kernel_rfl
theorem fo94_1_MG : fo Tryz.prog 94 1 = some 1 := by kernel_rfl
theorem fo96_0_MG : fo Tryz.prog 96 0 = some 0 := by kernel_rfl
theorem fo98_0_MG : fo Tryz.prog 98 0 = some 0 := by kernel_rfl
theorem fo98_3_MG : fo Tryz.prog 98 3 = some 3 := by kernel_rfl
theorem fo98_6_MG : fo Tryz.prog 98 6 = some 6 := by kernel_rfl
theorem ie22_MG : ie Tryz.prog 22 = some 2 := by kernel_rfl
theorem ie23_MG : ie Tryz.prog 23 = some 3 := by kernel_rfl
theorem ie76_MG : ie Tryz.prog 76 = some 7 := by kernel_rfl
theorem ie92_MG : ie Tryz.prog 92 = some 2 := by kernel_rfl
theorem lk22_MG : lk Tryz.prog 22 = some (false, 1) := by kernel_rfl
theorem lk23_MG : lk Tryz.prog 23 = some (false, 1) := by kernel_rfl
theorem lk67_MG : lk Tryz.prog 67 = some (false, 1) := by kernel_rfl
theorem lk76_MG : lk Tryz.prog 76 = some (false, 1) := by kernel_rfl
theorem lk9_MG : lk Tryz.prog 9 = some (false, 1) := by kernel_rfl
theorem lk92_MG : lk Tryz.prog 92 = some (false, 1) := by kernel_rfl
theorem lk98_MG : lk Tryz.prog 98 = some (true, 7) := by kernel_rfl
theorem un22_MG : Tryz.prog.underlying 22 = some (TypeDesc.slice 94) := Tryz.underlying22
theorem un23_MG : Tryz.prog.underlying 23 = some (TypeDesc.slice 78) := Tryz.underlying23
theorem un67_MG : Tryz.prog.underlying 67 = some (TypeDesc.slice 3) := Tryz.underlying67
theorem un76_MG : Tryz.prog.underlying 76 = some (TypeDesc.slice 98) := Tryz.underlying76
theorem un9_MG : Tryz.prog.underlying 9 = some TypeDesc.string := Tryz.underlying9
theorem un92_MG : Tryz.prog.underlying 92 = some (TypeDesc.slice 96) := Tryz.underlying92
theorem zA98_MG : zeroA Tryz.prog 98 = some [AV.str [], AV.int IntKind.i64 (0), AV.int IntKind.i64 (0), AV.str [], AV.bool false, AV.bool false, AV.str []] := by kernel_rfl
/-- what a schema's lists are at most -/
structure Sch.lens (s : Sch) : Prop where
  e : s.enums.length ≤ 140737488355328
  m : s.msgs.length ≤ 140737488355328
  v : ∀ x ∈ s.enums, x.values.length ≤ 140737488355328
  f : ∀ x ∈ s.msgs, x.fields.length ≤ 140737488355328
theorem Sch.lens.big {s : Sch} (h : s.lens) : s.big := ⟨Nat.le_trans h.e (by omega), Nat.le_trans h.m (by omega)⟩
theorem Sch.lens.vi {s : Sch} (h : s.lens) {i : Nat} (hi : i < s.enums.length) : s.enums[i].values.length ≤ 140737488355328 := h.v _ (List.getElem_mem hi)
theorem Sch.lens.fi {s : Sch} (h : s.lens) {i : Nat} (hi : i < s.msgs.length) : s.msgs[i].fields.length ≤ 140737488355328 := h.f _ (List.getElem_mem hi)
def sumE : List Enm → Int → Int
  | [], n => n
  | e :: l, n => if n < 200 then sumE l (w64 (w64 (n + (e.values.length : Int)) + w64 ((e.name.length : Int).tdiv 10))) else n
def sumM : List Msg → Int → Int
  | [], n => n
  | e :: l, n => if n < 200 then sumM l (w64 (w64 (w64 (n + (e.fields.length : Int)) + (e.barred.length : Int)) + w64 ((e.name.length : Int).tdiv 10))) else n
theorem sumE_step {l : List Enm} {i : Nat} {n : Int} (h : i < l.length) : sumE (l.drop i) n = if n < 200 then sumE (l.drop (i + 1)) (w64 (w64 (n + (l[i].values.length : Int)) + w64 ((l[i].name.length : Int).tdiv 10))) else n := by rw [List.drop_eq_getElem_cons h]; rfl
theorem sumM_step {l : List Msg} {i : Nat} {n : Int} (h : i < l.length) : sumM (l.drop i) n = if n < 200 then sumM (l.drop (i + 1)) (w64 (w64 (w64 (n + (l[i].fields.length : Int)) + (l[i].barred.length : Int)) + w64 ((l[i].name.length : Int).tdiv 10))) else n := by rw [List.drop_eq_getElem_cons h]; rfl
theorem sumE_end {l : List Enm} {i : Nat} {n : Int} (h : l.length ≤ i) : sumE (l.drop i) n = n := by rw [List.drop_of_length_le h]; rfl
theorem sumM_end {l : List Msg} {i : Nat} {n : Int} (h : l.length ≤ i) : sumM (l.drop i) n = n := by rw [List.drop_of_length_le h]; rfl
def Sch.sum1 (s : Sch) : Int := sumE s.enums (w64 ((s.enums.length : Int) + (s.msgs.length : Int)))
def Sch.sum2 (s : Sch) : Int := sumM s.msgs s.sum1
def longE (e : Enm) : Bool := e.values.any fun v => decide (1000 < v.name.length)
def longM (m : Msg) : Bool := m.fields.any fun f => decide (1000 < f.name.length) || decide (1000 < f.ref.length) || decide (1000 < f.one.length)
def Sch.small (s : Sch) : Bool := !decide (200 ≤ s.sum2) && !s.enums.any longE && !s.msgs.any longM
theorem r_small (s : Sch) (hs : s.lens) : Pure Tryz.prog 20 [s.av] (.bool s.small) := by
  have he := hs.e
  have hm := hs.m
  refine Pure.of_tri Tryz.func20 rfl rfl (ltb rfl) fun H => ?_
  refine Tri.seq ?_
  refine Tri.region ?_
  refine TriL.c2 rfl (op_box (ltb rfl) rfl rfl rfl) ?_
  refine TriL.c1 rfl (op_as (ltb rfl) rfl) ?_
  refine TriL.nil ?_
  refine Tri.seq ?_
  refine Tri.region ?_
  refine TriL.c1 rfl (op_fal (ltb rfl) fo25_0_MG rfl) ?_
  refine TriL.c1 rfl (op_ldl (ltb rfl) lk22_MG rfl rfl rfl) ?_
  refine TriL.c1 rfl (op_lenl (ltb rfl) un22_MG rfl) ?_
  refine TriL.c1 rfl (op_fal (ltb rfl) fo25_1_MG rfl) ?_
  refine TriL.c1 rfl (op_ldl (ltb rfl) lk23_MG rfl rfl rfl) ?_
  refine TriL.c1 rfl (op_lenl (ltb rfl) un23_MG rfl) ?_
  refine TriL.c1 rfl (op_bin (ltb rfl) rfl rfl rfl) ?_
  refine TriL.c1 rfl (op_as (ltb rfl) rfl) ?_
  refine TriL.nil ?_
  refine Tri.joinu [.h, .s 1, .b 1] (fun (n : Int) => [(.s 3, .sv (.v (.int .i64 n)))]) (fun (n : Int) => n = s.sum1) rfl ?_ ?_
  · refine Tri.seq ?_
    refine Tri.region ?_
    refine TriL.c1 rfl (op_as (ltb rfl) rfl) ?_
    refine TriL.nil ?_
    refine Tri.blk ?_
    refine Tri.ofKept (Kept.keep [.s 4, .s 3, .h, .s 1, .b 1] rfl (by decide) (Kept.now ?_))
    -- LOOP 1
    refine Tri.loopk (fun ((i, n) : Nat × Int) => [(.s 4, .sv (.v (.int .i64 (i : Int)))), (.s 3, .sv (.v (.int .i64 n)))]) _ (fun ((i, n) : Nat × Int) => sumE (s.enums.drop i) n = s.sum1) (fun ((i, n) : Nat × Int) => s.enums.length - i) (0, _) rfl (by simp [Sch.sum1]) ?_
    rintro ⟨i, n⟩ hI
    refine Tri.seq ?_
    refine Tri.seq ?_
    refine Tri.region ?_
    refine TriL.c1 rfl (op_mv (ltb rfl) rfl) ?_
    refine TriL.c1 rfl (op_fal (ltb rfl) fo25_0_MG rfl) ?_
    refine TriL.c1 rfl (op_ldl (ltb rfl) lk22_MG rfl rfl rfl) ?_
    refine TriL.c1 rfl (op_lenl (ltb rfl) un22_MG rfl) ?_
    refine TriL.c1 rfl (op_bin (ltb rfl) rfl rfl rfl) ?_
    refine TriL.c1 rfl (op_mv (ltb rfl) rfl) ?_
    refine TriL.split (d := 23) rfl (fun hg1 => ?_) (fun hg1 => ?_)
    · have hi := ltm hg1
      have hS := @sumE_step s.enums i n hi
      refine TriL.g1 rfl (ltb rfl) rfl hg1 (op_mv (ltb rfl) rfl) ?_
      refine TriL.g1 rfl (ltb rfl) rfl hg1 (op_bin (ltb rfl) rfl rfl rfl) ?_
      refine TriL.c1 rfl (op_pickt (ltb rfl) rfl hg1 rfl) ?_
      refine TriL.nil ?_
      refine Tri.cond rfl (fun hc2 => ?_) (fun hc2 => ?_)
      · refine Tri.skip ?_
        refine Tri.seq ?_
        refine Tri.blk ?_
        refine Tri.drawn mixed rfl ?_
        refine TriD.c1 rfl (op_mv (ltb rfl) rfl) ?_
        refine TriD.c1 rfl (op_fal (ltb rfl) fo25_0_MG rfl) ?_
        refine TriD.c1 rfl (op_ldl (ltb rfl) lk22_MG rfl rfl rfl) ?_
        refine TriD.c1 rfl (op_mv (ltb rfl) rfl) ?_
        refine TriD.c1 rfl (op_iak (ltb rfl) ie22_MG rfl rfl (Int.natCast_nonneg _) (ixm hi) rfl) ?_
        refine TriD.c1 rfl (op_fak (ltb rfl) fo94_1_MG rfl) ?_
        refine TriD.c1 rfl (op_ldk (ltb rfl) lk92_MG rfl rfl) ?_
        refine TriD.c1 rfl (op_lenl (ltb rfl) un92_MG rfl) ?_
        refine TriD.c1 rfl (op_bin (ltb rfl) rfl rfl rfl) ?_
        refine TriD.c1 rfl (op_fal (ltb rfl) fo25_0_MG rfl) ?_
        refine TriD.c1 rfl (op_ldl (ltb rfl) lk22_MG rfl rfl rfl) ?_
        refine TriD.c1 rfl (op_mv (ltb rfl) rfl) ?_
        refine TriD.c1 rfl (op_iak (ltb rfl) ie22_MG rfl rfl (Int.natCast_nonneg _) (ixm hi) rfl) ?_
        refine TriD.c1 rfl (op_fak (ltb rfl) fo94_0_MG rfl) ?_
        refine TriD.c1 rfl (op_ldk (ltb rfl) lk9_MG rfl rfl) ?_
        refine TriD.c1 rfl (op_lens (ltb rfl) un9_MG rfl) ?_
        refine TriD.c1 rfl (op_bin (ltb rfl) rfl rfl rfl) ?_
        refine TriD.c1 rfl (op_bin (ltb rfl) rfl rfl rfl) ?_
        refine TriD.c1 rfl (op_as (ltb rfl) rfl) ?_
        refine TriD.nil (by kernel_rfl) (Kept.now ?_)
        refine Tri.region ?_
        refine TriL.c1 rfl (op_mv (ltb rfl) rfl) ?_
        refine TriL.c1 rfl (op_bin (ltb rfl) rfl rfl rfl) ?_
        refine TriL.c1 rfl (op_as (ltb rfl) rfl) ?_
        refine TriL.kept (Kept.seti 4 rfl (inc (by omega)) (Kept.keep [.s 4, .s 3, .h, .s 1, .b 1] rfl (by decide) (Kept.now ?_)))
        exact ⟨(i + 1, _), (by dsimp only; omega), by simp only [List.length_map] at *; grind, rfl⟩
      · refine Tri.ofKept (Kept.keep [.s 3, .h, .s 1, .b 1] rfl (by decide) (Kept.now ?_))
        refine Tri.exit ?_
        exact ⟨_, by grind, rfl⟩
    · have hi := gem hg1
      have hS := @sumE_end s.enums i n hi
      refine TriL.skipu rfl rfl (ltb rfl) (ltb rfl) rfl hg1 ?_
      refine TriL.skipu rfl rfl (ltb rfl) (ltb rfl) rfl hg1 ?_
      refine TriL.c1 rfl (op_pickf (ltb rfl) rfl hg1 rfl) ?_
      refine TriL.nil ?_
      refine Tri.condF rfl rfl ?_
      refine Tri.ofKept (Kept.keep [.s 3, .h, .s 1, .b 1] rfl (by decide) (Kept.now ?_))
      refine Tri.exit ?_
      exact ⟨_, by grind, rfl⟩
  · rintro n hF6
    refine Tri.joinu [.h, .s 1, .b 1] (fun (n : Int) => [(.s 3, .sv (.v (.int .i64 n)))]) (fun (n : Int) => n = s.sum2) rfl ?_ ?_
    · refine Tri.seq ?_
      refine Tri.region ?_
      refine TriL.c1 rfl (op_as (ltb rfl) rfl) ?_
      refine TriL.nil ?_
      refine Tri.blk ?_
      refine Tri.ofKept (Kept.keep [.s 5, .s 3, .h, .s 1, .b 1] rfl (by decide) (Kept.now ?_))
      -- LOOP 2
      refine Tri.loopk (fun ((i, n) : Nat × Int) => [(.s 5, .sv (.v (.int .i64 (i : Int)))), (.s 3, .sv (.v (.int .i64 n)))]) _ (fun ((i, n) : Nat × Int) => sumM (s.msgs.drop i) n = s.sum2) (fun ((i, n) : Nat × Int) => s.msgs.length - i) (0, _) rfl (by subst hF6; rfl) ?_
      rintro ⟨i, n⟩ hI
      refine Tri.seq ?_
      refine Tri.seq ?_
      refine Tri.region ?_
      refine TriL.c1 rfl (op_mv (ltb rfl) rfl) ?_
      refine TriL.c1 rfl (op_fal (ltb rfl) fo25_1_MG rfl) ?_
      refine TriL.c1 rfl (op_ldl (ltb rfl) lk23_MG rfl rfl rfl) ?_
      refine TriL.c1 rfl (op_lenl (ltb rfl) un23_MG rfl) ?_
      refine TriL.c1 rfl (op_bin (ltb rfl) rfl rfl rfl) ?_
      refine TriL.c1 rfl (op_mv (ltb rfl) rfl) ?_
      refine TriL.split (d := 52) rfl (fun hg3 => ?_) (fun hg3 => ?_)
      · have hi := ltm hg3
        have hS := @sumM_step s.msgs i n hi
        refine TriL.g1 rfl (ltb rfl) rfl hg3 (op_mv (ltb rfl) rfl) ?_
        refine TriL.g1 rfl (ltb rfl) rfl hg3 (op_bin (ltb rfl) rfl rfl rfl) ?_
        refine TriL.c1 rfl (op_pickt (ltb rfl) rfl hg3 rfl) ?_
        refine TriL.nil ?_
        refine Tri.cond rfl (fun hc4 => ?_) (fun hc4 => ?_)
        · refine Tri.skip ?_
          refine Tri.seq ?_
          refine Tri.blk ?_
          refine Tri.drawn mixed rfl ?_
          refine TriD.c1 rfl (op_mv (ltb rfl) rfl) ?_
          refine TriD.c1 rfl (op_fal (ltb rfl) fo25_1_MG rfl) ?_
          refine TriD.c1 rfl (op_ldl (ltb rfl) lk23_MG rfl rfl rfl) ?_
          refine TriD.c1 rfl (op_mv (ltb rfl) rfl) ?_
          refine TriD.c1 rfl (op_iak (ltb rfl) ie23_MG rfl rfl (Int.natCast_nonneg _) (ixm hi) rfl) ?_
          refine TriD.c1 rfl (op_fak (ltb rfl) fo78_1_MG rfl) ?_
          refine TriD.c1 rfl (op_ldk (ltb rfl) lk76_MG rfl rfl) ?_
          refine TriD.c1 rfl (op_lenl (ltb rfl) un76_MG rfl) ?_
          refine TriD.c1 rfl (op_bin (ltb rfl) rfl rfl rfl) ?_
          refine TriD.c1 rfl (op_fal (ltb rfl) fo25_1_MG rfl) ?_
          refine TriD.c1 rfl (op_ldl (ltb rfl) lk23_MG rfl rfl rfl) ?_
          refine TriD.c1 rfl (op_mv (ltb rfl) rfl) ?_
          refine TriD.c1 rfl (op_iak (ltb rfl) ie23_MG rfl rfl (Int.natCast_nonneg _) (ixm hi) rfl) ?_
          refine TriD.c1 rfl (op_fak (ltb rfl) fo78_2_MG rfl) ?_
          refine TriD.c1 rfl (op_ldk (ltb rfl) lk67_MG rfl rfl) ?_
          refine TriD.c1 rfl (op_lenl (ltb rfl) un67_MG rfl) ?_
          refine TriD.c1 rfl (op_bin (ltb rfl) rfl rfl rfl) ?_
          refine TriD.c1 rfl (op_fal (ltb rfl) fo25_1_MG rfl) ?_
          refine TriD.c1 rfl (op_ldl (ltb rfl) lk23_MG rfl rfl rfl) ?_
          refine TriD.c1 rfl (op_mv (ltb rfl) rfl) ?_
          refine TriD.c1 rfl (op_iak (ltb rfl) ie23_MG rfl rfl (Int.natCast_nonneg _) (ixm hi) rfl) ?_
          refine TriD.c1 rfl (op_fak (ltb rfl) fo78_0_MG rfl) ?_
          refine TriD.c1 rfl (op_ldk (ltb rfl) lk9_MG rfl rfl) ?_
          refine TriD.c1 rfl (op_lens (ltb rfl) un9_MG rfl) ?_
          refine TriD.c1 rfl (op_bin (ltb rfl) rfl rfl rfl) ?_
          refine TriD.c1 rfl (op_bin (ltb rfl) rfl rfl rfl) ?_
          refine TriD.c1 rfl (op_as (ltb rfl) rfl) ?_
          refine TriD.nil (by kernel_rfl) (Kept.now ?_)
          refine Tri.region ?_
          refine TriL.c1 rfl (op_mv (ltb rfl) rfl) ?_
          refine TriL.c1 rfl (op_bin (ltb rfl) rfl rfl rfl) ?_
          refine TriL.c1 rfl (op_as (ltb rfl) rfl) ?_
          refine TriL.kept (Kept.seti 5 rfl (inc (by omega)) (Kept.keep [.s 5, .s 3, .h, .s 1, .b 1] rfl (by decide) (Kept.now ?_)))
          exact ⟨(i + 1, _), (by dsimp only; omega), by simp only [List.length_map] at *; grind, rfl⟩
        · refine Tri.ofKept (Kept.keep [.s 3, .h, .s 1, .b 1] rfl (by decide) (Kept.now ?_))
          refine Tri.exit ?_
          exact ⟨_, by grind, rfl⟩
      · have hi := gem hg3
        have hS := @sumM_end s.msgs i n hi
        refine TriL.skipu rfl rfl (ltb rfl) (ltb rfl) rfl hg3 ?_
        refine TriL.skipu rfl rfl (ltb rfl) (ltb rfl) rfl hg3 ?_
        refine TriL.c1 rfl (op_pickf (ltb rfl) rfl hg3 rfl) ?_
        refine TriL.nil ?_
        refine Tri.condF rfl rfl ?_
        refine Tri.ofKept (Kept.keep [.s 3, .h, .s 1, .b 1] rfl (by decide) (Kept.now ?_))
        refine Tri.exit ?_
        exact ⟨_, by grind, rfl⟩
    · rintro n hF10
      refine Tri.seq ?_
      refine Tri.seq ?_
      refine Tri.region ?_
      refine TriL.c1 rfl (op_mv (ltb rfl) rfl) ?_
      refine TriL.c1 rfl (op_bin (ltb rfl) rfl rfl rfl) ?_
      refine TriL.nil ?_
      refine Tri.cond rfl (fun hc5 => ?_) (fun hc5 => ?_)
      · refine Tri.seq ?_
        refine Tri.region ?_
        refine TriL.c1 rfl (op_as (ltb rfl) rfl) ?_
        refine TriL.nil ?_
        refine Tri.ret ?_
        exact ⟨.inr rfl, (ResOK.r1 rfl (.tmp rfl .nil)).cast (congrArg AV.bool (by grind [Sch.small, longE, longM])), rfl⟩
      · refine Tri.skip ?_
        refine Tri.seq ?_
        refine Tri.seq ?_
        refine Tri.region ?_
        refine TriL.c1 rfl (op_as (ltb rfl) rfl) ?_
        refine TriL.nil ?_
        refine Tri.blk ?_
        refine Tri.ofKept (Kept.keep [.s 6, .h, .s 1, .b 1] rfl (by decide) (Kept.now ?_))
        -- LOOP 3
        refine Tri.loopk (fun (i : Nat) => [(.s 6, .sv (.v (.int .i64 (i : Int))))]) _ (fun (i : Nat) => s.enums.any longE = (s.enums.drop i).any longE) (fun (i : Nat) => s.enums.length - i) 0 rfl (by simp) ?_
        rintro i hI
        refine Tri.seq ?_
        refine Tri.seq ?_
        refine Tri.region ?_
        refine TriL.c1 rfl (op_mv (ltb rfl) rfl) ?_
        refine TriL.c1 rfl (op_fal (ltb rfl) fo25_0_MG rfl) ?_
        refine TriL.c1 rfl (op_ldl (ltb rfl) lk22_MG rfl rfl rfl) ?_
        refine TriL.c1 rfl (op_lenl (ltb rfl) un22_MG rfl) ?_
        refine TriL.c1 rfl (op_bin (ltb rfl) rfl rfl rfl) ?_
        refine TriL.nil ?_
        refine Tri.cond rfl (fun hc6 => ?_) (fun hc6 => ?_)
        · have hi := ltm hc6
          have hS := any_step (p := longE) hi
          have hv := hs.vi hi
          refine Tri.skip ?_
          refine Tri.seq ?_
          refine Tri.blk ?_
          refine Tri.seq ?_
          refine Tri.region ?_
          refine TriL.c1 rfl (op_as (ltb rfl) rfl) ?_
          refine TriL.nil ?_
          refine Tri.blk ?_
          refine Tri.ofKept (Kept.keep [.s 7, .h, .s 1, .b 1, .s 6] rfl (by decide) (Kept.now ?_))
          -- LOOP 4
          refine Tri.loopk (fun (k : Nat) => [(.s 7, .sv (.v (.int .i64 (k : Int))))]) _ (fun (k : Nat) => ((s.enums[i]'hi).values.drop k).any (fun v : Vlu => decide (1000 < v.name.length)) = (s.enums[i]'hi).values.any (fun v : Vlu => decide (1000 < v.name.length))) (fun (k : Nat) => (s.enums[i]'hi).values.length - k) 0 rfl (by simp) ?_
          rintro k hK
          refine Tri.seq ?_
          refine Tri.seq ?_
          refine Tri.region ?_
          refine TriL.c1 rfl (op_mv (ltb rfl) rfl) ?_
          refine TriL.c1 rfl (op_fal (ltb rfl) fo25_0_MG rfl) ?_
          refine TriL.c1 rfl (op_ldl (ltb rfl) lk22_MG rfl rfl rfl) ?_
          refine TriL.c1 rfl (op_mv (ltb rfl) rfl) ?_
          refine TriL.c1 rfl (op_iak (ltb rfl) ie22_MG rfl rfl (Int.natCast_nonneg _) (ixm hi) rfl) ?_
          refine TriL.c1 rfl (op_fak (ltb rfl) fo94_1_MG rfl) ?_
          refine TriL.c1 rfl (op_ldk (ltb rfl) lk92_MG rfl rfl) ?_
          refine TriL.c1 rfl (op_lenl (ltb rfl) un92_MG rfl) ?_
          refine TriL.c1 rfl (op_bin (ltb rfl) rfl rfl rfl) ?_
          refine TriL.nil ?_
          refine Tri.cond rfl (fun hc7 => ?_) (fun hc7 => ?_)
          · have hk := ltm hc7
            have hT := any_step (p := (fun v : Vlu => decide (1000 < v.name.length))) hk
            refine Tri.skip ?_
            refine Tri.seq ?_
            refine Tri.blk ?_
            refine Tri.seq ?_
            refine Tri.region ?_
            refine TriL.c1 rfl (op_fal (ltb rfl) fo25_0_MG rfl) ?_
            refine TriL.c1 rfl (op_ldl (ltb rfl) lk22_MG rfl rfl rfl) ?_
            refine TriL.c1 rfl (op_mv (ltb rfl) rfl) ?_
            refine TriL.c1 rfl (op_iak (ltb rfl) ie22_MG rfl rfl (Int.natCast_nonneg _) (ixm hi) rfl) ?_
            refine TriL.c1 rfl (op_fak (ltb rfl) fo94_1_MG rfl) ?_
            refine TriL.c1 rfl (op_ldk (ltb rfl) lk92_MG rfl rfl) ?_
            refine TriL.c1 rfl (op_mv (ltb rfl) rfl) ?_
            refine TriL.c1 rfl (op_iak (ltb rfl) ie92_MG rfl rfl (Int.natCast_nonneg _) (ixm hk) rfl) ?_
            refine TriL.c1 rfl (op_fak (ltb rfl) fo96_0_MG rfl) ?_
            refine TriL.c1 rfl (op_ldk (ltb rfl) lk9_MG rfl rfl) ?_
            refine TriL.c1 rfl (op_lens (ltb rfl) un9_MG rfl) ?_
            refine TriL.c1 rfl (op_bin (ltb rfl) rfl rfl rfl) ?_
            refine TriL.nil ?_
            refine Tri.cond rfl (fun hc8 => ?_) (fun hc8 => ?_)
            · refine Tri.seq ?_
              refine Tri.region ?_
              refine TriL.c1 rfl (op_as (ltb rfl) rfl) ?_
              refine TriL.nil ?_
              refine Tri.ret ?_
              exact ⟨.inr rfl, (ResOK.r1 rfl (.tmp rfl .nil)).cast (congrArg AV.bool (by grind [Sch.small, longE, longM])), rfl⟩
            · refine Tri.skip ?_
              refine Tri.region ?_
              refine TriL.c1 rfl (op_mv (ltb rfl) rfl) ?_
              refine TriL.c1 rfl (op_bin (ltb rfl) rfl rfl rfl) ?_
              refine TriL.c1 rfl (op_as (ltb rfl) rfl) ?_
              refine TriL.kept (Kept.seti 7 rfl (inc (by omega)) (Kept.keep [.s 7, .h, .s 1, .b 1, .s 6] rfl (by decide) (Kept.now ?_)))
              exact ⟨k + 1, by omega, by grind, rfl⟩
          · have hk := gem hc7
            have hT := any_end (p := (fun v : Vlu => decide (1000 < v.name.length))) hk
            refine Tri.exit ?_
            refine Tri.region ?_
            refine TriL.c1 rfl (op_mv (ltb rfl) rfl) ?_
            refine TriL.c1 rfl (op_bin (ltb rfl) rfl rfl rfl) ?_
            refine TriL.c1 rfl (op_as (ltb rfl) rfl) ?_
            refine TriL.kept (Kept.seti 6 rfl (inc (by omega)) (Kept.keep [.s 6, .h, .s 1, .b 1] rfl (by decide) (Kept.now ?_)))
            exact ⟨i + 1, by omega, by grind [longE], rfl⟩
        · have hi := gem hc6
          have hS := any_end (p := longE) hi
          refine Tri.exit ?_
          refine Tri.seq ?_
          refine Tri.seq ?_
          refine Tri.region ?_
          refine TriL.c1 rfl (op_as (ltb rfl) rfl) ?_
          refine TriL.nil ?_
          refine Tri.blk ?_
          refine Tri.ofKept (Kept.keep [.s 8, .h, .s 1, .b 1] rfl (by decide) (Kept.now ?_))
          -- LOOP 5
          refine Tri.loopk (fun (i : Nat) => [(.s 8, .sv (.v (.int .i64 (i : Int))))]) _ (fun (i : Nat) => s.msgs.any longM = (s.msgs.drop i).any longM) (fun (i : Nat) => s.msgs.length - i) 0 rfl (by simp) ?_
          rintro i hJ
          refine Tri.seq ?_
          refine Tri.seq ?_
          refine Tri.region ?_
          refine TriL.c1 rfl (op_mv (ltb rfl) rfl) ?_
          refine TriL.c1 rfl (op_fal (ltb rfl) fo25_1_MG rfl) ?_
          refine TriL.c1 rfl (op_ldl (ltb rfl) lk23_MG rfl rfl rfl) ?_
          refine TriL.c1 rfl (op_lenl (ltb rfl) un23_MG rfl) ?_
          refine TriL.c1 rfl (op_bin (ltb rfl) rfl rfl rfl) ?_
          refine TriL.nil ?_
          refine Tri.cond rfl (fun hc9 => ?_) (fun hc9 => ?_)
          · have hi := ltm hc9
            have hS := any_step (p := longM) hi
            have hv := hs.fi hi
            refine Tri.skip ?_
            refine Tri.seq ?_
            refine Tri.blk ?_
            refine Tri.seq ?_
            refine Tri.region ?_
            refine TriL.c1 rfl (op_as (ltb rfl) rfl) ?_
            refine TriL.nil ?_
            refine Tri.blk ?_
            refine Tri.ofKept (Kept.keep [.s 9, .h, .s 1, .b 1, .s 8] rfl (by decide) (Kept.now ?_))
            -- LOOP 6
            refine Tri.loopk (fun (k : Nat) => [(.s 9, .sv (.v (.int .i64 (k : Int))))]) _ (fun (k : Nat) => ((s.msgs[i]'hi).fields.drop k).any (fun f : Fld => decide (1000 < f.name.length) || decide (1000 < f.ref.length) || decide (1000 < f.one.length)) = (s.msgs[i]'hi).fields.any (fun f : Fld => decide (1000 < f.name.length) || decide (1000 < f.ref.length) || decide (1000 < f.one.length))) (fun (k : Nat) => (s.msgs[i]'hi).fields.length - k) 0 rfl (by simp) ?_
            rintro k hK
            refine Tri.seq ?_
            refine Tri.seq ?_
            refine Tri.region ?_
            refine TriL.c1 rfl (op_mv (ltb rfl) rfl) ?_
            refine TriL.c1 rfl (op_fal (ltb rfl) fo25_1_MG rfl) ?_
            refine TriL.c1 rfl (op_ldl (ltb rfl) lk23_MG rfl rfl rfl) ?_
            refine TriL.c1 rfl (op_mv (ltb rfl) rfl) ?_
            refine TriL.c1 rfl (op_iak (ltb rfl) ie23_MG rfl rfl (Int.natCast_nonneg _) (ixm hi) rfl) ?_
            refine TriL.c1 rfl (op_fak (ltb rfl) fo78_1_MG rfl) ?_
            refine TriL.c1 rfl (op_ldk (ltb rfl) lk76_MG rfl rfl) ?_
            refine TriL.c1 rfl (op_lenl (ltb rfl) un76_MG rfl) ?_
            refine TriL.c1 rfl (op_bin (ltb rfl) rfl rfl rfl) ?_
            refine TriL.nil ?_
            refine Tri.cond rfl (fun hc10 => ?_) (fun hc10 => ?_)
            · have hk := ltm hc10
              have hT := any_step (p := (fun f : Fld => decide (1000 < f.name.length) || decide (1000 < f.ref.length) || decide (1000 < f.one.length))) hk
              refine Tri.skip ?_
              refine Tri.seq ?_
              refine Tri.blk ?_
              refine Tri.seq ?_
              refine Tri.region ?_
              refine TriL.c1 rfl (op_fal (ltb rfl) fo25_1_MG rfl) ?_
              refine TriL.c1 rfl (op_ldl (ltb rfl) lk23_MG rfl rfl rfl) ?_
              refine TriL.c1 rfl (op_mv (ltb rfl) rfl) ?_
              refine TriL.c1 rfl (op_iak (ltb rfl) ie23_MG rfl rfl (Int.natCast_nonneg _) (ixm hi) rfl) ?_
              refine TriL.c1 rfl (op_fak (ltb rfl) fo78_1_MG rfl) ?_
              refine TriL.c1 rfl (op_ldk (ltb rfl) lk76_MG rfl rfl) ?_
              refine TriL.c1 rfl (op_mv (ltb rfl) rfl) ?_
              refine TriL.c1 rfl (op_iak (ltb rfl) ie76_MG rfl rfl (Int.natCast_nonneg _) (ixm hk) rfl) ?_
              refine TriL.c1 rfl (op_ldk (ltb rfl) lk98_MG rfl rfl) ?_
              refine TriL.c2 rfl (op_all (ltb rfl) zA98_MG rfl) ?_
              refine TriL.c1 rfl (op_stl lk98_MG rfl rfl rfl rfl rfl (leb rfl)) ?_
              refine TriL.nil ?_
              refine Tri.seq ?_
              refine Tri.region ?_
              refine TriL.c1 rfl (op_fal (ltb rfl) fo98_0_MG rfl) ?_
              refine TriL.c1 rfl (op_ldl (ltb rfl) lk9_MG rfl rfl rfl) ?_
              refine TriL.c1 rfl (op_lens (ltb rfl) un9_MG rfl) ?_
              refine TriL.c1 rfl (op_bin (ltb rfl) rfl rfl rfl) ?_
              refine TriL.c1 rfl (op_mv (ltb rfl) rfl) ?_
              refine TriL.split (d := 147) rfl (fun hg11 => ?_) (fun hg11 => ?_)
              · refine TriL.skipu rfl rfl (ltb rfl) (ltb rfl) rfl hg11 ?_
                refine TriL.skipu rfl rfl (ltb rfl) (ltb rfl) rfl hg11 ?_
                refine TriL.skipu rfl rfl (ltb rfl) (ltb rfl) rfl hg11 ?_
                refine TriL.skipu rfl rfl (ltb rfl) (ltb rfl) rfl hg11 ?_
                refine TriL.c1 rfl (op_pickt (ltb rfl) rfl hg11 rfl) ?_
                refine TriL.c1 rfl (op_mv (ltb rfl) rfl) ?_
                refine TriL.skipu rfl rfl (ltb rfl) (ltb rfl) rfl rfl ?_
                refine TriL.skipu rfl rfl (ltb rfl) (ltb rfl) rfl rfl ?_
                refine TriL.skipu rfl rfl (ltb rfl) (ltb rfl) rfl rfl ?_
                refine TriL.skipu rfl rfl (ltb rfl) (ltb rfl) rfl rfl ?_
                refine TriL.c1 rfl (op_pickt (ltb rfl) rfl rfl rfl) ?_
                refine TriL.nil ?_
                refine Tri.condT rfl rfl ?_
                refine Tri.seq ?_
                refine Tri.region ?_
                refine TriL.c1 rfl (op_as (ltb rfl) rfl) ?_
                refine TriL.nil ?_
                refine Tri.ret ?_
                exact ⟨.inr rfl, (ResOK.r1 rfl (.tmp rfl .nil)).cast (congrArg AV.bool (by grind [Sch.small, longE, longM])), rfl⟩
              · refine TriL.g1 rfl (ltb rfl) rfl hg11 (op_fal (ltb rfl) fo98_3_MG rfl) ?_
                refine TriL.g1 rfl (ltb rfl) rfl hg11 (op_ldl (ltb rfl) lk9_MG rfl rfl rfl) ?_
                refine TriL.g1 rfl (ltb rfl) rfl hg11 (op_lens (ltb rfl) un9_MG rfl) ?_
                refine TriL.g1 rfl (ltb rfl) rfl hg11 (op_bin (ltb rfl) rfl rfl rfl) ?_
                refine TriL.c1 rfl (op_pickf (ltb rfl) rfl hg11 rfl) ?_
                refine TriL.c1 rfl (op_mv (ltb rfl) rfl) ?_
                refine TriL.split (d := 153) rfl (fun hg12 => ?_) (fun hg12 => ?_)
                · refine TriL.skipu rfl rfl (ltb rfl) (ltb rfl) rfl hg12 ?_
                  refine TriL.skipu rfl rfl (ltb rfl) (ltb rfl) rfl hg12 ?_
                  refine TriL.skipu rfl rfl (ltb rfl) (ltb rfl) rfl hg12 ?_
                  refine TriL.skipu rfl rfl (ltb rfl) (ltb rfl) rfl hg12 ?_
                  refine TriL.c1 rfl (op_pickt (ltb rfl) rfl hg12 rfl) ?_
                  refine TriL.nil ?_
                  refine Tri.condT rfl rfl ?_
                  refine Tri.seq ?_
                  refine Tri.region ?_
                  refine TriL.c1 rfl (op_as (ltb rfl) rfl) ?_
                  refine TriL.nil ?_
                  refine Tri.ret ?_
                  exact ⟨.inr rfl, (ResOK.r1 rfl (.tmp rfl .nil)).cast (congrArg AV.bool (by grind [Sch.small, longE, longM])), rfl⟩
                · refine TriL.g1 rfl (ltb rfl) rfl hg12 (op_fal (ltb rfl) fo98_6_MG rfl) ?_
                  refine TriL.g1 rfl (ltb rfl) rfl hg12 (op_ldl (ltb rfl) lk9_MG rfl rfl rfl) ?_
                  refine TriL.g1 rfl (ltb rfl) rfl hg12 (op_lens (ltb rfl) un9_MG rfl) ?_
                  refine TriL.g1 rfl (ltb rfl) rfl hg12 (op_bin (ltb rfl) rfl rfl rfl) ?_
                  refine TriL.c1 rfl (op_pickf (ltb rfl) rfl hg12 rfl) ?_
                  refine TriL.nil ?_
                  refine Tri.cond rfl (fun hc13 => ?_) (fun hc13 => ?_)
                  · refine Tri.seq ?_
                    refine Tri.region ?_
                    refine TriL.c1 rfl (op_as (ltb rfl) rfl) ?_
                    refine TriL.nil ?_
                    refine Tri.ret ?_
                    exact ⟨.inr rfl, (ResOK.r1 rfl (.tmp rfl .nil)).cast (congrArg AV.bool (by grind [Sch.small, longE, longM])), rfl⟩
                  · refine Tri.skip ?_
                    refine Tri.region ?_
                    refine TriL.c1 rfl (op_mv (ltb rfl) rfl) ?_
                    refine TriL.c1 rfl (op_bin (ltb rfl) rfl rfl rfl) ?_
                    refine TriL.c1 rfl (op_as (ltb rfl) rfl) ?_
                    refine TriL.kept (Kept.seti 9 rfl (inc (by omega)) (Kept.keep [.s 9, .h, .s 1, .b 1, .s 8] rfl (by decide) (Kept.now ?_)))
                    exact ⟨k + 1, by omega, by grind, rfl⟩
            · have hk := gem hc10
              have hT := any_end (p := (fun f : Fld => decide (1000 < f.name.length) || decide (1000 < f.ref.length) || decide (1000 < f.one.length))) hk
              refine Tri.exit ?_
              refine Tri.region ?_
              refine TriL.c1 rfl (op_mv (ltb rfl) rfl) ?_
              refine TriL.c1 rfl (op_bin (ltb rfl) rfl rfl rfl) ?_
              refine TriL.c1 rfl (op_as (ltb rfl) rfl) ?_
              refine TriL.kept (Kept.seti 8 rfl (inc (by omega)) (Kept.keep [.s 8, .h, .s 1, .b 1] rfl (by decide) (Kept.now ?_)))
              exact ⟨i + 1, by omega, by grind [longM], rfl⟩
          · have hi := gem hc9
            have hS := any_end (p := longM) hi
            refine Tri.exit ?_
            refine Tri.seq ?_
            refine Tri.region ?_
            refine TriL.c1 rfl (op_as (ltb rfl) rfl) ?_
            refine TriL.nil ?_
            refine Tri.ret ?_
            exact ⟨.inr rfl, (ResOK.r1 rfl (.tmp rfl .nil)).cast (congrArg AV.bool (by grind [Sch.small, longE, longM])), rfl⟩
end Go.Proofs.YtnpgcmeclkncnaaGreatDoor.X
/- the page's example. -/
set_option linter.unusedVariables false
set_option linter.unusedSimpArgs false
set_option linter.unusedSectionVars false
set_option maxRecDepth 100000
namespace Go.Proofs.YtnpgcmeclkncnaaGreatDoor.X
open Go Go.RowKit Go.Proofs
theorem fn24_MH : isFn Tryz.prog 24 = true := by kernel_rfl
theorem fn26_MH : isFn Tryz.prog 26 = true := by kernel_rfl
theorem fn27_MH : isFn Tryz.prog 27 = true := by kernel_rfl
theorem lk25_MH : lk Tryz.prog 25 = some (true, 2) := by kernel_rfl
theorem se23_MH : se Tryz.prog 23 = some (78, 3, 64) := by kernel_rfl
theorem se29_MH : se Tryz.prog 29 = some (83, 2, 32) := by kernel_rfl
theorem se51_MH : se Tryz.prog 51 = some (5, 1, 1) := by kernel_rfl
theorem se76_MH : se Tryz.prog 76 = some (98, 7, 72) := by kernel_rfl
theorem se81_MH : se Tryz.prog 81 = some (86, 3, 48) := by kernel_rfl
theorem spl25_MH : spl Tryz.prog 25 = some [(0, 1), (1, 1)] := by kernel_rfl
theorem spl32_MH : spl Tryz.prog 32 = some [(0, 1), (1, 1)] := by kernel_rfl
theorem spl78_MH : spl Tryz.prog 78 = some [(0, 1), (1, 1), (2, 1)] := by kernel_rfl
theorem spl83_MH : spl Tryz.prog 83 = some [(0, 1), (1, 1)] := by kernel_rfl
theorem spl86_MH : spl Tryz.prog 86 = some [(0, 1), (1, 1), (2, 1)] := by kernel_rfl
theorem spl98_MH : spl Tryz.prog 98 = some [(0, 1), (1, 1), (2, 1), (3, 1), (4, 1), (5, 1), (6, 1)] := by kernel_rfl
theorem zA25_MH : zeroA Tryz.prog 25 = some [AV.sl [], AV.sl []] := by kernel_rfl
theorem zA32_MH : zeroA Tryz.prog 32 = some [AV.sl [], AV.sl []] := by kernel_rfl
theorem zA78_MH : zeroA Tryz.prog 78 = some [AV.str [], AV.sl [], AV.sl []] := by kernel_rfl
theorem zA83_MH : zeroA Tryz.prog 83 = some [AV.int IntKind.i64 (0), AV.sl []] := by kernel_rfl
theorem zA86_MH : zeroA Tryz.prog 86 = some [AV.int IntKind.u64 (0), AV.str [], AV.sl []] := by kernel_rfl
theorem zA98_MH : zeroA Tryz.prog 98 = some [AV.str [], AV.int IntKind.i64 (0), AV.int IntKind.i64 (0), AV.str [], AV.bool false, AV.bool false, AV.str []] := by kernel_rfl
theorem zAe23_MH : zeroA Tryz.prog 78 = some [AV.str [], AV.sl [], AV.sl []] := by kernel_rfl
theorem zAe29_MH : zeroA Tryz.prog 83 = some [AV.int IntKind.i64 (0), AV.sl []] := by kernel_rfl
theorem zAe51_MH : zeroA Tryz.prog 5 = some [AV.int IntKind.u8 (0)] := by kernel_rfl
theorem zAe76_MH : zeroA Tryz.prog 98 = some [AV.str [], AV.int IntKind.i64 (0), AV.int IntKind.i64 (0), AV.str [], AV.bool false, AV.bool false, AV.str []] := by kernel_rfl
theorem zAe81_MH : zeroA Tryz.prog 86 = some [AV.int IntKind.u64 (0), AV.str [], AV.sl []] := by kernel_rfl
def liveS : Sch := ⟨[], [⟨[77], [⟨[97], 1, 1, [], false, false, []⟩], []⟩]⟩
def liveT : Tree := .mk [.mk 1 [.mk 300 [] []]] []
theorem liveS_good : liveS.good := by
  refine { m := by decide, f := by simp [liveS], o := by simp [liveS], n := by simp [liveS]; decide }
theorem liveT_fits : liveT.fits := by
  refine Tree.Every.mk ⟨by decide, by decide, ?_, ?_, ?_, ?_, ?_, ?_⟩ ?_ <;> simp [liveT, Tree.slots, Tree.rest, Slot.vals, Val.m, Val.s, Val.n]
theorem vput300 : vput 300 = [172, 2] := by rw [vput_hi (by decide), vput_lo (by decide)]; rfl
theorem vput8 : vput 8 = [8] := by rw [vput_lo (by decide)]; rfl
theorem liveT_ok : liveT.ok liveS [77] = true := by decide
theorem liveT_enc : liveT.enc liveS [77] = [8, 172, 2] := by
  have h1 : liveS.msgAt [77] = some liveS.msgs[0] := by decide
  have h2 : (liveS.msgs[0]).fix 1 = some (liveS.msgs[0]).fields[0] := by decide
  have h3 : ((liveS.msgs[0]).fields[0]).packed = false := by decide
  have h4 : numT 1 = true := by decide
  have h5 : toT 1 300 = 300 := by decide
  have h6 : wireT 1 = 0 := by decide
  rw [Tree.enc_eq, h1]
  simp only [liveT, Tree.slots, Tree.rest, encS, Slot.enc_eq, Slot.num, Slot.vals, h2, h3, encV, Val.enc_eq, Val.n, Bool.false_eq_true, if_false, List.flatMap_nil, List.append_nil]
  simp only [liveS, List.getElem_cons_zero, h4, h5, h6, if_true, tagB, pay, vput300]
  simp [vput8]
theorem liveT_put : liveT.putR liveS [77] = .tup [.sl [.int .u8 8, .int .u8 172, .int .u8 2], .int .i64 0] := by
  rw [← Tree.put0 (by decide) liveT_ok (by decide) (by rw [liveT_enc]; decide), liveT_enc]; rfl
theorem p_liveput : Pure Tryz.prog 24 [.agg [.sl [], .sl [.agg [.str [77], .sl [.agg [.str [97], .int .i64 1, .int .i64 1, .str [], .bool false, .bool false, .str []]], .sl []]]], .str [77], .agg [.sl [.agg [.int .i64 1, .sl [.agg [.int .u64 300, .str [], .sl []]]]], .sl []]] (.tup [.sl (bsl [8, 172, 2]), .int .i64 0]) := by
  have h := p_put liveS liveS_good [77] liveT liveT_fits (fun _ => by decide) (fun _ => by rw [liveT_enc]; decide)
  rw [liveT_put] at h
  simpa [Tree.cells, Sch.av, Sch.cells, Msg.av, Msg.cells, Fld.av, Fld.cells, liveS, liveT, Tree.slots, Tree.rest, Slot.av, Val.av, valsAV, treesAV, bsl] using h
theorem p_liveb : Pure Tryz.prog 26 [.sl (bsl [8, 172, 2]), .sl [.int .u8 8, .int .u8 172, .int .u8 2]] (.bool true) := (bytes_pure [8, 172, 2] [8, 172, 2]).at rfl
theorem p_lnum (e : Int) : Pure Tryz.prog 27 [.int .i64 e] (.int .i64 e) := by
  refine Pure.of_tri Tryz.func27 rfl rfl (ltb rfl) fun H => ?_
  refine Tri.seq ?_
  refine Tri.region ?_
  refine TriL.c1 rfl (op_as (ltb rfl) rfl) ?_
  refine TriL.nil ?_
  refine Tri.seq ?_
  refine Tri.region ?_
  refine TriL.c1 rfl (op_mv (ltb rfl) rfl) ?_
  refine TriL.c1 rfl (op_as (ltb rfl) rfl) ?_
  refine TriL.nil ?_
  refine Tri.ret ?_
  exact ⟨.inr rfl, (ResOK.r1 rfl (.tmp rfl .nil)).cast rfl, rfl⟩
theorem p_live : Pure Tryz.prog 23 [] (.bool true) := by
  refine Pure.of_tri Tryz.func23 rfl rfl (Nat.zero_le _) fun H => ?_
  refine Tri.seq ?_
  refine Tri.region ?_
  refine TriL.c1 rfl (op_as (ltb rfl) rfl) ?_
  refine TriL.nil ?_
  refine Tri.seq ?_
  refine Tri.region ?_
  refine TriL.c1 rfl (op_bld (ltb rfl) spl98_MH zA98_MH rfl rfl) ?_
  refine TriL.c1 rfl (op_lit («as» := [_]) (ltb rfl) se76_MH zAe76_MH rfl rfl rfl (leb rfl)) ?_
  refine TriL.c1 rfl (op_bld (ltb rfl) spl78_MH zA78_MH rfl rfl) ?_
  refine TriL.c1 rfl (op_lit («as» := [_]) (ltb rfl) se23_MH zAe23_MH rfl rfl rfl (leb rfl)) ?_
  refine TriL.c1 rfl (op_bld (ltb rfl) spl25_MH zA25_MH rfl rfl) ?_
  refine TriL.c2 rfl (op_all (ltb rfl) zA25_MH rfl) ?_
  refine TriL.c1 rfl (op_stl lk25_MH rfl rfl rfl rfl rfl (leb rfl)) ?_
  refine TriL.nil ?_
  refine Tri.seq ?_
  refine Tri.region ?_
  refine TriL.c1 rfl (op_ldl (ltb rfl) lk25_MH rfl rfl rfl) ?_
  refine TriL.c1 rfl (op_bld (ltb rfl) spl86_MH zA86_MH rfl rfl) ?_
  refine TriL.c1 rfl (op_lit («as» := [_]) (ltb rfl) se81_MH zAe81_MH rfl rfl rfl (leb rfl)) ?_
  refine TriL.c1 rfl (op_bld (ltb rfl) spl83_MH zA83_MH rfl rfl) ?_
  refine TriL.c1 rfl (op_lit («as» := [_]) (ltb rfl) se29_MH zAe29_MH rfl rfl rfl (leb rfl)) ?_
  refine TriL.c1 rfl (op_bld (ltb rfl) spl32_MH zA32_MH rfl rfl) ?_
  refine TriL.c1 rfl (op_call (ltb rfl) fn24_MH rfl p_liveput) ?_
  refine TriL.c1 rfl (op_mv (ltb rfl) rfl) ?_
  refine TriL.c1 rfl (op_ext (ltb rfl) rfl rfl) ?_
  refine TriL.c1 rfl (op_ext (ltb rfl) rfl rfl) ?_
  refine TriL.c1 rfl (op_as (ltb rfl) rfl) ?_
  refine TriL.c1 rfl (op_as (ltb rfl) rfl) ?_
  refine TriL.nil ?_
  refine Tri.seq ?_
  refine Tri.region ?_
  refine TriL.c1 rfl (op_mv (ltb rfl) rfl) ?_
  refine TriL.c1 rfl (op_call (ltb rfl) fn27_MH rfl (p_lnum _)) ?_
  refine TriL.c1 rfl (op_bin (ltb rfl) rfl rfl rfl) ?_
  refine TriL.c1 rfl (op_mv (ltb rfl) rfl) ?_
  refine TriL.split (d := 22) rfl (fun hg1 => ?_) (fun hg1 => ?_)
  · refine TriL.g1 rfl (ltb rfl) rfl hg1 (op_mv (ltb rfl) rfl) ?_
    refine TriL.g1 rfl (ltb rfl) rfl hg1 (op_lit («as» := [_, _, _]) (ltb rfl) se51_MH zAe51_MH rfl rfl rfl (leb rfl)) ?_
    refine TriL.g1 rfl (ltb rfl) rfl hg1 (op_call (ltb rfl) fn26_MH rfl p_liveb) ?_
    refine TriL.c1 rfl (op_pickt (ltb rfl) rfl hg1 rfl) ?_
    refine TriL.c1 rfl (op_as (ltb rfl) rfl) ?_
    refine TriL.nil ?_
    refine Tri.ret ?_
    exact ⟨.inr rfl, (ResOK.r1 rfl (.tmp rfl .nil)).cast rfl, rfl⟩
  · refine TriL.skipu rfl rfl (ltb rfl) (ltb rfl) rfl hg1 ?_
    refine TriL.skipu rfl rfl (ltb rfl) (ltb rfl) rfl hg1 ?_
    refine TriL.skipu rfl rfl (ltb rfl) (ltb rfl) rfl hg1 ?_
    refine TriL.c1 rfl (op_pickf (ltb rfl) rfl hg1 rfl) ?_
    refine TriL.c1 rfl (op_as (ltb rfl) rfl) ?_
    refine TriL.nil ?_
    refine Tri.ret ?_
    exact ⟨.inr rfl, (ResOK.r1 rfl (.tmp rfl .nil)).cast (by exact absurd hg1 (by decide)), rfl⟩
end Go.Proofs.YtnpgcmeclkncnaaGreatDoor.X
/- Plain laws: a value's slots one by one. No condition. -/
set_option linter.unusedVariables false
set_option linter.unusedSimpArgs false
namespace Go.Proofs.YtnpgcmeclkncnaaGreatDoor.X
open Go Go.RowKit Go.Proofs
theorem TriL.g3 {P : Program} {N : Nat} {ops : Array Oper} {l : List Oper} {s : St} {Q : St → Prop} {o : Oper} {R : List Comp} {c c' c2 : Comp} {v u y : CV} {d : Nat} {b b' : Bool} (hg : gslot ops o = some (d, b)) (hN : d < N) (hc : get s (.s d) = some (.sv (.v (.bool b')))) (hb : b' = b) (ho : OpOK P N o s R [(c, v), (c', u), (c2, y)]) (h : TriL P N ops l ((c, v) :: (c', u) :: (c2, y) :: s) Q) : TriL P N ops (o :: l) s Q := TriL.on hN hg (hb ▸ hc) ho h
theorem Tree.putB_none {s : Sch} {name : Str} {t : Tree} (h : ¬ t.putE s name = 0) : t.putB s name = [] := by simp [Tree.putB, h]
theorem Tree.put_zero {s : Sch} {name : Str} {t : Tree} (h : t.putE s name = 0) : ¬ s.msgIx name < 0 ∧ t.ok s name = true ∧ t.deep ≤ 16 ∧ (t.enc s name).length ≤ 65536 ∧ t.putB s name = t.enc s name := by
  have h0 := h
  unfold Tree.putE at h
  split at h
  · cases h
  · rename_i h1
    split at h
    · cases h
    · rename_i h2
      split at h
      · cases h
      · rename_i h3
        split at h
        · cases h
        · rename_i h4
          exact ⟨h1, by simpa using h2, by omega, by omega, by simp [Tree.putB, h0]⟩
/-- one slot, alone -/
def Tree.one (x : Slot) : Tree := .mk [x] []
/-- the rest, alone -/
def Tree.tail (r : List Rw) : Tree := .mk [] r
theorem encS_mem {s : Sch} {m : Msg} : ∀ {l : List Slot} {x : Slot}, x ∈ l → (x.enc s m).length ≤ (encS s m l).length
  | y :: l, x, h => by
    simp only [encS, List.length_append]
    rcases List.mem_cons.1 h with rfl | h
    · omega
    · have := encS_mem (s := s) (m := m) h; omega
theorem Tree.one_fits {t : Tree} {x : Slot} (h : t.fits) (hx : x ∈ t.slots) : (Tree.one x).fits := by
  refine Tree.Every.mk ⟨by simp [Tree.one, Tree.slots], by simp [Tree.one, Tree.rest], ?_, ?_, ?_, ?_, by simp [Tree.one, Tree.rest], by simp [Tree.one, Tree.rest]⟩ ?_
  · intro y hy; simp [Tree.one, Tree.slots] at hy; subst hy; exact h.here.v _ hx
  · intro y hy; simp [Tree.one, Tree.slots] at hy; subst hy; exact h.here.m _ hx
  · intro y hy; simp [Tree.one, Tree.slots] at hy; subst hy; exact h.here.vs _ hx
  · intro y hy; simp [Tree.one, Tree.slots] at hy; subst hy; exact h.here.vn _ hx
  · intro y hy v hv u hu; simp [Tree.one, Tree.slots] at hy; subst hy; exact h.sub hu hv hx
theorem Tree.tail_fits {t : Tree} (h : t.fits) : (Tree.tail t.rest).fits :=
  Tree.Every.mk ⟨by simp [Tree.tail, Tree.slots], h.here.r, by simp [Tree.tail, Tree.slots], by simp [Tree.tail, Tree.slots], by simp [Tree.tail, Tree.slots], by simp [Tree.tail, Tree.slots], h.here.rs, h.here.rn⟩ (by simp [Tree.tail, Tree.slots])
theorem one_ok {s : Sch} {name : Str} {t : Tree} {x : Slot} (hix : decide (s.msgIx name < 0) = false) (hx : x.ok s (s.msgs[s.ixN name]'(Sch.ix_lt hix)) = true) : (Tree.one x).ok s name = true := by
  rw [Tree.ok_eq, Sch.ix_at hix]
  simp [Tree.one, Tree.slots, Tree.rest, slotsOk, hx, newOne]
theorem tail_ok {s : Sch} {name : Str} {t : Tree} (h : t.ok s name = true) : (Tree.tail t.rest).ok s name = true := by
  obtain ⟨m, h1, h2, h3, h4, h5⟩ := Tree.ok_slots h
  rw [Tree.ok_eq, h1]
  simpa [Tree.tail, Tree.slots, Tree.rest, slotsOk] using h5
theorem one_enc {s : Sch} {name : Str} {x : Slot} (hix : decide (s.msgIx name < 0) = false) : (Tree.one x).enc s name = x.enc s (s.msgs[s.ixN name]'(Sch.ix_lt hix)) := by
  rw [Tree.enc_eq, Sch.ix_at hix]
  simp [Tree.one, Tree.slots, Tree.rest, encS]
theorem tail_enc {s : Sch} {name : Str} {r : List Rw} (hix : decide (s.msgIx name < 0) = false) : (Tree.tail r).enc s name = r.flatMap Rw.enc := by
  rw [Tree.enc_eq, Sch.ix_at hix]
  simp [Tree.tail, Tree.slots, Tree.rest, encS]
theorem one_deep {t : Tree} {x : Slot} (hx : x ∈ t.slots) : (Tree.one x).deep ≤ t.deep := by
  have := deepS_mem hx
  have e : deepS (Tree.one x).slots = x.deep := by simp [Tree.one, Tree.slots, deepS]
  rw [t.deep_eq, (Tree.one x).deep_eq, e]
  omega
theorem tail_deep (r : List Rw) : (Tree.tail r).deep = 1 := by rw [Tree.deep_eq]; simp [Tree.tail, Tree.slots, deepS]
theorem one_put {s : Sch} {name : Str} {t : Tree} {x : Slot} (hix : decide (s.msgIx name < 0) = false) (hx : x ∈ t.slots) (hok : x.ok s (s.msgs[s.ixN name]'(Sch.ix_lt hix)) = true) (hd : t.deep ≤ 16) (hl : (encS s (s.msgs[s.ixN name]'(Sch.ix_lt hix)) t.slots).length ≤ 65536) :
    AV.tup [.sl (bsl (x.enc s (s.msgs[s.ixN name]'(Sch.ix_lt hix)))), .int .i64 0] = (Tree.one x).putR s name := by
  rw [← Tree.put0 (of_decide_eq_false hix) (one_ok (t := t) hix hok) (by have := one_deep hx; omega) (by rw [one_enc hix]; have := encS_mem (s := s) (m := s.msgs[s.ixN name]'(Sch.ix_lt hix)) hx; omega), one_enc hix]
theorem tail_put {s : Sch} {name : Str} {t : Tree} (hix : decide (s.msgIx name < 0) = false) (hok : t.ok s name = true) (hl : (t.rest.flatMap Rw.enc).length ≤ 65536) :
    AV.tup [.sl (bsl (t.rest.flatMap Rw.enc)), .int .i64 0] = (Tree.tail t.rest).putR s name := by
  rw [← Tree.put0 (of_decide_eq_false hix) (tail_ok hok) (by rw [tail_deep]; omega) (by rw [tail_enc hix]; omega), tail_enc hix]
theorem cut_one {α : Type} {f : α → AV} {xs : List α} {i : Nat} (h : i < xs.length) (hb : i < 9223372036854775807) : ((xs.map f).drop ((i : Nat) : Int).toNat).take ((IntKind.i64.wrap ((i : Int) + 1)).toNat - ((i : Nat) : Int).toNat) = [f xs[i]] := by
  rw [inc hb, Int.toNat_natCast, Int.toNat_natCast, List.drop_eq_getElem_cons (by simpa using h)]
  have : i + 1 - i = 1 := by omega
  rw [this]
  simp
theorem slot_cells (xs : List Slot) : ∀ e ∈ xs.map Slot.av, e.cells.length = 2 := by
  intro e he
  obtain ⟨x, _, rfl⟩ := List.mem_map.1 he
  rw [Slot.av_eq]; rfl
theorem p_one {s : Sch} {name : Str} {t : Tree} (hs : s.good) (hb : t.fits) {i : Nat} (hi : i < t.slots.length) (hix : decide (s.msgIx name < 0) = false) (hok : (t.slots[i]).ok s (s.msgs[s.ixN name]'(Sch.ix_lt hix)) = true) (hd : t.deep ≤ 16) (hl : (encS s (s.msgs[s.ixN name]'(Sch.ix_lt hix)) t.slots).length ≤ 65536) :
    Pure Tryz.prog 24 [s.av, .str name, .agg [.sl (((t.slots.map Slot.av).drop ((i : Nat) : Int).toNat).take ((IntKind.i64.wrap ((i : Int) + 1)).toNat - ((i : Nat) : Int).toNat)), .sl []]] (.tup [.sl (bsl ((t.slots[i]).enc s (s.msgs[s.ixN name]'(Sch.ix_lt hix)))), .int .i64 0]) := by
  have hsl := hb.here.s
  have hx := List.getElem_mem hi
  have h := p_put s hs name (Tree.one t.slots[i]) (Tree.one_fits hb hx) (fun _ => by have := one_deep hx; omega) (fun _ => by rw [one_enc hix]; have := encS_mem (s := s) (m := s.msgs[s.ixN name]'(Sch.ix_lt hix)) hx; omega)
  rw [← one_put hix hx hok hd hl] at h
  refine h.at ?_
  rw [cut_one hi (by omega)]
  rfl
theorem p_tail {s : Sch} {name : Str} {t : Tree} (hs : s.good) (hb : t.fits) (hix : decide (s.msgIx name < 0) = false) (hok : t.ok s name = true) (hl : (t.rest.flatMap Rw.enc).length ≤ 65536) :
    Pure Tryz.prog 24 [s.av, .str name, .agg [.sl [], .sl (t.rest.map Rw.av)]] (.tup [.sl (bsl (t.rest.flatMap Rw.enc)), .int .i64 0]) := by
  have h := p_put s hs name (Tree.tail t.rest) (Tree.tail_fits hb) (fun _ => by rw [tail_deep]; omega) (fun _ => by rw [tail_enc hix]; omega)
  rw [← tail_put hix hok hl] at h
  exact h.at rfl
end Go.Proofs.YtnpgcmeclkncnaaGreatDoor.X
/- EncodeRest. -/
set_option linter.unusedVariables false
set_option linter.unusedSimpArgs false
set_option linter.unusedSectionVars false
set_option maxRecDepth 100000
namespace Go.Proofs.YtnpgcmeclkncnaaGreatDoor.X
open Go Go.RowKit Go.Proofs
theorem fn20_MK : isFn Tryz.prog 20 = true := by kernel_rfl
theorem fn21_MK : isFn Tryz.prog 21 = true := by kernel_rfl
theorem fn22_MK : isFn Tryz.prog 22 = true := by kernel_rfl
theorem fn23_MK : isFn Tryz.prog 23 = true := by kernel_rfl
theorem fn24_MK : isFn Tryz.prog 24 = true := by kernel_rfl
theorem fn26_MK : isFn Tryz.prog 26 = true := by kernel_rfl
theorem fn27_MK : isFn Tryz.prog 27 = true := by kernel_rfl
theorem fo32_0_MK : fo Tryz.prog 32 0 = some 0 := by kernel_rfl
theorem fo32_1_MK : fo Tryz.prog 32 1 = some 1 := by kernel_rfl
theorem ie29_MK : ie Tryz.prog 29 = some 2 := by kernel_rfl
theorem lk25_MK : lk Tryz.prog 25 = some (true, 2) := by kernel_rfl
theorem lk29_MK : lk Tryz.prog 29 = some (false, 1) := by kernel_rfl
theorem lk30_MK : lk Tryz.prog 30 = some (false, 1) := by kernel_rfl
theorem lk32_MK : lk Tryz.prog 32 = some (true, 2) := by kernel_rfl
theorem se51_MK : se Tryz.prog 51 = some (5, 1, 1) := by kernel_rfl
theorem spl32_MK : spl Tryz.prog 32 = some [(0, 1), (1, 1)] := by kernel_rfl
theorem un29_MK : Tryz.prog.underlying 29 = some (TypeDesc.slice 83) := Tryz.underlying29
theorem un51_MK : Tryz.prog.underlying 51 = some (TypeDesc.slice 5) := Tryz.underlying51
theorem zA32_MK : zeroA Tryz.prog 32 = some [AV.sl [], AV.sl []] := by kernel_rfl
theorem zAe51_MK : zeroA Tryz.prog 5 = some [AV.int IntKind.u8 (0)] := by kernel_rfl
theorem l_rest (s : Sch) (hsl : s.lens) (name : Str) (t : Tree) (hb : t.fits) : Pure Tryz.prog 7 [s.av, .str name, .agg t.cells] (.bool true) := by
  have htl := hb.here.s
  refine Pure.of_tri Tryz.func7 rfl rfl (ltb rfl) fun H => ?_
  refine Tri.seq ?_
  refine Tri.region ?_
  refine TriL.c2 rfl (op_box (ltb rfl) rfl rfl rfl) ?_
  refine TriL.c2 rfl (op_box (ltb rfl) rfl rfl rfl) ?_
  refine TriL.c1 rfl (op_as (ltb rfl) rfl) ?_
  refine TriL.nil ?_
  refine Tri.seq ?_
  refine Tri.seq ?_
  refine Tri.region ?_
  refine TriL.c1 rfl (op_ldl (ltb rfl) lk25_MK rfl rfl rfl) ?_
  refine TriL.c1 rfl (op_call (ltb rfl) fn20_MK rfl (r_small s hsl)) ?_
  refine TriL.c1 rfl (op_un (ltb rfl) rfl rfl) ?_
  refine TriL.c1 rfl (op_mv (ltb rfl) rfl) ?_
  refine TriL.split (d := 18) rfl (fun hg1 => ?_) (fun hg1 => ?_)
  · refine TriL.skipu rfl rfl (ltb rfl) (ltb rfl) rfl hg1 ?_
    refine TriL.skipu rfl rfl (ltb rfl) (ltb rfl) rfl hg1 ?_
    refine TriL.skipu rfl rfl (ltb rfl) (ltb rfl) rfl hg1 ?_
    refine TriL.c1 rfl (op_pickt (ltb rfl) rfl hg1 rfl) ?_
    refine TriL.c1 rfl (op_mv (ltb rfl) rfl) ?_
    refine TriL.skipu rfl rfl (ltb rfl) (ltb rfl) rfl rfl ?_
    refine TriL.skipu rfl rfl (ltb rfl) (ltb rfl) rfl rfl ?_
    refine TriL.skipu rfl rfl (ltb rfl) (ltb rfl) rfl rfl ?_
    refine TriL.c1 rfl (op_pickt (ltb rfl) rfl rfl rfl) ?_
    refine TriL.nil ?_
    refine Tri.condT rfl rfl ?_
    refine Tri.seq ?_
    refine Tri.region ?_
    refine TriL.c1 rfl (op_call (ltb rfl) fn23_MK rfl p_live) ?_
    refine TriL.c1 rfl (op_as (ltb rfl) rfl) ?_
    refine TriL.nil ?_
    refine Tri.ret ?_
    exact ⟨.inr rfl, (ResOK.r1 rfl (.tmp rfl .nil)).cast rfl, rfl⟩
  · refine TriL.g1 rfl (ltb rfl) rfl hg1 (op_ldl (ltb rfl) lk25_MK rfl rfl rfl) ?_
    refine TriL.g1 rfl (ltb rfl) rfl hg1 (op_call (ltb rfl) fn21_MK rfl (r_chk s hsl.big)) ?_
    refine TriL.g1 rfl (ltb rfl) rfl hg1 (op_bin (ltb rfl) rfl rfl rfl) ?_
    refine TriL.c1 rfl (op_pickf (ltb rfl) rfl hg1 rfl) ?_
    refine TriL.c1 rfl (op_mv (ltb rfl) rfl) ?_
    refine TriL.split (d := 23) rfl (fun hg2 => ?_) (fun hg2 => ?_)
    · refine TriL.skipu rfl rfl (ltb rfl) (ltb rfl) rfl hg2 ?_
      refine TriL.skipu rfl rfl (ltb rfl) (ltb rfl) rfl hg2 ?_
      refine TriL.skipu rfl rfl (ltb rfl) (ltb rfl) rfl hg2 ?_
      refine TriL.c1 rfl (op_pickt (ltb rfl) rfl hg2 rfl) ?_
      refine TriL.nil ?_
      refine Tri.condT rfl rfl ?_
      refine Tri.seq ?_
      refine Tri.region ?_
      refine TriL.c1 rfl (op_call (ltb rfl) fn23_MK rfl p_live) ?_
      refine TriL.c1 rfl (op_as (ltb rfl) rfl) ?_
      refine TriL.nil ?_
      refine Tri.ret ?_
      exact ⟨.inr rfl, (ResOK.r1 rfl (.tmp rfl .nil)).cast rfl, rfl⟩
    · refine TriL.g1 rfl (ltb rfl) rfl hg2 (op_ldl (ltb rfl) lk32_MK rfl rfl rfl) ?_
      refine TriL.g1 rfl (ltb rfl) rfl hg2 (op_call (ltb rfl) fn22_MK rfl (r_tsmall t hb.big)) ?_
      refine TriL.g1 rfl (ltb rfl) rfl hg2 (op_un (ltb rfl) rfl rfl) ?_
      refine TriL.c1 rfl (op_pickf (ltb rfl) rfl hg2 rfl) ?_
      refine TriL.nil ?_
      refine Tri.cond rfl (fun hc3 => ?_) (fun hc3 => ?_)
      · refine Tri.seq ?_
        refine Tri.region ?_
        refine TriL.c1 rfl (op_call (ltb rfl) fn23_MK rfl p_live) ?_
        refine TriL.c1 rfl (op_as (ltb rfl) rfl) ?_
        refine TriL.nil ?_
        refine Tri.ret ?_
        exact ⟨.inr rfl, (ResOK.r1 rfl (.tmp rfl .nil)).cast rfl, rfl⟩
      · refine Tri.skip ?_
        refine Tri.seq ?_
        refine Tri.region ?_
        refine TriL.c1 rfl (op_ldl (ltb rfl) lk25_MK rfl rfl rfl) ?_
        refine TriL.c1 rfl (op_mv (ltb rfl) rfl) ?_
        refine TriL.c1 rfl (op_ldl (ltb rfl) lk32_MK rfl rfl rfl) ?_
        refine TriL.c1 rfl (op_call (ltb rfl) fn24_MK rfl (p_put s (Sch.chk_good (by simpa using hg2)) name t hb (fun h => by have := (Tree.small_enc (Sch.chk_good (by simpa using hg2)) hb (nfl hc3) h).2; omega) (fun h => by have := (Tree.small_enc (Sch.chk_good (by simpa using hg2)) hb (nfl hc3) h).1; omega))) ?_
        refine TriL.c1 rfl (op_mv (ltb rfl) rfl) ?_
        refine TriL.c1 rfl (op_ext (ltb rfl) rfl rfl) ?_
        refine TriL.c1 rfl (op_ext (ltb rfl) rfl rfl) ?_
        refine TriL.c1 rfl (op_as (ltb rfl) rfl) ?_
        refine TriL.c1 rfl (op_as (ltb rfl) rfl) ?_
        refine TriL.nil ?_
        refine Tri.seq ?_
        refine Tri.seq ?_
        refine Tri.region ?_
        refine TriL.c1 rfl (op_mv (ltb rfl) rfl) ?_
        refine TriL.c1 rfl (op_call (ltb rfl) fn27_MK rfl (p_lnum _)) ?_
        refine TriL.c1 rfl (op_bin (ltb rfl) rfl rfl rfl) ?_
        refine TriL.nil ?_
        refine Tri.cond rfl (fun hc4 => ?_) (fun hc4 => ?_)
        · refine Tri.seq ?_
          refine Tri.region ?_
          refine TriL.c1 rfl (op_mv (ltb rfl) rfl) ?_
          refine TriL.c1 rfl (op_lenl (ltb rfl) un51_MK rfl) ?_
          refine TriL.c1 rfl (op_bin (ltb rfl) rfl rfl rfl) ?_
          refine TriL.c1 rfl (op_mv (ltb rfl) rfl) ?_
          refine TriL.split (d := 42) rfl (fun hg5 => ?_) (fun hg5 => ?_)
          · refine TriL.g1 rfl (ltb rfl) rfl hg5 (op_call (ltb rfl) fn23_MK rfl p_live) ?_
            refine TriL.c1 rfl (op_pickt (ltb rfl) rfl hg5 rfl) ?_
            refine TriL.c1 rfl (op_as (ltb rfl) rfl) ?_
            refine TriL.nil ?_
            refine Tri.ret ?_
            exact ⟨.inr rfl, (ResOK.r1 rfl (.tmp rfl .nil)).cast rfl, rfl⟩
          · refine TriL.skipu rfl rfl (ltb rfl) (ltb rfl) rfl hg5 ?_
            refine TriL.c1 rfl (op_pickf (ltb rfl) rfl hg5 rfl) ?_
            refine TriL.c1 rfl (op_as (ltb rfl) rfl) ?_
            refine TriL.nil ?_
            refine Tri.ret ?_
            exact ⟨.inr rfl, (ResOK.r1 rfl (.tmp rfl .nil)).cast (by rw [Tree.putB_none (by simpa using hc4)] at hg5; exact absurd hg5 (by decide)), rfl⟩
        · obtain ⟨hz1, hok, hdp, hln, hB⟩ := Tree.put_zero (s := s) (name := name) (t := t) (by simpa using hc4)
          obtain ⟨hix, hxs, hrs, hE⟩ := Tree.ok_ix hok
          have hEl : (encS s (s.msgs[s.ixN name]'(Sch.ix_lt hix)) t.slots).length + (t.rest.flatMap Rw.enc).length ≤ 65536 := by rw [hE, List.length_append] at hln; exact hln
          refine Tri.skip ?_
          refine Tri.seq ?_
          refine Tri.region ?_
          refine TriL.c2 rfl (op_litt («as» := []) (ltb rfl) se51_MK zAe51_MK rfl rfl rfl (leb rfl) rfl) ?_
          refine TriL.c1 rfl (op_as (ltb rfl) rfl) ?_
          refine TriL.nil ?_
          refine Tri.seq ?_
          refine Tri.seq ?_
          refine Tri.region ?_
          refine TriL.c1 rfl (op_as (ltb rfl) rfl) ?_
          refine TriL.nil ?_
          refine Tri.blk ?_
          refine Tri.ofKept (Kept.keep [.s 10, .s 9, .t 45, .h, .s 1, .s 3, .b 3, .s 5, .b 5, .s 7] rfl (by decide) (Kept.now ?_))
          -- LOOP 1
          refine Tri.loopk (fun ((i, a) : Nat × List AV) => [(.s 10, .sv (.v (.int .i64 (i : Int)))), (.s 9, .sv (.ow 45 a)), (.t 45, .tk false 5 1 a)]) _ (fun ((i, a) : Nat × List AV) => ∃ x, a = bsl x ∧ x ++ encS s (s.msgs[s.ixN name]'(Sch.ix_lt hix)) (t.slots.drop i) = encS s (s.msgs[s.ixN name]'(Sch.ix_lt hix)) t.slots) (fun ((i, a) : Nat × List AV) => t.slots.length - i) (0, []) rfl ⟨[], rfl, by simp⟩ ?_
          rintro ⟨i, a⟩ ⟨x, rfl, hI⟩
          refine Tri.seq ?_
          refine Tri.seq ?_
          refine Tri.region ?_
          refine TriL.c1 rfl (op_mv (ltb rfl) rfl) ?_
          refine TriL.c1 rfl (op_fal (ltb rfl) fo32_0_MK rfl) ?_
          refine TriL.c1 rfl (op_ldl (ltb rfl) lk29_MK rfl rfl rfl) ?_
          refine TriL.c1 rfl (op_lenl (ltb rfl) un29_MK rfl) ?_
          refine TriL.c1 rfl (op_bin (ltb rfl) rfl rfl rfl) ?_
          refine TriL.nil ?_
          refine Tri.cond rfl (fun hc6 => ?_) (fun hc6 => ?_)
          · have hi := ltm hc6
            have hS := @encS_step s (s.msgs[s.ixN name]'(Sch.ix_lt hix)) t.slots i hi
            refine Tri.skip ?_
            refine Tri.seq ?_
            refine Tri.blk ?_
            refine Tri.seq ?_
            refine Tri.drawn mixed rfl ?_
            refine TriD.c1 rfl (op_ldl (ltb rfl) lk25_MK rfl rfl rfl) ?_
            refine TriD.c1 rfl (op_mv (ltb rfl) rfl) ?_
            refine TriD.c1 rfl (op_fal (ltb rfl) fo32_0_MK rfl) ?_
            refine TriD.c1 rfl (op_ldl (ltb rfl) lk29_MK rfl rfl rfl) ?_
            refine TriD.c1 rfl (op_mv (ltb rfl) rfl) ?_
            refine TriD.c1 rfl (op_mv (ltb rfl) rfl) ?_
            refine TriD.c1 rfl (op_bin (ltb rfl) rfl rfl rfl) ?_
            refine TriD.c1 rfl (op_cutl (ltb rfl) ie29_MK rfl (slot_cells _) rfl rfl (Int.natCast_nonneg _) (by rw [inc (by omega)]; omega) (by rw [inc (by omega)]; simp; omega)) ?_
            refine TriD.c1 rfl (op_bld (ltb rfl) spl32_MK zA32_MK rfl rfl) ?_
            refine TriD.c1 rfl (op_call (ltb rfl) fn24_MK rfl (p_one (Sch.chk_good (by simpa using hg2)) hb hi hix (hxs _ (List.getElem_mem hi)) hdp (by omega))) ?_
            refine TriD.c1 rfl (op_mv (ltb rfl) rfl) ?_
            refine TriD.c1 rfl (op_ext (ltb rfl) rfl rfl) ?_
            refine TriD.c1 rfl (op_ext (ltb rfl) rfl rfl) ?_
            refine TriD.c1 rfl (op_as (ltb rfl) rfl) ?_
            refine TriD.c1 rfl (op_as (ltb rfl) rfl) ?_
            refine TriD.nil (by kernel_rfl) (Kept.now ?_)
            refine Tri.seq ?_
            refine Tri.seq ?_
            refine Tri.region ?_
            refine TriL.c1 rfl (op_mv (ltb rfl) rfl) ?_
            refine TriL.c1 rfl (op_call (ltb rfl) fn27_MK rfl (p_lnum _)) ?_
            refine TriL.c1 rfl (op_bin (ltb rfl) rfl rfl rfl) ?_
            refine TriL.nil ?_
            refine Tri.cond rfl (fun hc7 => ?_) (fun hc7 => ?_)
            · refine Tri.seq ?_
              refine Tri.region ?_
              refine TriL.c1 rfl (op_as (ltb rfl) rfl) ?_
              refine TriL.nil ?_
              refine Tri.ret ?_
              exact ⟨.inr rfl, (ResOK.r1 rfl (.tmp rfl .nil)).cast (by exact absurd hc7 (by decide)), rfl⟩
            · refine Tri.skip ?_
              refine Tri.region ?_
              refine TriL.c1 rfl (op_mv (ltb rfl) rfl) ?_
              refine TriL.c1 rfl (op_mv (ltb rfl) rfl) ?_
              refine TriL.c3 rfl (op_app (ltb rfl) se51_MK rfl rfl rfl (okEls_bsl _) rfl (by have hq := congrArg List.length hI; rw [hS] at hq; simp only [List.length_append, bsl_len] at *; omega) (by have hq := congrArg List.length hI; rw [hS] at hq; simp only [List.length_append, bsl_len] at *; omega)) ?_
              refine TriL.c1 rfl (op_as (ltb rfl) rfl) ?_
              refine TriL.nil ?_
              refine Tri.region ?_
              refine TriL.c1 rfl (op_mv (ltb rfl) rfl) ?_
              refine TriL.c1 rfl (op_bin (ltb rfl) rfl rfl rfl) ?_
              refine TriL.c1 rfl (op_as (ltb rfl) rfl) ?_
              refine TriL.kept (Kept.seti 10 rfl (inc (by omega)) (Kept.keep [.s 10, .s 9, .t 71, .h, .s 1, .s 3, .b 3, .s 5, .b 5, .s 7] rfl (by decide) (Kept.ren 71 45 (by decide) rfl (Kept.now ?_))))
              exact ⟨(i + 1, _), (by dsimp only; omega), ⟨x ++ (t.slots[i]'hi).enc s (s.msgs[s.ixN name]'(Sch.ix_lt hix)), (bsl_app _ _).symm, by rw [List.append_assoc, ← hS]; exact hI⟩, rfl⟩
          · have hi := gem hc6
            have hS := @encS_end s (s.msgs[s.ixN name]'(Sch.ix_lt hix)) t.slots i hi
            refine Tri.exit ?_
            refine Tri.seq ?_
            refine Tri.region ?_
            refine TriL.c1 rfl (op_ldl (ltb rfl) lk25_MK rfl rfl rfl) ?_
            refine TriL.c1 rfl (op_mv (ltb rfl) rfl) ?_
            refine TriL.c1 rfl (op_fal (ltb rfl) fo32_1_MK rfl) ?_
            refine TriL.c1 rfl (op_ldl (ltb rfl) lk30_MK rfl rfl rfl) ?_
            refine TriL.c1 rfl (op_bld (ltb rfl) spl32_MK zA32_MK rfl rfl) ?_
            refine TriL.c1 rfl (op_call (ltb rfl) fn24_MK rfl (p_tail (Sch.chk_good (by simpa using hg2)) hb hix hok (by omega))) ?_
            refine TriL.c1 rfl (op_mv (ltb rfl) rfl) ?_
            refine TriL.c1 rfl (op_ext (ltb rfl) rfl rfl) ?_
            refine TriL.c1 rfl (op_ext (ltb rfl) rfl rfl) ?_
            refine TriL.c1 rfl (op_as (ltb rfl) rfl) ?_
            refine TriL.c1 rfl (op_as (ltb rfl) rfl) ?_
            refine TriL.nil ?_
            refine Tri.seq ?_
            refine Tri.region ?_
            refine TriL.c1 rfl (op_mv (ltb rfl) rfl) ?_
            refine TriL.c1 rfl (op_call (ltb rfl) fn27_MK rfl (p_lnum _)) ?_
            refine TriL.c1 rfl (op_bin (ltb rfl) rfl rfl rfl) ?_
            refine TriL.c1 rfl (op_mv (ltb rfl) rfl) ?_
            refine TriL.split (d := 84) rfl (fun hg8 => ?_) (fun hg8 => ?_)
            · refine TriL.g1 rfl (ltb rfl) rfl hg8 (op_mv (ltb rfl) rfl) ?_
              refine TriL.g1 rfl (ltb rfl) rfl hg8 (op_mv (ltb rfl) rfl) ?_
              refine TriL.g1 rfl (ltb rfl) rfl hg8 (op_mv (ltb rfl) rfl) ?_
              refine TriL.g3 rfl (ltb rfl) rfl hg8 (op_app (ltb rfl) se51_MK rfl rfl rfl (okEls_bsl _) rfl (by have hq := congrArg List.length hI; simp only [List.length_append, bsl_len] at *; omega) (by have hq := congrArg List.length hI; simp only [List.length_append, bsl_len] at *; omega)) ?_
              refine TriL.g1 rfl (ltb rfl) rfl hg8 (op_call (ltb rfl) fn26_MK rfl ((bytes_pure (t.putB s name) (x ++ t.rest.flatMap Rw.enc)).at (by rw [bsl_app]))) ?_
              refine TriL.c1 rfl (op_pickt (ltb rfl) rfl hg8 rfl) ?_
              refine TriL.c1 rfl (op_mv (ltb rfl) rfl) ?_
              refine TriL.split (d := 91) rfl (fun hg9 => ?_) (fun hg9 => ?_)
              · refine TriL.g1 rfl (ltb rfl) rfl hg9 (op_call (ltb rfl) fn23_MK rfl p_live) ?_
                refine TriL.c1 rfl (op_pickt (ltb rfl) rfl hg9 rfl) ?_
                refine TriL.c1 rfl (op_as (ltb rfl) rfl) ?_
                refine TriL.nil ?_
                refine Tri.ret ?_
                exact ⟨.inr rfl, (ResOK.r1 rfl (.tmp rfl .nil)).cast rfl, rfl⟩
              · refine TriL.skipu rfl rfl (ltb rfl) (ltb rfl) rfl hg9 ?_
                refine TriL.c1 rfl (op_pickf (ltb rfl) rfl hg9 rfl) ?_
                refine TriL.c1 rfl (op_as (ltb rfl) rfl) ?_
                refine TriL.nil ?_
                refine Tri.ret ?_
                exact ⟨.inr rfl, (ResOK.r1 rfl (.tmp rfl .nil)).cast (by rw [hS, List.append_nil] at hI; rw [hB, hE, hI] at hg9; simp at hg9), rfl⟩
            · refine TriL.skipu rfl rfl (ltb rfl) (ltb rfl) rfl hg8 ?_
              refine TriL.skipu rfl rfl (ltb rfl) (ltb rfl) rfl hg8 ?_
              refine TriL.skipu rfl rfl (ltb rfl) (ltb rfl) rfl hg8 ?_
              refine TriL.skipu rfl rfl (ltb rfl) (ltb rfl) rfl hg8 ?_
              refine TriL.skipu rfl rfl (ltb rfl) (ltb rfl) rfl hg8 ?_
              refine TriL.c1 rfl (op_pickf (ltb rfl) rfl hg8 rfl) ?_
              refine TriL.c1 rfl (op_mv (ltb rfl) rfl) ?_
              refine TriL.skipu rfl rfl (ltb rfl) (ltb rfl) rfl rfl ?_
              refine TriL.c1 rfl (op_pickf (ltb rfl) rfl rfl rfl) ?_
              refine TriL.c1 rfl (op_as (ltb rfl) rfl) ?_
              refine TriL.nil ?_
              refine Tri.ret ?_
              exact ⟨.inr rfl, (ResOK.r1 rfl (.tmp rfl .nil)).cast (by exact absurd hg8 (by decide)), rfl⟩
end Go.Proofs.YtnpgcmeclkncnaaGreatDoor.X
/- Whatever comes in as a schema or a value is one. No condition. -/
set_option linter.unusedVariables false
set_option linter.unusedSimpArgs false
set_option maxRecDepth 100000
namespace Go.Proofs.YtnpgcmeclkncnaaGreatDoor.X
open Go Go.RowKit Go.Proofs
section
variable {P : Program} {n : Nat} {t e : TypeId} {acs : List AV}
theorem ty_int {k : IntKind} (hu : P.underlying t = some (.int k)) (h : Ty P n t acs) : ∃ m, acs = [.int k m] ∧ (Lit.int k m).wf = true := by
  cases n with
  | zero => exact h.elim
  | succ n => unfold Ty at h; rw [hu] at h; exact h
theorem ty_bool (hu : P.underlying t = some .bool) (h : Ty P n t acs) : ∃ b, acs = [.bool b] := by
  cases n with
  | zero => exact h.elim
  | succ n => unfold Ty at h; rw [hu] at h; exact h
theorem ty_str (hu : P.underlying t = some .string) (h : Ty P n t acs) : ∃ s : Str, acs = [.str s] ∧ s.length ≤ 140737488355328 := by
  cases n with
  | zero => exact h.elim
  | succ n => unfold Ty at h; rw [hu] at h; obtain ⟨s, h1, h2⟩ := h; exact ⟨s, h1, by unfold reachBytes at h2; omega⟩
theorem ty_slice (hu : P.underlying t = some (.slice e)) (hb : 1 ≤ P.bytesOf e) (h : Ty P n t acs) : ∃ (k : Nat) (css : List (List AV)), k < n ∧ acs = [.sl (css.map (pack P e))] ∧ css.length ≤ 140737488355328 ∧ ∀ c ∈ css, Ty P k e c := by
  cases n with
  | zero => exact h.elim
  | succ n =>
    unfold Ty at h; rw [hu] at h
    obtain ⟨css, h1, h2, h3⟩ := h
    refine ⟨n, css, by omega, h1, ?_, h3⟩
    have : css.length * 1 ≤ css.length * P.bytesOf e := Nat.mul_le_mul_left _ hb
    unfold reachBytes at h2
    omega
theorem ty_struct {fs : Array Field} (hu : P.underlying t = some (.struct fs)) (h : Ty P n t acs) : ∃ k, k < n ∧ TyF P (Ty P k) (fs.toList.map (·.type)) acs := by
  cases n with
  | zero => exact h.elim
  | succ n => unfold Ty at h; rw [hu] at h; exact ⟨n, by omega, h⟩
theorem tyf_cons {R : TypeId → List AV → Prop} {t : TypeId} {ts : List TypeId} (h : TyF P R (t :: ts) acs) : ∃ a b, acs = a ++ b ∧ R t a ∧ TyF P R ts b := by
  obtain ⟨a, b, h1, _, h3, h4⟩ := h; exact ⟨a, b, h1, h3, h4⟩
theorem tyf_nil {R : TypeId → List AV → Prop} (h : TyF P R [] acs) : acs = [] := h
theorem pack_struct {fs : Array Field} (hu : P.underlying t = some (.struct fs)) (cs : List AV) : pack P t cs = .agg cs := by unfold pack; rw [hu]
theorem list_of {α : Type} {f : α → List AV} {Q : α → Prop} : ∀ {css : List (List AV)}, (∀ c ∈ css, ∃ x : α, c = f x ∧ Q x) → ∃ xs : List α, css = xs.map f ∧ ∀ x ∈ xs, Q x
  | [], _ => ⟨[], rfl, by simp⟩
  | c :: css, h => by
    obtain ⟨x, h1, h2⟩ := h c (by simp)
    obtain ⟨xs, h3, h4⟩ := list_of (css := css) fun c hc => h c (by simp [hc])
    exact ⟨x :: xs, by simp [h1, h3], by intro y hy; rcases List.mem_cons.1 hy with rfl | hy; exact h2; exact h4 y hy⟩
end
theorem map_pack {α : Type} {P : Program} {t : TypeId} {f : α → List AV} {g : α → AV} (h : ∀ x, pack P t (f x) = g x) (xs : List α) : (xs.map f).map (pack P t) = xs.map g := by
  rw [List.map_map]; congr 1; funext x; exact h x
theorem wfU64 {m : Int} (h : (Lit.int .u64 m).wf = true) : ∃ k : Nat, m = (k : Int) ∧ k < 18446744073709551616 := by
  have : 0 ≤ m ∧ m ≤ 18446744073709551615 := by simpa [Lit.wf, IntKind.min, IntKind.max, IntKind.signed, IntKind.bits] using h
  exact ⟨m.toNat, by omega, by omega⟩
abbrev TY := Ty Tryz.prog
theorem ty_fld {n : Nat} {acs : List AV} (h : TY n 98 acs) : ∃ f : Fld, acs = f.cells := by
  obtain ⟨k, _, h⟩ := ty_struct Tryz.underlying98 h
  obtain ⟨a1, b1, rfl, h1, wa1⟩ := tyf_cons h; obtain ⟨s1, rfl, _⟩ := ty_str Tryz.underlying9 h1
  obtain ⟨a2, b2, rfl, h1, wa2⟩ := tyf_cons wa1; obtain ⟨s2, rfl, _⟩ := ty_int Tryz.underlying3 h1
  obtain ⟨a3, b3, rfl, h1, wa3⟩ := tyf_cons wa2; obtain ⟨s3, rfl, _⟩ := ty_int Tryz.underlying3 h1
  obtain ⟨a4, b4, rfl, h1, wa4⟩ := tyf_cons wa3; obtain ⟨s4, rfl, _⟩ := ty_str Tryz.underlying9 h1
  obtain ⟨a5, b5, rfl, h1, wa5⟩ := tyf_cons wa4; obtain ⟨s5, rfl⟩ := ty_bool Tryz.underlying4 h1
  obtain ⟨a6, b6, rfl, h1, wa6⟩ := tyf_cons wa5; obtain ⟨s6, rfl⟩ := ty_bool Tryz.underlying4 h1
  obtain ⟨a7, b7, rfl, h1, wa7⟩ := tyf_cons wa6; obtain ⟨s7, rfl, _⟩ := ty_str Tryz.underlying9 h1
  obtain rfl := tyf_nil wa7
  exact ⟨⟨s1, s2, s3, s4, s5, s6, s7⟩, rfl⟩
theorem pk_fld (f : Fld) : pack Tryz.prog 98 f.cells = f.av := pack_struct Tryz.underlying98 _
theorem pk_int (m : Int) : pack Tryz.prog 3 [.int .i64 m] = iAV m := by unfold pack; rw [Tryz.underlying3]; rfl
theorem ty_msg {n : Nat} {acs : List AV} (h : TY n 78 acs) : ∃ m : Msg, acs = m.cells ∧ m.fields.length ≤ 140737488355328 := by
  obtain ⟨k, _, h⟩ := ty_struct Tryz.underlying78 h
  obtain ⟨a1, b1, rfl, h1, wa1⟩ := tyf_cons h; obtain ⟨s1, rfl, _⟩ := ty_str Tryz.underlying9 h1
  obtain ⟨a2, b2, rfl, h1, wa2⟩ := tyf_cons wa1; obtain ⟨k2, l2, _, rfl, e2, h2⟩ := ty_slice Tryz.underlying76 (by decide +kernel) h1
  obtain ⟨a3, b3, rfl, h1, wa3⟩ := tyf_cons wa2; obtain ⟨k3, l3, _, rfl, e3, h3⟩ := ty_slice Tryz.underlying67 (by decide +kernel) h1
  obtain rfl := tyf_nil wa3
  obtain ⟨xs, rfl, _⟩ := list_of (f := Fld.cells) (Q := fun _ => True) fun c hc => (by obtain ⟨f, hf⟩ := ty_fld (h2 c hc); exact ⟨f, hf, trivial⟩)
  obtain ⟨ys, rfl, _⟩ := list_of (f := fun m : Int => [AV.int .i64 m]) (Q := fun _ => True) fun c hc => (by obtain ⟨m, hm, _⟩ := ty_int Tryz.underlying3 (h3 c hc); exact ⟨m, hm, trivial⟩)
  rw [map_pack pk_fld, map_pack pk_int]
  exact ⟨⟨s1, xs, ys⟩, rfl, by simpa using e2⟩
theorem pk_msg (f : Msg) : pack Tryz.prog 78 f.cells = f.av := pack_struct Tryz.underlying78 _
theorem ty_vlu {n : Nat} {acs : List AV} (h : TY n 96 acs) : ∃ f : Vlu, acs = f.cells := by
  obtain ⟨k, _, h⟩ := ty_struct Tryz.underlying96 h
  obtain ⟨a1, b1, rfl, h1, wa1⟩ := tyf_cons h; obtain ⟨s1, rfl, _⟩ := ty_str Tryz.underlying9 h1
  obtain ⟨a2, b2, rfl, h1, wa2⟩ := tyf_cons wa1; obtain ⟨s2, rfl, _⟩ := ty_int Tryz.underlying3 h1
  obtain rfl := tyf_nil wa2
  exact ⟨⟨s1, s2⟩, rfl⟩
theorem pk_vlu (f : Vlu) : pack Tryz.prog 96 f.cells = f.av := pack_struct Tryz.underlying96 _
theorem ty_enm {n : Nat} {acs : List AV} (h : TY n 94 acs) : ∃ m : Enm, acs = m.cells ∧ m.values.length ≤ 140737488355328 := by
  obtain ⟨k, _, h⟩ := ty_struct Tryz.underlying94 h
  obtain ⟨a1, b1, rfl, h1, wa1⟩ := tyf_cons h; obtain ⟨s1, rfl, _⟩ := ty_str Tryz.underlying9 h1
  obtain ⟨a2, b2, rfl, h1, wa2⟩ := tyf_cons wa1; obtain ⟨k2, l2, _, rfl, e2, h2⟩ := ty_slice Tryz.underlying92 (by decide +kernel) h1
  obtain rfl := tyf_nil wa2
  obtain ⟨xs, rfl, _⟩ := list_of (f := Vlu.cells) (Q := fun _ => True) fun c hc => (by obtain ⟨f, hf⟩ := ty_vlu (h2 c hc); exact ⟨f, hf, trivial⟩)
  rw [map_pack pk_vlu]
  exact ⟨⟨s1, xs⟩, rfl, by simpa using e2⟩
theorem pk_enm (f : Enm) : pack Tryz.prog 94 f.cells = f.av := pack_struct Tryz.underlying94 _
theorem ty_sch {n : Nat} {acs : List AV} (h : TY n 25 acs) : ∃ s : Sch, acs = s.cells ∧ s.lens := by
  obtain ⟨k, _, h⟩ := ty_struct Tryz.underlying25 h
  obtain ⟨a1, b1, rfl, h1, wa1⟩ := tyf_cons h; obtain ⟨k1, l1, _, rfl, e1, h1⟩ := ty_slice Tryz.underlying22 (by decide +kernel) h1
  obtain ⟨a2, b2, rfl, h2, wa2⟩ := tyf_cons wa1; obtain ⟨k2, l2, _, rfl, e2, h2⟩ := ty_slice Tryz.underlying23 (by decide +kernel) h2
  obtain rfl := tyf_nil wa2
  obtain ⟨xs, rfl, hx⟩ := list_of (f := Enm.cells) (Q := fun m => m.values.length ≤ 140737488355328) fun c hc => ty_enm (h1 c hc)
  obtain ⟨ys, rfl, hy⟩ := list_of (f := Msg.cells) (Q := fun m => m.fields.length ≤ 140737488355328) fun c hc => ty_msg (h2 c hc)
  rw [map_pack pk_enm, map_pack pk_msg]
  exact ⟨⟨xs, ys⟩, rfl, ⟨by simpa using e1, by simpa using e2, hx, hy⟩⟩
theorem pk_sch (f : Sch) : pack Tryz.prog 25 f.cells = f.av := pack_struct Tryz.underlying25 _
theorem ty_raw {n : Nat} {acs : List AV} (h : TY n 131 acs) : ∃ f : Rw, acs = f.cells ∧ f.s.length ≤ 140737488355328 ∧ f.n < 18446744073709551616 := by
  obtain ⟨k, _, h⟩ := ty_struct Tryz.underlying131 h
  obtain ⟨a1, b1, rfl, h1, wa1⟩ := tyf_cons h; obtain ⟨s1, rfl, _⟩ := ty_int Tryz.underlying3 h1
  obtain ⟨a2, b2, rfl, h1, wa2⟩ := tyf_cons wa1; obtain ⟨s2, rfl, _⟩ := ty_int Tryz.underlying3 h1
  obtain ⟨a3, b3, rfl, h1, wa3⟩ := tyf_cons wa2; obtain ⟨s3, rfl, w3⟩ := ty_int Tryz.underlying84 h1
  obtain ⟨a4, b4, rfl, h1, wa4⟩ := tyf_cons wa3; obtain ⟨s4, rfl, w4⟩ := ty_str Tryz.underlying9 h1
  obtain rfl := tyf_nil wa4
  obtain ⟨k3, rfl, hk⟩ := wfU64 w3
  exact ⟨⟨s1, s2, k3, s4⟩, rfl, w4, hk⟩
theorem pk_raw (f : Rw) : pack Tryz.prog 131 f.cells = f.av := pack_struct Tryz.underlying131 _
theorem pk_val (f : Val) : pack Tryz.prog 86 f.cells = f.av := by rw [pack_struct Tryz.underlying86, Val.av_eq]
theorem pk_slot (f : Slot) : pack Tryz.prog 83 f.cells = f.av := by rw [pack_struct Tryz.underlying83, Slot.av_eq]
theorem pk_tree (f : Tree) : pack Tryz.prog 32 f.cells = f.av := by rw [pack_struct Tryz.underlying32, Tree.av_eq]
def Val.fits (v : Val) : Prop := v.n < 18446744073709551616 ∧ v.s.length ≤ 140737488355328 ∧ v.m.length ≤ 140737488355328 ∧ ∀ u ∈ v.m, u.fits
def Slot.fits (x : Slot) : Prop := x.vals.length ≤ 140737488355328 ∧ ∀ v ∈ x.vals, v.fits
theorem ty_val {n : Nat} {acs : List AV} (ih : ∀ k < n, ∀ acs, TY k 32 acs → ∃ t : Tree, acs = t.cells ∧ t.fits) (h : TY n 86 acs) : ∃ v : Val, acs = v.cells ∧ v.fits := by
  obtain ⟨k, hk, h⟩ := ty_struct Tryz.underlying86 h
  obtain ⟨a1, b1, rfl, h1, wa1⟩ := tyf_cons h; obtain ⟨s1, rfl, w1⟩ := ty_int Tryz.underlying84 h1
  obtain ⟨a2, b2, rfl, h1, wa2⟩ := tyf_cons wa1; obtain ⟨s2, rfl, w2⟩ := ty_str Tryz.underlying9 h1
  obtain ⟨a3, b3, rfl, h1, wa3⟩ := tyf_cons wa2; obtain ⟨k3, l3, hk3, rfl, e3, h3⟩ := ty_slice Tryz.underlying63 (by decide +kernel) h1
  obtain rfl := tyf_nil wa3
  obtain ⟨k1, rfl, hk1⟩ := wfU64 w1
  obtain ⟨xs, rfl, hx⟩ := list_of (f := Tree.cells) (Q := Tree.fits) fun c hc => ih k3 (by omega) c (h3 c hc)
  rw [map_pack pk_tree]
  exact ⟨.mk k1 s2 xs, rfl, hk1, w2, by rw [List.length_map] at e3; exact e3, hx⟩
theorem ty_slot {n : Nat} {acs : List AV} (ih : ∀ k < n, ∀ acs, TY k 32 acs → ∃ t : Tree, acs = t.cells ∧ t.fits) (h : TY n 83 acs) : ∃ v : Slot, acs = v.cells ∧ v.fits := by
  obtain ⟨k, hk, h⟩ := ty_struct Tryz.underlying83 h
  obtain ⟨a1, b1, rfl, h1, wa1⟩ := tyf_cons h; obtain ⟨s1, rfl, w1⟩ := ty_int Tryz.underlying3 h1
  obtain ⟨a3, b3, rfl, h1, wa3⟩ := tyf_cons wa1; obtain ⟨k3, l3, hk3, rfl, e3, h3⟩ := ty_slice Tryz.underlying81 (by decide +kernel) h1
  obtain rfl := tyf_nil wa3
  obtain ⟨xs, rfl, hx⟩ := list_of (f := Val.cells) (Q := Val.fits) fun c hc => ty_val (n := k3) (fun j hj => ih j (by omega)) (h3 c hc)
  rw [map_pack pk_val]
  exact ⟨.mk s1 xs, rfl, by rw [List.length_map] at e3; exact e3, hx⟩
theorem ty_tree : ∀ (n : Nat) (acs : List AV), TY n 32 acs → ∃ t : Tree, acs = t.cells ∧ t.fits := by
  intro n
  induction n using Nat.strongRecOn with
  | _ n ih =>
    intro acs h
    obtain ⟨k, hk, h⟩ := ty_struct Tryz.underlying32 h
    obtain ⟨a1, b1, rfl, h1, wa1⟩ := tyf_cons h; obtain ⟨k1, l1, hk1, rfl, e1, h1⟩ := ty_slice Tryz.underlying29 (by decide +kernel) h1
    obtain ⟨a2, b2, rfl, h2, wa2⟩ := tyf_cons wa1; obtain ⟨k2, l2, hk2, rfl, e2, h2⟩ := ty_slice Tryz.underlying30 (by decide +kernel) h2
    obtain rfl := tyf_nil wa2
    obtain ⟨xs, rfl, hx⟩ := list_of (f := Slot.cells) (Q := Slot.fits) fun c hc => ty_slot (n := k1) (fun j hj => ih j (by omega)) (h1 c hc)
    obtain ⟨ys, rfl, hy⟩ := list_of (f := Rw.cells) (Q := fun r => r.s.length ≤ 140737488355328 ∧ r.n < 18446744073709551616) fun c hc => ty_raw (h2 c hc)
    rw [map_pack pk_slot, map_pack pk_raw]
    refine ⟨.mk xs ys, rfl, Tree.Every.mk ⟨by rw [List.length_map] at e1; exact e1, by rw [List.length_map] at e2; exact e2, fun x h => (hx x h).1, fun x h v hv => ((hx x h).2 v hv).2.2.1, fun x h v hv => ((hx x h).2 v hv).2.1, fun x h v hv => ((hx x h).2 v hv).1, fun r h => (hy r h).1, fun r h => (hy r h).2⟩ fun x h v hv => ((hx x h).2 v hv).2.2.2⟩
end Go.Proofs.YtnpgcmeclkncnaaGreatDoor.X
/- The last text's frame: what a row lists of the package variables; arguments of plain types. No condition. -/
set_option linter.unusedVariables false
set_option maxRecDepth 100000
namespace Go.Proofs.YtnpgcmeclkncnaaGreatDoor.X
open Go Go.RowKit Go.Proofs
theorem fn2_LW : isFn Tryz.prog 2 = true := by kernel_rfl
/-- A row's wrap that keeps what is listed, the world's shape, and how much is reached. -/
theorem returns_sized {H : Type} {enc : TypeId × Value → H} {a : Assume} {C : Checked} {os : Os} {f : FuncId} {fn : Func} {s : ChangeSpec} {conds : List PathCond} {apart fresh handsOn again : Bool} {X : World → Array Value → Prop}
    (hX : ∀ (w w' : World) (args : Array Value), w.heap = w'.heap → X w args → X w' args) (own : ownKnob C.prog.godebug = none) (started : os.Started) (noInit : C.prog.inits.idxOf? f = none) (hfn : C.prog.funcs[f]? = some fn)
    (witness : ∃ (w : World) (tape : Tape) (i : Input), w.os = os ∧ (w.forCall tape i).Shaped C.prog ∧ i.vars = [] ∧ Input.okWide C.prog (w.forCall tape i) .any w.heap.size f i ∧
      ((s.pre enc C.prog fn conds apart (w.forCall tape i).memory i.args ∧ X (w.forCall tape i).memory i.args) ∧ sizedMet enc C.prog fn (OpenSpec.ofChange s) apart (w.forCall tape i).memory i.args) ∧ a.holds C.prog (lone (Frame.enter C.prog f i.args .normal) [] (w.forCall tape i)))
    (contract : ∀ (W : World) (base : Nat) (args : Array Value) (ds gs : List (DataW H)) (before : List MemPlace), (∀ (j : Nat) t v, fn.params[j]? = some t → args[j]? = some v → Value.okWide C.prog W .any base t v) →
      DataW.Whole enc C.prog fn.params.toList s.vars apart W args.toList ds gs before → (DataW.weightsEach C.prog (fn.params.toList ++ s.plain.varTypes C.prog) (ds ++ gs)).all (· ≤ reachBytes) = true → X W args → W.ShapedOpen C.prog →
      Calls C.prog f args W fun e W' => ∃ v, e = .returned v ∧ s.post enc C.prog fn apart fresh handsOn again W args v W') :
    ReturnsInHanded a C os f .any (fun w args => (s.pre enc C.prog fn conds apart w args ∧ X w args) ∧ sizedMet enc C.prog fn (OpenSpec.ofChange s) apart w args) (s.post enc C.prog fn apart fresh handsOn again) := by
  refine returnsInHanded_of_calls own started noInit witness fun w tape i _ hsh _ hok hpre _ => ?_
  obtain ⟨_, _, _, fn2_LW, hfn2, _, _, _, _, hval⟩ := hok
  cases Option.some.inj (hfn2.symm.trans hfn)
  obtain ⟨⟨⟨ds, gs, before, hw, _⟩, hx⟩, hz⟩ := hpre
  refine (contract (w.forCall tape i) w.heap.size i.args ds gs before hval (DataW.Whole.of_heap (w' := w.forCall tape i) (by rfl) hw) (hz.weights hw) (hX _ _ _ (by rfl) hx) hsh).mono ?_
  rintro e W' ⟨v, rfl, hp⟩
  exact ChangeSpec.post_blind hp
abbrev laid2 : List (String × DataW Unit) := [("unicode/utf8.acceptRanges", Rows.laid_unicode_utf8_acceptRanges), ("unicode/utf8.first", Rows.laid_unicode_utf8_first)]
theorem acceptD : (Rows.laid_unicode_utf8_acceptRanges : DataW Unit) = Lib.acceptData := by rfl
theorem firstD : (Rows.laid_unicode_utf8_first : DataW Unit) = Lib.firstData := by rfl
theorem known2 {W : World} (h : laidMetH Tryz.prog laid2 W) : gok W ∧ gN ≤ W.heap.size := by
  rw [MakeChecks.laidMetH_plain _ _ _ (by kernel_rfl)] at h
  have h1 : Lib.VarReads Tryz.prog W "unicode/utf8.first" Lib.firstData := firstD ▸ Lib.laidMet.reads h (by simp [laid2])
  have h2 : Lib.VarReads Tryz.prog W "unicode/utf8.acceptRanges" Lib.acceptData := acceptD ▸ Lib.laidMet.reads h (by simp [laid2])
  refine ⟨utf8Tabs_of_readsT (ρ := Tryz.laysVS_ren) (U8Types.of196 Tryz.laysVS) ⟨by kernel_rfl, by kernel_rfl, by kernel_rfl, by kernel_rfl, by kernel_rfl, by kernel_rfl, by kernel_rfl⟩ h1 h2, ?_⟩
  obtain ⟨g, t, cs, fuel, p, hg, _, hv, _⟩ := h2
  obtain rfl : 1 = g := Option.some.inj ((show Tryz.prog.globalNamed "unicode/utf8.acceptRanges" = some 1 by kernel_rfl).symm.trans hg)
  simp only [World.var?, hg, Option.bind_some] at hv
  split at hv
  · rename_i e
    have := (Array.getElem?_eq_some_iff.1 e).1
    exact this
  · cases hv
/-- the types of the data that the program speaks of -/
def plainS : List TypeId := [25, 22, 94, 92, 96, 23, 78, 76, 98, 67, 3, 9, 4, 84, 32, 29, 83, 81, 86, 63, 30, 131]
theorem plainS_ok : plainS.all (plainT Tryz.prog plainS) = true := by decide +kernel
section
variable {H : Type} {enc : TypeId × Value → H} {W : World}
theorem open_sch {r : Reach} {b0 : Nat} {v : Value} {d : DataW H} {ps : List MemPlace} (hval : Value.okWide Tryz.prog W r b0 25 v) (hd : DataW.Trod enc Tryz.prog W 0 (fun _ => true) true 25 v d ps) (hw : ∀ k ∈ d.weights Tryz.prog 25, k ≤ reachBytes) :
    ∃ s : Sch, s.lens ∧ V (gh0 W) v s.av := by
  obtain ⟨acs, n, h1, h2⟩ := open_arg plainS plainS_ok (by decide) hval hd hw
  obtain ⟨s, rfl, hs⟩ := ty_sch h2
  exact ⟨s, hs, pk_sch s ▸ h1⟩
theorem open_tree {r : Reach} {b0 : Nat} {v : Value} {d : DataW H} {ps : List MemPlace} (hval : Value.okWide Tryz.prog W r b0 32 v) (hd : DataW.Trod enc Tryz.prog W 0 (fun _ => true) true 32 v d ps) (hw : ∀ k ∈ d.weights Tryz.prog 32, k ≤ reachBytes) :
    ∃ t : Tree, t.fits ∧ V (gh0 W) v (.agg t.cells) := by
  obtain ⟨acs, n, h1, h2⟩ := open_arg plainS plainS_ok (by decide) hval hd hw
  obtain ⟨s, rfl, hs⟩ := ty_tree n _ h2
  exact ⟨s, hs, pack_struct Tryz.underlying32 _ ▸ h1⟩
end
end Go.Proofs.YtnpgcmeclkncnaaGreatDoor.X
