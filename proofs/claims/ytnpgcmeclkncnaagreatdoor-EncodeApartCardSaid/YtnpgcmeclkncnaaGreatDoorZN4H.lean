/- tag: its functions. -/
import Derived.Test.YtnpgcmeclkncnaaGreatDoorZN4G
set_option linter.unusedVariables false
set_option linter.unusedSimpArgs false
set_option maxRecDepth 100000
namespace Go.Proofs.YtnpgcmeclkncnaaGreatDoor.X
open Go Go.RowKit Go.Proofs
theorem fn202_E2 : isFn Tryz.prog 202 = true := by kernel_rfl
def numok (n : Int) : Bool := decide (1 ≤ n ∧ n ≤ 536870911)
theorem number_pure (n : Int) : Pure Tryz.prog 202 [.int .i64 n] (.bool (numok n)) := by
  refine Pure.of_tri Tryz.func202 rfl rfl (ltb rfl) fun H => ?_
  refine Tri.seq ?_
  refine Tri.region ?_
  refine TriL.c1 rfl (op_as (ltb rfl) rfl) ?_
  refine TriL.nil ?_
  refine Tri.seq ?_
  refine Tri.region ?_
  refine TriL.c1 rfl (op_mv (ltb rfl) rfl) ?_
  refine TriL.c1 rfl (op_bin (ltb rfl) rfl rfl rfl) ?_
  refine TriL.c1 rfl (op_mv (ltb rfl) rfl) ?_
  refine TriL.split (d := 5) rfl (fun hg1 => ?_) (fun hg1 => ?_)
  · refine TriL.g1 rfl (ltb rfl) rfl hg1 (op_mv (ltb rfl) rfl) ?_
    refine TriL.g1 rfl (ltb rfl) rfl hg1 (op_bin (ltb rfl) rfl rfl rfl) ?_
    refine TriL.c1 rfl (op_pickt (ltb rfl) rfl hg1 rfl) ?_
    refine TriL.c1 rfl (op_as (ltb rfl) rfl) ?_
    refine TriL.nil ?_
    refine Tri.ret ?_
    exact ⟨.inr rfl, (ResOK.r1 rfl (.tmp rfl .nil)).cast (by exact res_bool (by (try simp only [decide_eq_true_eq, decide_eq_false_iff_not, beq_iff_eq, beq_eq_false_iff_ne, ne_eq] at *); (try simp only [numok, rightok]); first | exact decide_eq_decide.2 (by omega) | exact (decide_eq_true (by omega)).symm | exact (decide_eq_false (by omega)).symm)), rfl⟩
  · refine TriL.skip rfl rfl (ltb rfl) rfl hg1 ?_
    refine TriL.skip rfl rfl (ltb rfl) rfl hg1 ?_
    refine TriL.c1 rfl (op_pickf (ltb rfl) rfl hg1 rfl) ?_
    refine TriL.c1 rfl (op_as (ltb rfl) rfl) ?_
    refine TriL.nil ?_
    refine Tri.ret ?_
    exact ⟨.inr rfl, (ResOK.r1 rfl (.tmp rfl .nil)).cast (by exact res_bool (by (try simp only [decide_eq_true_eq, decide_eq_false_iff_not, beq_iff_eq, beq_eq_false_iff_ne, ne_eq] at *); (try simp only [numok, rightok]); first | exact decide_eq_decide.2 (by omega) | exact (decide_eq_true (by omega)).symm | exact (decide_eq_false (by omega)).symm)), rfl⟩
def rightok (n w : Int) : Bool := decide ((w = 0 ∨ w = 1 ∨ w = 2 ∨ w = 5) ∧ 1 ≤ n ∧ n ≤ 536870911)
theorem right_pure (n w : Int) : Pure Tryz.prog 172 [.int .i64 n, .int .i64 w] (.bool (rightok n w)) := by
  refine Pure.of_tri Tryz.func172 rfl rfl (ltb rfl) fun H => ?_
  refine Tri.seq ?_
  refine Tri.region ?_
  refine TriL.c1 rfl (op_as (ltb rfl) rfl) ?_
  refine TriL.nil ?_
  refine Tri.seq ?_
  refine Tri.region ?_
  refine TriL.c1 rfl (op_as (ltb rfl) rfl) ?_
  refine TriL.nil ?_
  refine Tri.seq ?_
  refine Tri.seq ?_
  refine Tri.region ?_
  refine TriL.c1 rfl (op_mv (ltb rfl) rfl) ?_
  refine TriL.nil ?_
  refine Tri.blk ?_   -- 0
  refine Tri.seq ?_
  refine Tri.blk ?_   -- 3
  refine Tri.blk ?_   -- 2
  refine Tri.blk ?_   -- 1
  refine Tri.seq ?_
  refine Tri.seq ?_
  refine Tri.seq ?_
  refine Tri.seq ?_
  refine Tri.region ?_
  refine TriL.c1 rfl (op_bin (ltb rfl) rfl rfl rfl) ?_
  refine TriL.c1 rfl (op_as (ltb rfl) rfl) ?_
  refine TriL.nil ?_
  refine Tri.cond rfl (fun hc1 => ?_) (fun hc1 => ?_)
  · refine Tri.skip ?_
    refine Tri.condT rfl hc1 ?_
    refine Tri.exit ?_   -- 1
    refine Tri.seq ?_
    refine Tri.region ?_
    refine TriL.c1 rfl (op_as (ltb rfl) rfl) ?_
    refine TriL.nil ?_
    refine Tri.exit ?_   -- 0
    refine Tri.seq ?_
    refine Tri.region ?_
    refine TriL.c1 rfl (op_mv (ltb rfl) rfl) ?_
    refine TriL.c1 rfl (op_mv (ltb rfl) rfl) ?_
    refine TriL.g1 rfl (ltb rfl) rfl rfl (op_mv (ltb rfl) rfl) ?_
    refine TriL.g1 rfl (ltb rfl) rfl rfl (op_call (ltb rfl) fn202_E2 rfl (number_pure n)) ?_
    refine TriL.c1 rfl (op_pickt (ltb rfl) rfl rfl rfl) ?_
    refine TriL.c1 rfl (op_as (ltb rfl) rfl) ?_
    refine TriL.nil ?_
    refine Tri.ret ?_
    exact ⟨.inr rfl, (ResOK.r1 rfl (.tmp rfl .nil)).cast (by exact res_bool (by (try simp only [decide_eq_true_eq, decide_eq_false_iff_not, beq_iff_eq, beq_eq_false_iff_ne, ne_eq] at *); (try simp only [numok, rightok]); first | exact decide_eq_decide.2 (by omega) | exact (decide_eq_true (by omega)).symm | exact (decide_eq_false (by omega)).symm)), rfl⟩
  · -- region 4 tag.go:20
    refine Tri.region ?_
    refine TriL.c1 rfl (op_bin (ltb rfl) rfl rfl rfl) ?_
    refine TriL.c1 rfl (op_as (ltb rfl) rfl) ?_
    refine TriL.nil ?_
    refine Tri.cond rfl (fun hc2 => ?_) (fun hc2 => ?_)
    · refine Tri.exit ?_   -- 1
      refine Tri.seq ?_
      refine Tri.region ?_
      refine TriL.c1 rfl (op_as (ltb rfl) rfl) ?_
      refine TriL.nil ?_
      refine Tri.exit ?_   -- 0
      refine Tri.seq ?_
      refine Tri.region ?_
      refine TriL.c1 rfl (op_mv (ltb rfl) rfl) ?_
      refine TriL.c1 rfl (op_mv (ltb rfl) rfl) ?_
      refine TriL.g1 rfl (ltb rfl) rfl rfl (op_mv (ltb rfl) rfl) ?_
      refine TriL.g1 rfl (ltb rfl) rfl rfl (op_call (ltb rfl) fn202_E2 rfl (number_pure n)) ?_
      refine TriL.c1 rfl (op_pickt (ltb rfl) rfl rfl rfl) ?_
      refine TriL.c1 rfl (op_as (ltb rfl) rfl) ?_
      refine TriL.nil ?_
      refine Tri.ret ?_
      exact ⟨.inr rfl, (ResOK.r1 rfl (.tmp rfl .nil)).cast (by exact res_bool (by (try simp only [decide_eq_true_eq, decide_eq_false_iff_not, beq_iff_eq, beq_eq_false_iff_ne, ne_eq] at *); (try simp only [numok, rightok]); first | exact decide_eq_decide.2 (by omega) | exact (decide_eq_true (by omega)).symm | exact (decide_eq_false (by omega)).symm)), rfl⟩
    · refine Tri.skip ?_
      refine Tri.seq ?_
      refine Tri.seq ?_
      refine Tri.region ?_
      refine TriL.c1 rfl (op_bin (ltb rfl) rfl rfl rfl) ?_
      refine TriL.c1 rfl (op_as (ltb rfl) rfl) ?_
      refine TriL.nil ?_
      refine Tri.cond rfl (fun hc3 => ?_) (fun hc3 => ?_)
      · refine Tri.exit ?_   -- 2
        refine Tri.seq ?_
        refine Tri.region ?_
        refine TriL.c1 rfl (op_as (ltb rfl) rfl) ?_
        refine TriL.nil ?_
        refine Tri.exit ?_   -- 0
        refine Tri.seq ?_
        refine Tri.region ?_
        refine TriL.c1 rfl (op_mv (ltb rfl) rfl) ?_
        refine TriL.c1 rfl (op_mv (ltb rfl) rfl) ?_
        refine TriL.g1 rfl (ltb rfl) rfl rfl (op_mv (ltb rfl) rfl) ?_
        refine TriL.g1 rfl (ltb rfl) rfl rfl (op_call (ltb rfl) fn202_E2 rfl (number_pure n)) ?_
        refine TriL.c1 rfl (op_pickt (ltb rfl) rfl rfl rfl) ?_
        refine TriL.c1 rfl (op_as (ltb rfl) rfl) ?_
        refine TriL.nil ?_
        refine Tri.ret ?_
        exact ⟨.inr rfl, (ResOK.r1 rfl (.tmp rfl .nil)).cast (by exact res_bool (by (try simp only [decide_eq_true_eq, decide_eq_false_iff_not, beq_iff_eq, beq_eq_false_iff_ne, ne_eq] at *); (try simp only [numok, rightok]); first | exact decide_eq_decide.2 (by omega) | exact (decide_eq_true (by omega)).symm | exact (decide_eq_false (by omega)).symm)), rfl⟩
      · refine Tri.skip ?_
        refine Tri.seq ?_
        refine Tri.region ?_
        refine TriL.c1 rfl (op_bin (ltb rfl) rfl rfl rfl) ?_
        refine TriL.c1 rfl (op_as (ltb rfl) rfl) ?_
        refine TriL.nil ?_
        refine Tri.cond rfl (fun hc4 => ?_) (fun hc4 => ?_)
        · refine Tri.exit ?_   -- 3
          refine Tri.seq ?_
          refine Tri.region ?_
          refine TriL.c1 rfl (op_as (ltb rfl) rfl) ?_
          refine TriL.nil ?_
          refine Tri.exit ?_   -- 0
          refine Tri.seq ?_
          refine Tri.region ?_
          refine TriL.c1 rfl (op_mv (ltb rfl) rfl) ?_
          refine TriL.c1 rfl (op_mv (ltb rfl) rfl) ?_
          refine TriL.g1 rfl (ltb rfl) rfl rfl (op_mv (ltb rfl) rfl) ?_
          refine TriL.g1 rfl (ltb rfl) rfl rfl (op_call (ltb rfl) fn202_E2 rfl (number_pure n)) ?_
          refine TriL.c1 rfl (op_pickt (ltb rfl) rfl rfl rfl) ?_
          refine TriL.c1 rfl (op_as (ltb rfl) rfl) ?_
          refine TriL.nil ?_
          refine Tri.ret ?_
          exact ⟨.inr rfl, (ResOK.r1 rfl (.tmp rfl .nil)).cast (by exact res_bool (by (try simp only [decide_eq_true_eq, decide_eq_false_iff_not, beq_iff_eq, beq_eq_false_iff_ne, ne_eq] at *); (try simp only [numok, rightok]); first | exact decide_eq_decide.2 (by omega) | exact (decide_eq_true (by omega)).symm | exact (decide_eq_false (by omega)).symm)), rfl⟩
        · refine Tri.skip ?_
          refine Tri.exit ?_   -- 0
          refine Tri.seq ?_
          refine Tri.region ?_
          refine TriL.c1 rfl (op_mv (ltb rfl) rfl) ?_
          refine TriL.c1 rfl (op_mv (ltb rfl) rfl) ?_
          refine TriL.skip rfl rfl (ltb rfl) rfl rfl ?_
          refine TriL.skip rfl rfl (ltb rfl) rfl rfl ?_
          refine TriL.c1 rfl (op_pickf (ltb rfl) rfl rfl rfl) ?_
          refine TriL.c1 rfl (op_as (ltb rfl) rfl) ?_
          refine TriL.nil ?_
          refine Tri.ret ?_
          exact ⟨.inr rfl, (ResOK.r1 rfl (.tmp rfl .nil)).cast (by exact res_bool (by (try simp only [decide_eq_true_eq, decide_eq_false_iff_not, beq_iff_eq, beq_eq_false_iff_ne, ne_eq] at *); (try simp only [numok, rightok]); first | exact decide_eq_decide.2 (by omega) | exact (decide_eq_true (by omega)).symm | exact (decide_eq_false (by omega)).symm)), rfl⟩
end Go.Proofs.YtnpgcmeclkncnaaGreatDoor.X
/- emit: Len, Deep. -/
set_option linter.unusedVariables false
set_option linter.unusedSimpArgs false
set_option maxRecDepth 100000
namespace Go.Proofs.YtnpgcmeclkncnaaGreatDoor.X
open Go Go.RowKit Go.Proofs
theorem fn87_E3 : isFn Tryz.prog 87 = true := by kernel_rfl
theorem fo149_0_E3 : fo Tryz.prog 149 0 = some 0 := by kernel_rfl
theorem fo149_1_E3 : fo Tryz.prog 149 1 = some 1 := by kernel_rfl
theorem lk147_E3 : lk Tryz.prog 147 = some (false, 1) := by kernel_rfl
theorem lk51_E3 : lk Tryz.prog 51 = some (false, 1) := by kernel_rfl
theorem un147_E3 : Tryz.prog.underlying 147 = some (TypeDesc.slice 267) := Tryz.underlying147
theorem un51_E3 : Tryz.prog.underlying 51 = some (TypeDesc.slice 5) := Tryz.underlying51
theorem len_run (H : Hp) (id : Nat) (b fs : List AV) (ho : H.obj id = some (wr b fs)) : Run Tryz.prog 50 [.op id 0] H (.int .i64 b.length) H := by
  refine Run.of_tri Tryz.func50 rfl rfl (ltb rfl) ?_
  refine Tri.seq ?_
  refine Tri.region ?_
  refine TriL.c1 rfl (op_as (ltb rfl) rfl) ?_
  refine TriL.nil ?_
  refine Tri.seq ?_
  refine Tri.seq ?_
  refine Tri.region ?_
  refine TriL.c1 rfl (op_mv (ltb rfl) rfl) ?_
  refine TriL.c2 rfl (op_callh (ltb rfl) fn87_E3 rfl rfl (is_run H id _ _ ho)) ?_
  refine TriL.c1 rfl (op_un (ltb rfl) rfl rfl) ?_
  refine TriL.nil ?_
  refine Tri.condF rfl rfl ?_
  refine Tri.skip ?_
  refine Tri.ofKept (Kept.opn 100 id 100 rfl ho rfl rfl (Kept.lp 0 100 rfl rfl (Kept.now ?_)))
  refine Tri.seq ?_
  refine Tri.region ?_
  refine TriL.c1 rfl (op_mv (ltb rfl) rfl) ?_
  refine TriL.c1 rfl (op_nckl (ltb rfl) rfl) ?_
  refine TriL.c1 rfl (op_fal (ltb rfl) fo149_0_E3 rfl) ?_
  refine TriL.c1 rfl (op_ldo (ltb rfl) lk51_E3 rfl rfl rfl) ?_
  refine TriL.c1 rfl (op_lenom (ltb rfl) un51_E3 rfl) ?_
  refine TriL.c1 rfl (op_as (ltb rfl) rfl) ?_
  refine TriL.kept (Kept.cls 100 rfl rfl rfl rfl (Kept.now ?_))
  refine Tri.ret ?_
  refine ⟨.inr rfl, ResOK.r1 rfl (.tmp rfl .nil), ?_⟩
  have e : (H.del id).set id (wr b fs) = H := by rw [Hp.del_set, Hp.set_same ho]
  exact congrArg (fun h => some (CV.hp h)) e
theorem deep_run (H : Hp) (id : Nat) (b fs : List AV) (ho : H.obj id = some (wr b fs)) : Run Tryz.prog 88 [.op id 0] H (.int .i64 fs.length) H := by
  refine Run.of_tri Tryz.func88 rfl rfl (ltb rfl) ?_
  refine Tri.seq ?_
  refine Tri.region ?_
  refine TriL.c1 rfl (op_as (ltb rfl) rfl) ?_
  refine TriL.nil ?_
  refine Tri.seq ?_
  refine Tri.seq ?_
  refine Tri.region ?_
  refine TriL.c1 rfl (op_mv (ltb rfl) rfl) ?_
  refine TriL.c2 rfl (op_callh (ltb rfl) fn87_E3 rfl rfl (is_run H id _ _ ho)) ?_
  refine TriL.c1 rfl (op_un (ltb rfl) rfl rfl) ?_
  refine TriL.nil ?_
  refine Tri.condF rfl rfl ?_
  refine Tri.skip ?_
  refine Tri.ofKept (Kept.opn 100 id 100 rfl ho rfl rfl (Kept.lp 0 100 rfl rfl (Kept.now ?_)))
  refine Tri.seq ?_
  refine Tri.region ?_
  refine TriL.c1 rfl (op_mv (ltb rfl) rfl) ?_
  refine TriL.c1 rfl (op_nckl (ltb rfl) rfl) ?_
  refine TriL.c1 rfl (op_fal (ltb rfl) fo149_1_E3 rfl) ?_
  refine TriL.c1 rfl (op_ldo (ltb rfl) lk147_E3 rfl rfl rfl) ?_
  refine TriL.c1 rfl (op_lenom (ltb rfl) un147_E3 rfl) ?_
  refine TriL.c1 rfl (op_as (ltb rfl) rfl) ?_
  refine TriL.kept (Kept.cls 100 rfl rfl rfl rfl (Kept.now ?_))
  refine Tri.ret ?_
  refine ⟨.inr rfl, ResOK.r1 rfl (.tmp rfl .nil), ?_⟩
  have e : (H.del id).set id (wr b fs) = H := by rw [Hp.del_set, Hp.set_same ho]
  exact congrArg (fun h => some (CV.hp h)) e
end Go.Proofs.YtnpgcmeclkncnaaGreatDoor.X
/- emit: lay. -/
set_option linter.unusedVariables false
set_option linter.unusedSimpArgs false
set_option maxRecDepth 100000
namespace Go.Proofs.YtnpgcmeclkncnaaGreatDoor.X
open Go Go.RowKit Go.Proofs
theorem fo149_0_E4 : fo Tryz.prog 149 0 = some 0 := by kernel_rfl
theorem ie51_E4 : ie Tryz.prog 51 = some 1 := by kernel_rfl
theorem lk51_E4 : lk Tryz.prog 51 = some (false, 1) := by kernel_rfl
theorem se51_E4 : se Tryz.prog 51 = some (5, 1, 1) := by kernel_rfl
theorem un51_E4 : Tryz.prog.underlying 51 = some (TypeDesc.slice 5) := Tryz.underlying51
/-- bytes laid ahead of those from a place on: as the code makes them -/
theorem lay_eq (b c : List UInt8) (at_ : Nat) (h : at_ ≤ b.length) :
    splice (splice (bsl b ++ bsl c) (at_ + c.length) ((((bsl b ++ bsl c).drop at_).take (Nat.min (b.length - at_) (b.length - at_))))) at_ (bsl c) = bsl (b.take at_ ++ c ++ b.drop at_) := by
  have hb := bsl_len b
  have hc := bsl_len c
  have hd : (bsl b).drop at_ = bsl (b.drop at_) := by simp [bsl]
  have ht : (bsl b).take at_ = bsl (b.take at_) := by simp [bsl]
  have e0 : Nat.min (b.length - at_) (b.length - at_) = b.length - at_ := Nat.min_self _
  have e1 : ((bsl b ++ bsl c).drop at_).take (Nat.min (b.length - at_) (b.length - at_)) = bsl (b.drop at_) := by
    rw [e0, List.drop_append_of_le_length (by omega), List.take_append_of_le_length (by rw [List.length_drop]; omega), List.take_of_length_le (by rw [List.length_drop]; omega), hd]
  have hl : (bsl (b.drop at_)).length = b.length - at_ := by rw [bsl_len, List.length_drop]
  rw [e1]
  have e2 : splice (bsl b ++ bsl c) (at_ + c.length) (bsl (b.drop at_)) = (bsl b ++ bsl c).take (at_ + c.length) ++ bsl (b.drop at_) := by
    unfold splice
    rw [hl, List.drop_of_length_le (l := bsl b ++ bsl c) (by rw [List.length_append]; omega), List.append_nil]
  rw [e2]
  unfold splice
  have e3 : ((bsl b ++ bsl c).take (at_ + c.length)).length = at_ + c.length := by rw [List.length_take, List.length_append]; omega
  rw [hc, List.take_append_of_le_length (by omega), List.take_take, Nat.min_eq_left (by omega), List.take_append_of_le_length (by omega), ht, List.drop_append_of_le_length (by omega), List.drop_of_length_le (by omega), List.nil_append, bsl_app, bsl_app]

theorem splice_ge (xs zs : List AV) (lo : Nat) : xs.length ≤ (splice xs lo zs).length := by simp only [splice, List.length_append, List.length_take, List.length_drop]; omega
theorem lay_run (H : Hp) (id a : Nat) (b c : List UInt8) (fs : List AV) (ho : H.obj id = some (wr (bsl b) fs)) (ha : a ≤ b.length) (hl : b.length + c.length ≤ 1073741824) :
    Run Tryz.prog 225 [.op id 0, .int .i64 a, .sl (bsl c)] H (.tup []) (H.set id (wr (bsl (b.take a ++ c ++ b.drop a)) fs)) := by
  have hb := bsl_len b
  have hc := bsl_len c
  have hw : IntKind.i64.wrap ((a : Int) + ((bsl c).length : Int)) = ((a + c.length : Nat) : Int) := by rw [hc, wr64] <;> omega
  have hap : (bsl b ++ bsl c).length = b.length + c.length := by rw [List.length_append, hb, hc]
  refine Run.of_tri Tryz.func225 rfl rfl (ltb rfl) ?_
  refine Tri.ofKept (Kept.opn 100 id 100 rfl ho rfl rfl (Kept.lp 0 100 rfl rfl (Kept.now ?_)))
  refine Tri.seq ?_
  refine Tri.region ?_
  refine TriL.c1 rfl (op_mv (ltb rfl) rfl) ?_
  refine TriL.c1 rfl (op_nckl (ltb rfl) rfl) ?_
  refine TriL.c1 rfl (op_fal (ltb rfl) fo149_0_E4 rfl) ?_
  refine TriL.c1 rfl (op_ldo (ltb rfl) lk51_E4 rfl rfl rfl) ?_
  refine TriL.c1 rfl (op_lenom (ltb rfl) un51_E4 rfl) ?_
  refine TriL.c1 rfl (op_as (ltb rfl) rfl) ?_
  refine TriL.nil ?_
  refine Tri.seq ?_
  refine Tri.region ?_
  refine TriL.c1 rfl (op_mv (ltb rfl) rfl) ?_
  refine TriL.c1 rfl (op_mv (ltb rfl) rfl) ?_
  refine TriL.c1 rfl (op_nckl (ltb rfl) rfl) ?_
  refine TriL.c1 rfl (op_fal (ltb rfl) fo149_0_E4 rfl) ?_
  refine TriL.c1 rfl (op_ldo (ltb rfl) lk51_E4 rfl rfl rfl) ?_
  refine TriL.c1 rfl (op_mv (ltb rfl) rfl) ?_
  refine TriL.c3 rfl (op_apm (ltb rfl) se51_E4 rfl rfl rfl rfl (okEls_bsl c) rfl (by omega) (by omega)) ?_
  refine TriL.c1 rfl (op_nckl (ltb rfl) rfl) ?_
  refine TriL.c1 rfl (op_fal (ltb rfl) fo149_0_E4 rfl) ?_
  refine TriL.c1 rfl (op_sto lk51_E4 rfl rfl rfl rfl rfl (leb rfl)) ?_
  refine TriL.nil ?_
  refine Tri.seq ?_
  refine Tri.drawn mixed rfl ?_
  refine TriD.c1 rfl (op_mv (ltb rfl) rfl) ?_
  refine TriD.c1 rfl (op_nckl (ltb rfl) rfl) ?_
  refine TriD.c1 rfl (op_fal (ltb rfl) fo149_0_E4 rfl) ?_
  refine TriD.c1 rfl (op_ldo (ltb rfl) lk51_E4 rfl rfl rfl) ?_
  refine TriD.c1 rfl (op_mv (ltb rfl) rfl) ?_
  refine TriD.c1 rfl (op_mv (ltb rfl) rfl) ?_
  refine TriD.c1 rfl (op_lenl (ltb rfl) un51_E4 rfl) ?_
  refine TriD.c1 rfl (op_bin (ltb rfl) rfl rfl rfl) ?_
  refine TriD.c1 rfl (op_cutov (ltb rfl) ie51_E4 rfl rfl rfl rfl (by omega) (by omega) (by omega)) ?_
  refine TriD.c1 rfl (op_mv (ltb rfl) rfl) ?_
  refine TriD.c1 rfl (op_nckl (ltb rfl) rfl) ?_
  refine TriD.c1 rfl (op_fal (ltb rfl) fo149_0_E4 rfl) ?_
  refine TriD.c1 rfl (op_ldo (ltb rfl) lk51_E4 rfl rfl rfl) ?_
  refine TriD.c1 rfl (op_mv (ltb rfl) rfl) ?_
  refine TriD.c1 rfl (op_mv (ltb rfl) rfl) ?_
  refine TriD.c1 rfl (op_cutov (ltb rfl) ie51_E4 rfl rfl rfl rfl (by omega) (by omega) (by omega)) ?_
  refine TriD.c2 rfl (op_cpo (ltb rfl) ie51_E4 rfl rfl rfl (by omega) (by omega)) ?_
  refine TriD.nil (by kernel_rfl) (Kept.now ?_)
  refine Tri.region ?_
  refine TriL.c1 rfl (op_mv (ltb rfl) rfl) ?_
  refine TriL.c1 rfl (op_nckl (ltb rfl) rfl) ?_
  refine TriL.c1 rfl (op_fal (ltb rfl) fo149_0_E4 rfl) ?_
  refine TriL.c1 rfl (op_ldo (ltb rfl) lk51_E4 rfl rfl rfl) ?_
  refine TriL.c1 rfl (op_mv (ltb rfl) rfl) ?_
  refine TriL.c1 rfl (op_cutov (ltb rfl) ie51_E4 rfl rfl rfl rfl (by omega) (by omega) (by omega)) ?_
  refine TriL.c1 rfl (op_mv (ltb rfl) rfl) ?_
  refine TriL.c2 rfl (op_cpl (ltb rfl) ie51_E4 rfl rfl rfl (okEls_bsl c) (Nat.le_trans (by omega) (splice_ge _ _ _))) ?_
  refine TriL.kept (Kept.cls 100 rfl rfl rfl rfl (Kept.now ?_))
  refine ⟨.inl rfl, ResOK.r0 rfl, ?_⟩
  have e : (H.del id).set id (wr (splice (splice (bsl b ++ bsl c) (IntKind.i64.wrap ((a : Int) + ((bsl c).length : Int))).toNat (((bsl b ++ bsl c).drop ((a : Nat) : Int).toNat).take (Nat.min (((bsl b).length : Int).toNat - ((a : Nat) : Int).toNat) (((bsl b ++ bsl c).length : Int).toNat - (IntKind.i64.wrap ((a : Int) + ((bsl c).length : Int))).toNat)))) ((a : Nat) : Int).toNat ((bsl c).take (Nat.min (bsl c).length (((bsl b ++ bsl c).length : Int).toNat - ((a : Nat) : Int).toNat)))) fs) = H.set id (wr (bsl (b.take a ++ c ++ b.drop a)) fs) := by
    rw [Hp.del_set]
    congr 2
    have q1 : Nat.min (bsl c).length (b.length + c.length - a) = (bsl c).length := Nat.min_eq_left (by omega)
    have q2 : b.length + c.length - (a + c.length) = b.length - a := by omega
    rw [hw, hap]
    simp only [Int.toNat_natCast]
    rw [q1, List.take_length, hb, q2]
    exact lay_eq b c a ha
  exact congrArg (fun h => some (CV.hp h)) e
end Go.Proofs.YtnpgcmeclkncnaaGreatDoor.X
/- bytes.Clone. -/
set_option linter.unusedVariables false
set_option linter.unusedSimpArgs false
set_option maxRecDepth 100000
namespace Go.Proofs.YtnpgcmeclkncnaaGreatDoor.X
open Go Go.RowKit Go.Proofs
theorem se51_E5 : se Tryz.prog 51 = some (5, 1, 1) := by kernel_rfl
theorem un51_E5 : Tryz.prog.underlying 51 = some (TypeDesc.slice 5) := Tryz.underlying51
theorem zAe51_E5 : zeroA Tryz.prog 5 = some [AV.int IntKind.u8 (0)] := by kernel_rfl
theorem clone_pure (b : List UInt8) (hl : b.length ≤ 1073741824) : PureO Tryz.prog 89 [.sl (bsl b)] 5 1 (bsl b) := by
  have hb := bsl_len b
  refine PureO.of_tri Tryz.func89 rfl rfl (ltb rfl) rfl fun H => ?_
  refine Tri.seq ?_
  refine Tri.region ?_
  refine TriL.c1 rfl (op_as (ltb rfl) rfl) ?_
  refine TriL.nil ?_
  refine Tri.seq ?_
  refine Tri.seq ?_
  refine Tri.region ?_
  refine TriL.c1 rfl (op_mv (ltb rfl) rfl) ?_
  refine TriL.eqnil (ltb rfl) un51_E5 rfl fun c hc => ?_
  refine TriL.nil ?_
  refine Tri.cond rfl (fun hc1 => ?_) (fun hc1 => ?_)
  · refine Tri.seq ?_
    refine Tri.region ?_
    refine TriL.c2 rfl (op_nilt (k := 50) (el := 5) (esz := 1) (c := 0) (ltb rfl) rfl (ltb rfl)) ?_
    refine TriL.nil ?_
    refine Tri.ret ?_
    rw [hc hc1]
    exact ⟨.inr rfl, ⟨50, rfl, rfl⟩, rfl⟩
  · refine Tri.skip ?_
    refine Tri.seq ?_
    refine Tri.region ?_
    refine TriL.c2 rfl (op_litt («as» := []) (ltb rfl) se51_E5 zAe51_E5 rfl rfl rfl (leb rfl) rfl) ?_
    refine TriL.c1 rfl (op_mv (ltb rfl) rfl) ?_
    refine TriL.c3 rfl (op_app (ltb rfl) se51_E5 rfl rfl rfl (okEls_bsl b) rfl (by simp only [List.length_nil]; omega) (by simp only [List.length_nil]; omega)) ?_
    refine TriL.c1 rfl (op_as (ltb rfl) rfl) ?_
    refine TriL.nil ?_
    refine Tri.ret ?_
    exact ⟨.inr rfl, ⟨7, rfl, rfl⟩, rfl⟩
end Go.Proofs.YtnpgcmeclkncnaaGreatDoor.X
/- emit: Bytes. -/
set_option linter.unusedVariables false
set_option linter.unusedSimpArgs false
set_option maxRecDepth 100000
namespace Go.Proofs.YtnpgcmeclkncnaaGreatDoor.X
open Go Go.RowKit Go.Proofs
theorem fn87_E6 : isFn Tryz.prog 87 = true := by kernel_rfl
theorem fn88_E6 : isFn Tryz.prog 88 = true := by kernel_rfl
theorem fn89_E6 : isFn Tryz.prog 89 = true := by kernel_rfl
theorem fo149_0_E6 : fo Tryz.prog 149 0 = some 0 := by kernel_rfl
theorem lk51_E6 : lk Tryz.prog 51 = some (false, 1) := by kernel_rfl
theorem all_isInt_bsl : ∀ b : List UInt8, (bsl b).all isInt = true
  | [] => rfl
  | c :: b => by
    have := all_isInt_bsl b
    simp only [bsl, List.map_cons, List.all_cons, Bool.and_eq_true] at this ⊢
    exact ⟨rfl, this⟩
/-- Bytes, when no frame is open. -/
theorem bytes_run (H : Hp) (id : Nat) (b : List UInt8) (ho : H.obj id = some (wr (bsl b) [])) (hl : b.length ≤ 1073741824) : Run Tryz.prog 51 [.op id 0] H (.sl (bsl b)) H := by
  refine Run.of_tri Tryz.func51 rfl rfl (ltb rfl) ?_
  refine Tri.seq ?_
  refine Tri.region ?_
  refine TriL.c1 rfl (op_as (ltb rfl) rfl) ?_
  refine TriL.nil ?_
  refine Tri.seq ?_
  refine Tri.seq ?_
  refine Tri.region ?_
  refine TriL.c1 rfl (op_mv (ltb rfl) rfl) ?_
  refine TriL.c2 rfl (op_callh (ltb rfl) fn88_E6 rfl rfl (deep_run H id _ _ ho)) ?_
  refine TriL.c1 rfl (op_bin (ltb rfl) rfl rfl rfl) ?_
  refine TriL.c1 rfl (op_mv (ltb rfl) rfl) ?_
  refine TriL.g1 rfl (ltb rfl) rfl rfl (op_mv (ltb rfl) rfl) ?_
  refine TriL.g2 rfl (ltb rfl) rfl rfl (op_callh (ltb rfl) fn87_E6 rfl rfl (is_run H id _ _ ho)) ?_
  refine TriL.g1 rfl (ltb rfl) rfl rfl (op_un (ltb rfl) rfl rfl) ?_
  refine TriL.c1 rfl (op_pickf (ltb rfl) rfl rfl rfl) ?_
  refine TriL.nil ?_
  refine Tri.condF rfl rfl ?_
  refine Tri.skip ?_
  refine Tri.ofKept (Kept.opn 100 id 100 rfl ho rfl rfl (Kept.lp 0 100 rfl rfl (Kept.now ?_)))
  refine Tri.seq ?_
  refine Tri.region ?_
  refine TriL.c1 rfl (op_mv (ltb rfl) rfl) ?_
  refine TriL.c1 rfl (op_nckl (ltb rfl) rfl) ?_
  refine TriL.c1 rfl (op_fal (ltb rfl) fo149_0_E6 rfl) ?_
  refine TriL.c1 rfl (op_ldo (ltb rfl) lk51_E6 rfl rfl rfl) ?_
  refine TriL.c2 rfl (op_callb (ltb rfl) fn89_E6 rfl rfl (clone_pure b hl) (all_isInt_bsl b) rfl) ?_
  refine TriL.c1 rfl (op_as (ltb rfl) rfl) ?_
  refine TriL.kept (Kept.cls 100 rfl rfl rfl rfl (Kept.now ?_))
  refine Tri.ret ?_
  refine ⟨.inr rfl, ResOK.r1 rfl (.tmp rfl .nil), ?_⟩
  have e : (H.del id).set id (wr (bsl b) []) = H := by rw [Hp.del_set, Hp.set_same ho]
  exact congrArg (fun h => some (CV.hp h)) e
end Go.Proofs.YtnpgcmeclkncnaaGreatDoor.X
/- emit: Open. -/
set_option linter.unusedVariables false
set_option linter.unusedSimpArgs false
set_option maxRecDepth 100000
namespace Go.Proofs.YtnpgcmeclkncnaaGreatDoor.X
open Go Go.RowKit Go.Proofs
theorem fn172_E7 : isFn Tryz.prog 172 = true := by kernel_rfl
theorem fn87_E7 : isFn Tryz.prog 87 = true := by kernel_rfl
theorem fo149_0_E7 : fo Tryz.prog 149 0 = some 0 := by kernel_rfl
theorem fo149_1_E7 : fo Tryz.prog 149 1 = some 1 := by kernel_rfl
theorem lk147_E7 : lk Tryz.prog 147 = some (false, 1) := by kernel_rfl
theorem lk51_E7 : lk Tryz.prog 51 = some (false, 1) := by kernel_rfl
theorem se147_E7 : se Tryz.prog 147 = some (267, 2, 16) := by kernel_rfl
theorem spl267_E7 : spl Tryz.prog 267 = some [(0, 1), (1, 1)] := by kernel_rfl
theorem un51_E7 : Tryz.prog.underlying 51 = some (TypeDesc.slice 5) := Tryz.underlying51
theorem zAe147_E7 : zeroA Tryz.prog 267 = some [AV.int IntKind.i64 (0), AV.int IntKind.i64 (0)] := by kernel_rfl
def frm (n k : Int) : AV := .agg [.int .i64 n, .int .i64 k]
theorem open_run (H : Hp) (id : Nat) (n : Int) (b : List UInt8) (fs : List AV) (ho : H.obj id = some (wr (bsl b) fs)) (hr : rightok n 2 = true) (hl : fs.length ≤ 1048576) : Run Tryz.prog 206 [.op id 0, .int .i64 n] H (.bool true) (H.set id (wr (bsl b) (fs ++ [frm n (bsl b).length]))) := by
  refine Run.of_tri Tryz.func206 rfl rfl (ltb rfl) ?_
  refine Tri.seq ?_
  refine Tri.region ?_
  refine TriL.c1 rfl (op_as (ltb rfl) rfl) ?_
  refine TriL.nil ?_
  refine Tri.seq ?_
  refine Tri.seq ?_
  refine Tri.region ?_
  refine TriL.c1 rfl (op_mv (ltb rfl) rfl) ?_
  refine TriL.c2 rfl (op_callh (ltb rfl) fn87_E7 rfl rfl (is_run H id _ _ ho)) ?_
  refine TriL.c1 rfl (op_un (ltb rfl) rfl rfl) ?_
  refine TriL.c1 rfl (op_mv (ltb rfl) rfl) ?_
  refine TriL.g1 rfl (ltb rfl) rfl rfl (op_mv (ltb rfl) rfl) ?_
  refine TriL.g1 rfl (ltb rfl) rfl rfl (op_call (ltb rfl) fn172_E7 rfl (hr ▸ right_pure n 2)) ?_
  refine TriL.g1 rfl (ltb rfl) rfl rfl (op_un (ltb rfl) rfl rfl) ?_
  refine TriL.c1 rfl (op_pickf (ltb rfl) rfl rfl rfl) ?_
  refine TriL.nil ?_
  refine Tri.condF rfl rfl ?_
  refine Tri.skip ?_
  refine Tri.ofKept (Kept.opn 100 id 100 rfl ho rfl rfl (Kept.lp 0 100 rfl rfl (Kept.now ?_)))
  refine Tri.seq ?_
  refine Tri.drawn mixed rfl ?_
  refine TriD.c1 rfl (op_mv (ltb rfl) rfl) ?_
  refine TriD.c1 rfl (op_mv (ltb rfl) rfl) ?_
  refine TriD.c1 rfl (op_nckl (ltb rfl) rfl) ?_
  refine TriD.c1 rfl (op_fal (ltb rfl) fo149_1_E7 rfl) ?_
  refine TriD.c1 rfl (op_ldo (ltb rfl) lk147_E7 rfl rfl rfl) ?_
  refine TriD.c1 rfl (op_mv (ltb rfl) rfl) ?_
  refine TriD.c1 rfl (op_mv (ltb rfl) rfl) ?_
  refine TriD.c1 rfl (op_nckl (ltb rfl) rfl) ?_
  refine TriD.c1 rfl (op_fal (ltb rfl) fo149_0_E7 rfl) ?_
  refine TriD.c1 rfl (op_ldo (ltb rfl) lk51_E7 rfl rfl rfl) ?_
  refine TriD.c1 rfl (op_lenom (ltb rfl) un51_E7 rfl) ?_
  refine TriD.c1 rfl (op_bld (ltb rfl) spl267_E7 zAe147_E7 rfl rfl) ?_
  refine TriD.c1 rfl (op_lit («as» := [frm n (bsl b).length]) (ltb rfl) se147_E7 zAe147_E7 rfl rfl rfl (leb rfl)) ?_
  refine TriD.c3 rfl (op_apm (ltb rfl) se147_E7 rfl rfl rfl rfl rfl rfl (by simp only [List.length_cons, List.length_nil]; omega) (by simp only [List.length_cons, List.length_nil]; omega)) ?_
  refine TriD.c1 rfl (op_nckl (ltb rfl) rfl) ?_
  refine TriD.c1 rfl (op_fal (ltb rfl) fo149_1_E7 rfl) ?_
  refine TriD.c1 rfl (op_sto lk147_E7 rfl rfl rfl rfl rfl (leb rfl)) ?_
  refine TriD.nil (by kernel_rfl) (Kept.now ?_)
  refine Tri.seq ?_
  refine Tri.region ?_
  refine TriL.c1 rfl (op_as (ltb rfl) rfl) ?_
  refine TriL.kept (Kept.cls 100 rfl rfl rfl rfl (Kept.now ?_))
  refine Tri.ret ?_
  refine ⟨.inr rfl, ResOK.r1 rfl (.tmp rfl .nil), ?_⟩
  exact congrArg (fun h => some (CV.hp h)) (Hp.del_set H id _)
end Go.Proofs.YtnpgcmeclkncnaaGreatDoor.X
/- tag.Of. -/
set_option linter.unusedVariables false
set_option linter.unusedSimpArgs false
set_option maxRecDepth 100000
namespace Go.Proofs.YtnpgcmeclkncnaaGreatDoor.X
open Go Go.RowKit Go.Proofs
theorem fn172_E8 : isFn Tryz.prog 172 = true := by kernel_rfl
theorem un84_E8 : Tryz.prog.underlying 84 = some (TypeDesc.int IntKind.u64) := Tryz.underlying84
theorem wru64 {n : Int} (h0 : 0 ≤ n) (h : n < 18446744073709551616) : IntKind.u64.wrap n = n := by simp only [IntKind.wrap, IntKind.bits, IntKind.signed]; simp; omega
theorem or_low (n w : Nat) (hn : n < 2 ^ 32) (hw : w < 8) : ibits .or .u64 ((8 * n : Nat) : Int) (w : Int) = ((8 * n + w : Nat) : Int) := by
  have e1 : (BitVec.ofInt 64 ((8 * n : Nat) : Int)).toNat = 8 * n := by rw [BitVec.toNat_ofInt]; omega
  have e2 : (BitVec.ofInt 64 ((w : Nat) : Int)).toNat = w := by rw [BitVec.toNat_ofInt]; omega
  show IntKind.u64.wrap (((BitVec.ofInt 64 ((8 * n : Nat) : Int)) ||| (BitVec.ofInt 64 ((w : Nat) : Int))).toNat : Int) = _
  rw [BitVec.toNat_or, e1, e2]
  have e3 : 8 * n ||| w = 8 * n + w := by
    have := Nat.shiftLeft_add_eq_or_of_lt (a := n) (b := w) (i := 3) (by omega)
    rw [Nat.shiftLeft_eq] at this
    rw [show 8 * n = n * 2 ^ 3 by omega]
    exact this.symm
  rw [e3, wru64] <;> omega
/-- what stands ahead of a field -/
def tagnum (n w : Int) : Int := if rightok n w then 8 * n + w else 0
theorem of_pure (n w : Int) : Pure Tryz.prog 208 [.int .i64 n, .int .i64 w] (.tup [.int .u64 (tagnum n w), .bool (rightok n w)]) := by
  refine Pure.of_tri Tryz.func208 rfl rfl (ltb rfl) fun H => ?_
  refine Tri.seq ?_
  refine Tri.region ?_
  refine TriL.c1 rfl (op_as (ltb rfl) rfl) ?_
  refine TriL.c1 rfl (op_as (ltb rfl) rfl) ?_
  refine TriL.nil ?_
  refine Tri.seq ?_
  refine Tri.seq ?_
  refine Tri.region ?_
  refine TriL.c1 rfl (op_mv (ltb rfl) rfl) ?_
  refine TriL.c1 rfl (op_mv (ltb rfl) rfl) ?_
  refine TriL.c1 rfl (op_call (ltb rfl) fn172_E8 rfl (right_pure n w)) ?_
  refine TriL.c1 rfl (op_un (ltb rfl) rfl rfl) ?_
  refine TriL.nil ?_
  refine Tri.cond rfl (fun hc1 => ?_) (fun hc1 => ?_)
  · have h1 : rightok n w = false := by simpa using hc1
    refine Tri.seq ?_
    refine Tri.region ?_
    refine TriL.c1 rfl (op_as (ltb rfl) rfl) ?_
    refine TriL.c1 rfl (op_as (ltb rfl) rfl) ?_
    refine TriL.nil ?_
    refine Tri.ret ?_
    exact ⟨.inr rfl, (ResOK.r2 rfl (.tmp rfl (.tmp rfl .nil))).cast (by simp [tagnum, h1]), rfl⟩
  · have h1 : rightok n w = true := by simpa using hc1
    have h2 := of_decide_eq_true h1
    obtain ⟨k, rfl⟩ : ∃ k : Nat, n = k := ⟨n.toNat, by omega⟩
    obtain ⟨v, rfl⟩ : ∃ v : Nat, w = v := ⟨w.toNat, by omega⟩
    refine Tri.skip ?_
    refine Tri.seq ?_
    refine Tri.region ?_
    refine TriL.c1 rfl (op_mv (ltb rfl) rfl) ?_
    refine TriL.c1 rfl (op_cvi (ltb rfl) Tryz.underlying3 un84_E8 rfl) ?_
    refine TriL.c1 rfl (op_bin (ltb rfl) rfl rfl rfl) ?_
    refine TriL.c1 rfl (op_mv (ltb rfl) rfl) ?_
    refine TriL.c1 rfl (op_cvi (ltb rfl) Tryz.underlying3 un84_E8 rfl) ?_
    refine TriL.c1 rfl (op_bin (ltb rfl) rfl rfl rfl) ?_
    refine TriL.c1 rfl (op_as (ltb rfl) rfl) ?_
    refine TriL.c1 rfl (op_as (ltb rfl) rfl) ?_
    refine TriL.nil ?_
    refine Tri.ret ?_
    refine ⟨.inr rfl, (ResOK.r2 rfl (.tmp rfl (.tmp rfl .nil))).cast ?_, rfl⟩
    have e1 : IntKind.u64.wrap (k : Int) = k := wru64 (by omega) (by omega)
    have e2 : IntKind.u64.wrap (v : Int) = v := wru64 (by omega) (by omega)
    have e3 : IntKind.u64.wrap (IntKind.u64.wrap (k : Int) * 2 ^ (min (Int.toNat 3) (IntKind.bits .u64))) = ((8 * k : Nat) : Int) := by
      rw [e1, show (min (Int.toNat 3) (IntKind.bits .u64)) = 3 from rfl, wru64] <;> omega
    rw [e3, e2, or_low k v (by omega) (by omega), tagnum, h1]
    simp
end Go.Proofs.YtnpgcmeclkncnaaGreatDoor.X
/- math/bits.Len64. -/
set_option linter.unusedVariables false
set_option linter.unusedSimpArgs false
set_option maxRecDepth 100000
namespace Go.Proofs.YtnpgcmeclkncnaaGreatDoor.X
open Go Go.RowKit Go.Proofs
/-- how many bits a number has -/
def blen (n : Nat) : Nat := if n = 0 then 0 else Nat.log2 n + 1
theorem blen_half {n : Nat} (h : 1 ≤ n) : blen n = blen (n / 2) + 1 := by
  unfold blen
  rw [if_neg (by omega), Nat.log2_def]
  by_cases h2 : 2 ≤ n
  · rw [if_pos h2, if_neg (by omega)]
  · rw [if_neg h2, if_pos (by omega)]
theorem blen_shift : ∀ (k n : Nat), 2 ^ k ≤ n → blen n = blen (n / 2 ^ k) + k
  | 0, n, _ => by simp
  | k + 1, n, h => by
    have h1 : 1 ≤ n := Nat.le_trans (Nat.one_le_two_pow) h
    have h2 : 2 ^ k ≤ n / 2 := by rw [Nat.le_div_iff_mul_le (by decide), ← Nat.pow_succ]; exact h
    rw [blen_half h1, blen_shift k (n / 2) h2, Nat.div_div_eq_div_mul, show 2 * 2 ^ k = 2 ^ (k + 1) by rw [Nat.pow_succ, Nat.mul_comm]]
    omega
def tab8 : List UInt8 := [0] ++ [1] ++ List.replicate 2 2 ++ List.replicate 4 3 ++ List.replicate 8 4 ++ List.replicate 16 5 ++ List.replicate 32 6 ++ List.replicate 64 7 ++ List.replicate 128 8
theorem tab8_get (i : Nat) (h : i < 256) : tab8[i]? = some (UInt8.ofNat (blen i)) := by
  have : ∀ k : Fin 256, tab8[k.val]? = some (UInt8.ofNat (blen k.val)) := by decide +kernel
  exact this ⟨i, h⟩
theorem blen_lt {i : Nat} (h : i < 256) : blen i ≤ 8 := by
  have : ∀ k : Fin 256, blen k.val ≤ 8 := by decide +kernel
  exact this ⟨i, h⟩
section
variable {P : Program} {N : Nat} {s : St} {d : Nat} {ty : TypeId} {pos : String} {af : Array Edge} {g : Option (Nat × Bool)}
end
end Go.Proofs.YtnpgcmeclkncnaaGreatDoor.X
/- math/bits.Len64. -/
set_option linter.unusedVariables false
set_option linter.unusedSimpArgs false
set_option maxRecDepth 100000
namespace Go.Proofs.YtnpgcmeclkncnaaGreatDoor.X
open Go Go.RowKit Go.Proofs
theorem un3_E10 : Tryz.prog.underlying 3 = some (TypeDesc.int IntKind.i64) := Tryz.underlying3
theorem un5_E10 : Tryz.prog.underlying 5 = some (TypeDesc.int IntKind.u8) := Tryz.underlying5
theorem un84_E10 : Tryz.prog.underlying 84 = some (TypeDesc.int IntKind.u64) := Tryz.underlying84
theorem un9_E10 : Tryz.prog.underlying 9 = some TypeDesc.string := Tryz.underlying9
theorem leaf0 {m : Nat} (h : m < 256) : 0 ≤ IntKind.u8.wrap (m : Int) := by rw [wr8 (by omega) (by omega)]; omega
theorem leaf1 {m : Nat} (h : m < 256) : tab8[(IntKind.u8.wrap (m : Int)).toNat]? = some (UInt8.ofNat (blen m)) := by rw [wr8 (by omega) (by omega), Int.toNat_natCast]; exact tab8_get m h
theorem leaf2 {n m off : Nat} {o : Int} (ho : o = off) (hm : m < 256) (hb : blen n = blen m + off) (h : off ≤ 56) : IntKind.i64.wrap (o + IntKind.i64.wrap ((UInt8.ofNat (blen m)).toNat : Int)) = (blen n : Int) := by
  have := blen_lt hm
  have e : (UInt8.ofNat (blen m)).toNat = blen m := UInt8.toNat_ofNat_of_lt' (by simp [UInt8.size]; omega)
  rw [e, ho, wr64 (n := (blen m : Int)) (by omega) (by omega), wr64 (by omega) (by omega), hb]; omega
theorem s32 {n : Nat} (h : 4294967296 ≤ n) : blen n = blen (n / 4294967296) + 32 := blen_shift 32 n h
theorem s16 {n : Nat} (h : 65536 ≤ n) : blen n = blen (n / 65536) + 16 := blen_shift 16 n h
theorem s8 {n : Nat} (h : 256 ≤ n) : blen n = blen (n / 256) + 8 := blen_shift 8 n h
theorem leaf3 {n : Nat} (h : 4294967296 ≤ n) : blen n = blen (n / 4294967296) + 32 := s32 h
theorem leaf4 {n : Nat} (h : 4294967296 ≤ n) (k : 65536 ≤ n / 4294967296) : blen n = blen (n / 4294967296 / 65536) + 48 := by rw [s32 h, s16 k]
theorem leaf5 {n : Nat} (h : 4294967296 ≤ n) (k : 65536 ≤ n / 4294967296) (l : 256 ≤ n / 4294967296 / 65536) : blen n = blen (n / 4294967296 / 65536 / 256) + 56 := by rw [s32 h, s16 k, s8 l]
theorem leaf6 {n : Nat} (h : 65536 ≤ n) : blen n = blen (n / 65536) + 16 := s16 h
theorem leaf7 {n : Nat} (h : 65536 ≤ n) (k : 256 ≤ n / 65536) : blen n = blen (n / 65536 / 256) + 24 := by rw [s16 h, s8 k]
theorem leaf8 {n : Nat} (h : 256 ≤ n) : blen n = blen (n / 256) + 8 := s8 h
theorem leaf9 {n : Nat} (h : 4294967296 ≤ n) (k : 256 ≤ n / 4294967296) : blen n = blen (n / 4294967296 / 256) + 40 := by rw [s32 h, s8 k]
theorem len64_pure (n : Nat) (h : n < 18446744073709551616) : Pure Tryz.prog 226 [.int .u64 (n : Int)] (.int .i64 (blen n)) := by
  refine Pure.of_tri Tryz.func226 rfl rfl (ltb rfl) fun H => ?_
  refine Tri.seq ?_
  refine Tri.region ?_
  refine TriL.c1 rfl (op_as (ltb rfl) rfl) ?_
  refine TriL.nil ?_
  refine Tri.seq ?_
  refine Tri.seq ?_
  refine Tri.region ?_
  refine TriL.c1 rfl (op_mv (ltb rfl) rfl) ?_
  refine TriL.c1 rfl (op_bin (ltb rfl) rfl rfl rfl) ?_
  refine TriL.nil ?_
  refine Tri.cond rfl (fun hc1 => ?_) (fun hc1 => ?_)
  · refine Tri.seq ?_
    refine Tri.region ?_
    refine TriL.c1 rfl (op_mv (ltb rfl) rfl) ?_
    refine TriL.c1 rfl (op_shr (ltb rfl) rfl rfl (by decide)) ?_
    refine TriL.c1 rfl (op_as (ltb rfl) rfl) ?_
    refine TriL.nil ?_
    refine Tri.region ?_
    refine TriL.c1 rfl (op_as (ltb rfl) rfl) ?_
    refine TriL.nil ?_
    refine Tri.seq ?_
    refine Tri.seq ?_
    refine Tri.region ?_
    refine TriL.c1 rfl (op_mv (ltb rfl) rfl) ?_
    refine TriL.c1 rfl (op_bin (ltb rfl) rfl rfl rfl) ?_
    refine TriL.nil ?_
    refine Tri.cond rfl (fun hc2 => ?_) (fun hc2 => ?_)
    · refine Tri.seq ?_
      refine Tri.region ?_
      refine TriL.c1 rfl (op_mv (ltb rfl) rfl) ?_
      refine TriL.c1 rfl (op_shr (ltb rfl) rfl rfl (by decide)) ?_
      refine TriL.c1 rfl (op_as (ltb rfl) rfl) ?_
      refine TriL.nil ?_
      refine Tri.region ?_
      refine TriL.c1 rfl (op_mv (ltb rfl) rfl) ?_
      refine TriL.c1 rfl (op_bin (ltb rfl) rfl rfl rfl) ?_
      refine TriL.c1 rfl (op_as (ltb rfl) rfl) ?_
      refine TriL.nil ?_
      refine Tri.seq ?_
      refine Tri.seq ?_
      refine Tri.region ?_
      refine TriL.c1 rfl (op_mv (ltb rfl) rfl) ?_
      refine TriL.c1 rfl (op_bin (ltb rfl) rfl rfl rfl) ?_
      refine TriL.nil ?_
      refine Tri.cond rfl (fun hc3 => ?_) (fun hc3 => ?_)
      · refine Tri.seq ?_
        refine Tri.region ?_
        refine TriL.c1 rfl (op_mv (ltb rfl) rfl) ?_
        refine TriL.c1 rfl (op_shr (ltb rfl) rfl rfl (by decide)) ?_
        refine TriL.c1 rfl (op_as (ltb rfl) rfl) ?_
        refine TriL.nil ?_
        refine Tri.region ?_
        refine TriL.c1 rfl (op_mv (ltb rfl) rfl) ?_
        refine TriL.c1 rfl (op_bin (ltb rfl) rfl rfl rfl) ?_
        refine TriL.c1 rfl (op_as (ltb rfl) rfl) ?_
        refine TriL.nil ?_
        refine Tri.seq ?_
        refine Tri.region ?_
        refine TriL.c1 rfl (op_mv (ltb rfl) rfl) ?_
        refine TriL.c1 rfl (op_mv (ltb rfl) rfl) ?_
        refine TriL.c1 rfl (op_cvi (ltb rfl) un84_E10 un5_E10 rfl) ?_
        have q0 : (((4294967296 : Nat) : Int) ≤ ((n : Nat) : Int)) := of_decide_eq_true hc1
        have q1 : (((65536 : Nat) : Int) ≤ ((n / 4294967296 : Nat) : Int)) := of_decide_eq_true hc2
        have q2 : (((256 : Nat) : Int) ≤ ((n / 4294967296 / 65536 : Nat) : Int)) := of_decide_eq_true hc3
        have hm : n / 4294967296 / 65536 / 256 < 256 := by omega
        refine TriL.c1 rfl (op_ixs (ltb rfl) un9_E10 rfl rfl (leaf0 (m := n / 4294967296 / 65536 / 256) hm) (leaf1 (m := n / 4294967296 / 65536 / 256) hm)) ?_
        refine TriL.c1 rfl (op_cvi (ltb rfl) un5_E10 un3_E10 rfl) ?_
        refine TriL.c1 rfl (op_bin (ltb rfl) rfl rfl rfl) ?_
        refine TriL.c1 rfl (op_as (ltb rfl) rfl) ?_
        refine TriL.nil ?_
        refine Tri.ret ?_
        exact ⟨.inr rfl, (ResOK.r1 rfl (.tmp rfl .nil)).cast (res_i64 (leaf2 (n := n) (m := n / 4294967296 / 65536 / 256) (off := 56) (by first | rfl | decide) hm (leaf5 (by omega) (by omega) (by omega)) (by decide))), rfl⟩
      · refine Tri.skip ?_
        refine Tri.seq ?_
        refine Tri.region ?_
        refine TriL.c1 rfl (op_mv (ltb rfl) rfl) ?_
        refine TriL.c1 rfl (op_mv (ltb rfl) rfl) ?_
        refine TriL.c1 rfl (op_cvi (ltb rfl) un84_E10 un5_E10 rfl) ?_
        have q0 : (((4294967296 : Nat) : Int) ≤ ((n : Nat) : Int)) := of_decide_eq_true hc1
        have q1 : (((65536 : Nat) : Int) ≤ ((n / 4294967296 : Nat) : Int)) := of_decide_eq_true hc2
        have q2 : ¬ (((256 : Nat) : Int) ≤ ((n / 4294967296 / 65536 : Nat) : Int)) := of_decide_eq_false hc3
        have hm : n / 4294967296 / 65536 < 256 := by omega
        refine TriL.c1 rfl (op_ixs (ltb rfl) un9_E10 rfl rfl (leaf0 (m := n / 4294967296 / 65536) hm) (leaf1 (m := n / 4294967296 / 65536) hm)) ?_
        refine TriL.c1 rfl (op_cvi (ltb rfl) un5_E10 un3_E10 rfl) ?_
        refine TriL.c1 rfl (op_bin (ltb rfl) rfl rfl rfl) ?_
        refine TriL.c1 rfl (op_as (ltb rfl) rfl) ?_
        refine TriL.nil ?_
        refine Tri.ret ?_
        exact ⟨.inr rfl, (ResOK.r1 rfl (.tmp rfl .nil)).cast (res_i64 (leaf2 (n := n) (m := n / 4294967296 / 65536) (off := 48) (by first | rfl | decide) hm (leaf4 (by omega) (by omega)) (by decide))), rfl⟩
    · refine Tri.skip ?_
      refine Tri.seq ?_
      refine Tri.seq ?_
      refine Tri.region ?_
      refine TriL.c1 rfl (op_mv (ltb rfl) rfl) ?_
      refine TriL.c1 rfl (op_bin (ltb rfl) rfl rfl rfl) ?_
      refine TriL.nil ?_
      refine Tri.cond rfl (fun hc4 => ?_) (fun hc4 => ?_)
      · refine Tri.seq ?_
        refine Tri.region ?_
        refine TriL.c1 rfl (op_mv (ltb rfl) rfl) ?_
        refine TriL.c1 rfl (op_shr (ltb rfl) rfl rfl (by decide)) ?_
        refine TriL.c1 rfl (op_as (ltb rfl) rfl) ?_
        refine TriL.nil ?_
        refine Tri.region ?_
        refine TriL.c1 rfl (op_mv (ltb rfl) rfl) ?_
        refine TriL.c1 rfl (op_bin (ltb rfl) rfl rfl rfl) ?_
        refine TriL.c1 rfl (op_as (ltb rfl) rfl) ?_
        refine TriL.nil ?_
        refine Tri.seq ?_
        refine Tri.region ?_
        refine TriL.c1 rfl (op_mv (ltb rfl) rfl) ?_
        refine TriL.c1 rfl (op_mv (ltb rfl) rfl) ?_
        refine TriL.c1 rfl (op_cvi (ltb rfl) un84_E10 un5_E10 rfl) ?_
        have q0 : (((4294967296 : Nat) : Int) ≤ ((n : Nat) : Int)) := of_decide_eq_true hc1
        have q1 : ¬ (((65536 : Nat) : Int) ≤ ((n / 4294967296 : Nat) : Int)) := of_decide_eq_false hc2
        have q2 : (((256 : Nat) : Int) ≤ ((n / 4294967296 : Nat) : Int)) := of_decide_eq_true hc4
        have hm : n / 4294967296 / 256 < 256 := by omega
        refine TriL.c1 rfl (op_ixs (ltb rfl) un9_E10 rfl rfl (leaf0 (m := n / 4294967296 / 256) hm) (leaf1 (m := n / 4294967296 / 256) hm)) ?_
        refine TriL.c1 rfl (op_cvi (ltb rfl) un5_E10 un3_E10 rfl) ?_
        refine TriL.c1 rfl (op_bin (ltb rfl) rfl rfl rfl) ?_
        refine TriL.c1 rfl (op_as (ltb rfl) rfl) ?_
        refine TriL.nil ?_
        refine Tri.ret ?_
        exact ⟨.inr rfl, (ResOK.r1 rfl (.tmp rfl .nil)).cast (res_i64 (leaf2 (n := n) (m := n / 4294967296 / 256) (off := 40) (by first | rfl | decide) hm (leaf9 (by omega) (by omega)) (by decide))), rfl⟩
      · refine Tri.skip ?_
        refine Tri.seq ?_
        refine Tri.region ?_
        refine TriL.c1 rfl (op_mv (ltb rfl) rfl) ?_
        refine TriL.c1 rfl (op_mv (ltb rfl) rfl) ?_
        refine TriL.c1 rfl (op_cvi (ltb rfl) un84_E10 un5_E10 rfl) ?_
        have q0 : (((4294967296 : Nat) : Int) ≤ ((n : Nat) : Int)) := of_decide_eq_true hc1
        have q1 : ¬ (((65536 : Nat) : Int) ≤ ((n / 4294967296 : Nat) : Int)) := of_decide_eq_false hc2
        have q2 : ¬ (((256 : Nat) : Int) ≤ ((n / 4294967296 : Nat) : Int)) := of_decide_eq_false hc4
        have hm : n / 4294967296 < 256 := by omega
        refine TriL.c1 rfl (op_ixs (ltb rfl) un9_E10 rfl rfl (leaf0 (m := n / 4294967296) hm) (leaf1 (m := n / 4294967296) hm)) ?_
        refine TriL.c1 rfl (op_cvi (ltb rfl) un5_E10 un3_E10 rfl) ?_
        refine TriL.c1 rfl (op_bin (ltb rfl) rfl rfl rfl) ?_
        refine TriL.c1 rfl (op_as (ltb rfl) rfl) ?_
        refine TriL.nil ?_
        refine Tri.ret ?_
        exact ⟨.inr rfl, (ResOK.r1 rfl (.tmp rfl .nil)).cast (res_i64 (leaf2 (n := n) (m := n / 4294967296) (off := 32) (by first | rfl | decide) hm (leaf3 (by omega)) (by decide))), rfl⟩
  · refine Tri.skip ?_
    refine Tri.seq ?_
    refine Tri.seq ?_
    refine Tri.region ?_
    refine TriL.c1 rfl (op_mv (ltb rfl) rfl) ?_
    refine TriL.c1 rfl (op_bin (ltb rfl) rfl rfl rfl) ?_
    refine TriL.nil ?_
    refine Tri.cond rfl (fun hc5 => ?_) (fun hc5 => ?_)
    · refine Tri.seq ?_
      refine Tri.region ?_
      refine TriL.c1 rfl (op_mv (ltb rfl) rfl) ?_
      refine TriL.c1 rfl (op_shr (ltb rfl) rfl rfl (by decide)) ?_
      refine TriL.c1 rfl (op_as (ltb rfl) rfl) ?_
      refine TriL.nil ?_
      refine Tri.region ?_
      refine TriL.c1 rfl (op_mv (ltb rfl) rfl) ?_
      refine TriL.c1 rfl (op_bin (ltb rfl) rfl rfl rfl) ?_
      refine TriL.c1 rfl (op_as (ltb rfl) rfl) ?_
      refine TriL.nil ?_
      refine Tri.seq ?_
      refine Tri.seq ?_
      refine Tri.region ?_
      refine TriL.c1 rfl (op_mv (ltb rfl) rfl) ?_
      refine TriL.c1 rfl (op_bin (ltb rfl) rfl rfl rfl) ?_
      refine TriL.nil ?_
      refine Tri.cond rfl (fun hc6 => ?_) (fun hc6 => ?_)
      · refine Tri.seq ?_
        refine Tri.region ?_
        refine TriL.c1 rfl (op_mv (ltb rfl) rfl) ?_
        refine TriL.c1 rfl (op_shr (ltb rfl) rfl rfl (by decide)) ?_
        refine TriL.c1 rfl (op_as (ltb rfl) rfl) ?_
        refine TriL.nil ?_
        refine Tri.region ?_
        refine TriL.c1 rfl (op_mv (ltb rfl) rfl) ?_
        refine TriL.c1 rfl (op_bin (ltb rfl) rfl rfl rfl) ?_
        refine TriL.c1 rfl (op_as (ltb rfl) rfl) ?_
        refine TriL.nil ?_
        refine Tri.seq ?_
        refine Tri.region ?_
        refine TriL.c1 rfl (op_mv (ltb rfl) rfl) ?_
        refine TriL.c1 rfl (op_mv (ltb rfl) rfl) ?_
        refine TriL.c1 rfl (op_cvi (ltb rfl) un84_E10 un5_E10 rfl) ?_
        have q0 : ¬ (((4294967296 : Nat) : Int) ≤ ((n : Nat) : Int)) := of_decide_eq_false hc1
        have q1 : (((65536 : Nat) : Int) ≤ ((n : Nat) : Int)) := of_decide_eq_true hc5
        have q2 : (((256 : Nat) : Int) ≤ ((n / 65536 : Nat) : Int)) := of_decide_eq_true hc6
        have hm : n / 65536 / 256 < 256 := by omega
        refine TriL.c1 rfl (op_ixs (ltb rfl) un9_E10 rfl rfl (leaf0 (m := n / 65536 / 256) hm) (leaf1 (m := n / 65536 / 256) hm)) ?_
        refine TriL.c1 rfl (op_cvi (ltb rfl) un5_E10 un3_E10 rfl) ?_
        refine TriL.c1 rfl (op_bin (ltb rfl) rfl rfl rfl) ?_
        refine TriL.c1 rfl (op_as (ltb rfl) rfl) ?_
        refine TriL.nil ?_
        refine Tri.ret ?_
        exact ⟨.inr rfl, (ResOK.r1 rfl (.tmp rfl .nil)).cast (res_i64 (leaf2 (n := n) (m := n / 65536 / 256) (off := 24) (by first | rfl | decide) hm (leaf7 (by omega) (by omega)) (by decide))), rfl⟩
      · refine Tri.skip ?_
        refine Tri.seq ?_
        refine Tri.region ?_
        refine TriL.c1 rfl (op_mv (ltb rfl) rfl) ?_
        refine TriL.c1 rfl (op_mv (ltb rfl) rfl) ?_
        refine TriL.c1 rfl (op_cvi (ltb rfl) un84_E10 un5_E10 rfl) ?_
        have q0 : ¬ (((4294967296 : Nat) : Int) ≤ ((n : Nat) : Int)) := of_decide_eq_false hc1
        have q1 : (((65536 : Nat) : Int) ≤ ((n : Nat) : Int)) := of_decide_eq_true hc5
        have q2 : ¬ (((256 : Nat) : Int) ≤ ((n / 65536 : Nat) : Int)) := of_decide_eq_false hc6
        have hm : n / 65536 < 256 := by omega
        refine TriL.c1 rfl (op_ixs (ltb rfl) un9_E10 rfl rfl (leaf0 (m := n / 65536) hm) (leaf1 (m := n / 65536) hm)) ?_
        refine TriL.c1 rfl (op_cvi (ltb rfl) un5_E10 un3_E10 rfl) ?_
        refine TriL.c1 rfl (op_bin (ltb rfl) rfl rfl rfl) ?_
        refine TriL.c1 rfl (op_as (ltb rfl) rfl) ?_
        refine TriL.nil ?_
        refine Tri.ret ?_
        exact ⟨.inr rfl, (ResOK.r1 rfl (.tmp rfl .nil)).cast (res_i64 (leaf2 (n := n) (m := n / 65536) (off := 16) (by first | rfl | decide) hm (leaf6 (by omega)) (by decide))), rfl⟩
    · refine Tri.skip ?_
      refine Tri.seq ?_
      refine Tri.seq ?_
      refine Tri.region ?_
      refine TriL.c1 rfl (op_mv (ltb rfl) rfl) ?_
      refine TriL.c1 rfl (op_bin (ltb rfl) rfl rfl rfl) ?_
      refine TriL.nil ?_
      refine Tri.cond rfl (fun hc7 => ?_) (fun hc7 => ?_)
      · refine Tri.seq ?_
        refine Tri.region ?_
        refine TriL.c1 rfl (op_mv (ltb rfl) rfl) ?_
        refine TriL.c1 rfl (op_shr (ltb rfl) rfl rfl (by decide)) ?_
        refine TriL.c1 rfl (op_as (ltb rfl) rfl) ?_
        refine TriL.nil ?_
        refine Tri.region ?_
        refine TriL.c1 rfl (op_mv (ltb rfl) rfl) ?_
        refine TriL.c1 rfl (op_bin (ltb rfl) rfl rfl rfl) ?_
        refine TriL.c1 rfl (op_as (ltb rfl) rfl) ?_
        refine TriL.nil ?_
        refine Tri.seq ?_
        refine Tri.region ?_
        refine TriL.c1 rfl (op_mv (ltb rfl) rfl) ?_
        refine TriL.c1 rfl (op_mv (ltb rfl) rfl) ?_
        refine TriL.c1 rfl (op_cvi (ltb rfl) un84_E10 un5_E10 rfl) ?_
        have q0 : ¬ (((4294967296 : Nat) : Int) ≤ ((n : Nat) : Int)) := of_decide_eq_false hc1
        have q1 : ¬ (((65536 : Nat) : Int) ≤ ((n : Nat) : Int)) := of_decide_eq_false hc5
        have q2 : (((256 : Nat) : Int) ≤ ((n : Nat) : Int)) := of_decide_eq_true hc7
        have hm : n / 256 < 256 := by omega
        refine TriL.c1 rfl (op_ixs (ltb rfl) un9_E10 rfl rfl (leaf0 (m := n / 256) hm) (leaf1 (m := n / 256) hm)) ?_
        refine TriL.c1 rfl (op_cvi (ltb rfl) un5_E10 un3_E10 rfl) ?_
        refine TriL.c1 rfl (op_bin (ltb rfl) rfl rfl rfl) ?_
        refine TriL.c1 rfl (op_as (ltb rfl) rfl) ?_
        refine TriL.nil ?_
        refine Tri.ret ?_
        exact ⟨.inr rfl, (ResOK.r1 rfl (.tmp rfl .nil)).cast (res_i64 (leaf2 (n := n) (m := n / 256) (off := 8) (by first | rfl | decide) hm (leaf8 (by omega)) (by decide))), rfl⟩
      · refine Tri.skip ?_
        refine Tri.seq ?_
        refine Tri.region ?_
        refine TriL.c1 rfl (op_mv (ltb rfl) rfl) ?_
        refine TriL.c1 rfl (op_mv (ltb rfl) rfl) ?_
        refine TriL.c1 rfl (op_cvi (ltb rfl) un84_E10 un5_E10 rfl) ?_
        have q0 : ¬ (((4294967296 : Nat) : Int) ≤ ((n : Nat) : Int)) := of_decide_eq_false hc1
        have q1 : ¬ (((65536 : Nat) : Int) ≤ ((n : Nat) : Int)) := of_decide_eq_false hc5
        have q2 : ¬ (((256 : Nat) : Int) ≤ ((n : Nat) : Int)) := of_decide_eq_false hc7
        have hm : n < 256 := by omega
        refine TriL.c1 rfl (op_ixs (ltb rfl) un9_E10 rfl rfl (leaf0 (m := n) hm) (leaf1 (m := n) hm)) ?_
        refine TriL.c1 rfl (op_cvi (ltb rfl) un5_E10 un3_E10 rfl) ?_
        refine TriL.c1 rfl (op_bin (ltb rfl) rfl rfl rfl) ?_
        refine TriL.c1 rfl (op_as (ltb rfl) rfl) ?_
        refine TriL.nil ?_
        refine Tri.ret ?_
        exact ⟨.inr rfl, (ResOK.r1 rfl (.tmp rfl .nil)).cast (res_i64 (leaf2 (n := n) (m := n) (off := 0) (by first | rfl | decide) hm (rfl) (by decide))), rfl⟩
end Go.Proofs.YtnpgcmeclkncnaaGreatDoor.X
/- varint: Size, Put. -/
set_option linter.unusedVariables false
set_option maxRecDepth 100000
set_option linter.unusedSimpArgs false
namespace Go.Proofs.YtnpgcmeclkncnaaGreatDoor.X
open Go Go.RowKit Go.Proofs
theorem fn209_E11 : isFn Tryz.prog 209 = true := by kernel_rfl
theorem fn226_E11 : isFn Tryz.prog 226 = true := by kernel_rfl
theorem se51_E11 : se Tryz.prog 51 = some (5, 1, 1) := by kernel_rfl
theorem un5_E11 : Tryz.prog.underlying 5 = some (TypeDesc.int IntKind.u8) := Tryz.underlying5
theorem un84_E11 : Tryz.prog.underlying 84 = some (TypeDesc.int IntKind.u64) := Tryz.underlying84
theorem zAe51_E11 : zeroA Tryz.prog 5 = some [AV.int IntKind.u8 (0)] := by kernel_rfl
/-- a number's bytes: seven bits each, the last one below 128 -/
def vput (n : Nat) : List UInt8 := if h : n < 128 then [UInt8.ofNat n] else UInt8.ofNat (n % 128 + 128) :: vput (n / 128)
termination_by n
decreasing_by omega
theorem vput_lo {n : Nat} (h : n < 128) : vput n = [UInt8.ofNat n] := by rw [vput, dif_pos h]
theorem vput_hi {n : Nat} (h : ¬ n < 128) : vput n = UInt8.ofNat (n % 128 + 128) :: vput (n / 128) := by rw [vput, dif_neg h]
theorem blen_or (n : Nat) : blen (n ||| 1) = blen (n / 2) + 1 := by
  have h1 : (n ||| 1) / 2 = n / 2 := by have := Nat.shiftRight_or_distrib (i := 1) (a := n) (b := 1); rw [Nat.shiftRight_eq_div_pow, Nat.shiftRight_eq_div_pow, Nat.shiftRight_eq_div_pow] at this; simpa using this
  have h2 : 1 ≤ n ||| 1 := by have := Nat.right_le_or (n := n) (m := 1); omega
  rw [blen_half h2, h1]
theorem vput_len (n : Nat) : (vput n).length = (blen (n ||| 1) + 6) / 7 := by
  induction n using Nat.strongRecOn with
  | _ n ih =>
    rw [blen_or]
    by_cases h : n < 128
    · rw [vput_lo h]
      have : blen (n / 2) ≤ 6 := by
        have : ∀ k : Fin 64, blen k.val ≤ 6 := by decide +kernel
        exact this ⟨n / 2, by omega⟩
      simp only [List.length_cons, List.length_nil]; omega
    · rw [vput_hi h, List.length_cons, ih (n / 128) (by omega), blen_or, ← blen_half (n := n) (by omega), blen_shift 7 n (by omega), ← blen_half (n := n / 128) (by omega), show (2 ^ 7 : Nat) = 128 from rfl]
      omega
theorem vput_pos (n : Nat) : 1 ≤ (vput n).length := by
  by_cases h : n < 128
  · rw [vput_lo h]; simp
  · rw [vput_hi h]; simp
theorem vput_one {n : Nat} (h : (vput n).length ≤ 1) : n < 128 := by
  by_cases h2 : n < 128
  · exact h2
  · rw [vput_hi h2, List.length_cons] at h; have := vput_pos (n / 128); omega
theorem blen_le : ∀ (k n : Nat), n < 2 ^ k → blen n ≤ k
  | 0, n, h => by have : n = 0 := by omega
                  subst this; simp [blen]
  | k + 1, n, h => by
    by_cases h0 : n = 0
    · subst h0; simp [blen]
    · rw [blen_half (by omega)]
      have := blen_le k (n / 2) (by rw [Nat.pow_succ] at h; omega)
      omega
theorem or1_lt {n : Nat} (h : n < 18446744073709551616) : n ||| 1 < 18446744073709551616 := Nat.or_lt_two_pow (n := 64) h (by decide)
theorem vput_max {n : Nat} (h : n < 18446744073709551616) : (vput n).length ≤ 10 := by
  rw [vput_len]
  have := blen_le 64 (n ||| 1) (or1_lt h)
  omega
theorem or_u64 {n m : Nat} (h : n < 18446744073709551616) (k : m < 18446744073709551616) : ibits .or .u64 (n : Int) (m : Int) = ((n ||| m : Nat) : Int) := by
  have e1 : (BitVec.ofInt 64 ((n : Nat) : Int)).toNat = n := by rw [BitVec.toNat_ofInt]; omega
  have e2 : (BitVec.ofInt 64 ((m : Nat) : Int)).toNat = m := by rw [BitVec.toNat_ofInt]; omega
  show IntKind.u64.wrap (((BitVec.ofInt 64 ((n : Nat) : Int)) ||| (BitVec.ofInt 64 ((m : Nat) : Int))).toNat : Int) = _
  rw [BitVec.toNat_or, e1, e2]
  have : n ||| m < 18446744073709551616 := Nat.or_lt_two_pow (n := 64) h k
  rw [wru64] <;> omega
theorem size_eq {n : Nat} (h : n < 18446744073709551616) : IntKind.i64.wrap ((IntKind.i64.wrap (IntKind.i64.wrap ((blen (n ||| 1) : Nat) + 7) - 1)).tdiv 7) = ((vput n).length : Int) := by
  have h1 := blen_le 64 (n ||| 1) (or1_lt h)
  rw [vput_len, wr64 (n := ((blen (n ||| 1) : Nat) : Int) + 7) (by omega) (by omega), wr64 (n := ((blen (n ||| 1) : Nat) : Int) + 7 - 1) (by omega) (by omega), Int.tdiv_eq_ediv_of_nonneg (by omega), wr64 (by omega) (by omega)]
  omega
theorem byte_or : ∀ m : Nat, ibits .or .u8 (IntKind.u8.wrap (m : Int)) 128 = (((UInt8.ofNat (m % 128 + 128)).toNat : Nat) : Int) := by
  intro m
  have h : ∀ k : Fin 256, ibits .or .u8 ((k.val : Nat) : Int) 128 = (((UInt8.ofNat (k.val % 128 + 128)).toNat : Nat) : Int) := by decide +kernel
  have e : IntKind.u8.wrap (m : Int) = ((m % 256 : Nat) : Int) := by simp only [IntKind.wrap, IntKind.bits, IntKind.signed]; simp
  rw [e]
  have := h ⟨m % 256, by omega⟩
  simp only at this
  rw [this, show m % 256 % 128 = m % 128 by omega]
theorem byte_of (m : Nat) : IntKind.u8.wrap (m : Int) = (((UInt8.ofNat m).toNat : Nat) : Int) := by
  have e : IntKind.u8.wrap (m : Int) = ((m % 256 : Nat) : Int) := by simp only [IntKind.wrap, IntKind.bits, IntKind.signed]; simp
  rw [e]; simp [UInt8.toNat_ofNat']
theorem len64_pure' {m : Int} {n : Nat} (e : m = n) (h : n < 18446744073709551616) : Pure Tryz.prog 226 [.int .u64 m] (.int .i64 (blen n)) := e ▸ len64_pure n h
theorem size_pure (n : Nat) (h : n < 18446744073709551616) : Pure Tryz.prog 209 [.int .u64 (n : Int)] (.int .i64 ((vput n).length : Nat)) := by
  refine Pure.of_tri Tryz.func209 rfl rfl (ltb rfl) fun H => ?_
  refine Tri.seq ?_
  refine Tri.region ?_
  refine TriL.c1 rfl (op_as (ltb rfl) rfl) ?_
  refine TriL.nil ?_
  refine Tri.seq ?_
  refine Tri.region ?_
  refine TriL.c1 rfl (op_mv (ltb rfl) rfl) ?_
  refine TriL.c1 rfl (op_bin (ltb rfl) rfl rfl rfl) ?_
  refine TriL.c1 rfl (op_call (ltb rfl) fn226_E11 rfl (len64_pure' (or_u64 (m := 1) h (by decide)) (or1_lt h))) ?_
  refine TriL.c1 rfl (op_bin (ltb rfl) rfl rfl rfl) ?_
  refine TriL.c1 rfl (op_bin (ltb rfl) rfl rfl rfl) ?_
  refine TriL.c1 rfl (op_bin (ltb rfl) rfl rfl rfl) ?_
  refine TriL.c1 rfl (op_as (ltb rfl) rfl) ?_
  refine TriL.nil ?_
  refine Tri.ret ?_
  exact ⟨.inr rfl, (ResOK.r1 rfl (.tmp rfl .nil)).cast (congrArg (AV.int .i64) (size_eq h)), rfl⟩
def StVP (H : Hp) (m : Int) (xs : List AV) (k j : Int) : St := [(.h, .hp H), (.s 0, .sv (.v (.int .u64 m))), (.s 3, .sv (.ow 4 xs)), (.s 7, .sv (.v (.int .i64 k))), (.s 8, .sv (.v (.int .i64 j))), (.t 4, .tk false 5 1 xs)]
theorem okEls_one (k : IntKind) (n : Int) : okEls 1 [.int k n] = true := rfl
theorem vput_pureO (n : Nat) (h : n < 18446744073709551616) : PureO Tryz.prog 178 [.int .u64 (n : Int)] 5 1 (bsl (vput n)) := by
  refine PureO.of_tri Tryz.func178 rfl rfl (ltb rfl) rfl fun H => ?_
  refine Tri.seq ?_
  refine Tri.region ?_
  refine TriL.c1 rfl (op_as (ltb rfl) rfl) ?_
  refine TriL.nil ?_
  refine Tri.seq ?_
  refine Tri.region ?_
  refine TriL.c2 rfl (op_mk0 (ltb rfl) se51_E11 rfl rfl (by omega) (by decide) (by decide) rfl) ?_
  refine TriL.c1 rfl (op_as (ltb rfl) rfl) ?_
  refine TriL.nil ?_
  refine Tri.seq ?_
  refine Tri.seq ?_
  refine Tri.region ?_
  refine TriL.c1 rfl (op_mv (ltb rfl) rfl) ?_
  refine TriL.c1 rfl (op_call (ltb rfl) fn209_E11 rfl (size_pure n h)) ?_
  refine TriL.c1 rfl (op_bin (ltb rfl) rfl rfl rfl) ?_
  refine TriL.c1 rfl (op_mv (ltb rfl) rfl) ?_
  refine TriL.kept (Kept.keep [.h, .s 0, .s 3, .s 7, .s 8, .t 4] rfl (by decide) (Kept.now ?_))
  refine Tri.blk ?_
  -- LOOP 1: KEEP
  have hz : IntKind.i64.wrap (((vput n).length : Nat) - 1) = (((vput n).length - 1 : Nat) : Int) := by
    have := vput_pos n; have := vput_max h
    rw [wr64] <;> omega
  refine Tri.loop (fun q s => ∃ (m : Nat) (o : List UInt8) (j : Int) (i : Nat), s = StVP H m (bsl o) (IntKind.i64.wrap (((vput n).length : Nat) - 1)) j ∧ j = i ∧ vput n = o ++ vput m ∧ i = o.length ∧ m < 18446744073709551616 ∧ q = (vput m).length) ?_ (n := (vput n).length) ⟨n, [], 0, 0, rfl, rfl, rfl, rfl, h, rfl⟩
  rintro q s ⟨m, o, j, i, rfl, hj, hv, hi, hm, rfl⟩
  have hlen : (vput n).length = o.length + (vput m).length := by rw [hv, List.length_append]
  have hmx := vput_max h
  refine Tri.seq ?_
  refine Tri.region ?_
  refine TriL.c1 rfl (op_bin (ltb rfl) rfl rfl rfl) ?_
  refine TriL.nil ?_
  refine Tri.seq ?_
  refine Tri.cond rfl (fun hc1 => ?_) (fun hc1 => ?_)
  · have hlt : 128 ≤ m := by
      have := of_decide_eq_true hc1
      rw [hz, hj] at this
      have h1 := vput_pos m
      by_cases h2 : m < 128
      · rw [vput_lo h2] at hlen; simp only [List.length_cons, List.length_nil] at hlen; omega
      · omega
    refine Tri.skip ?_
    refine Tri.seq ?_
    refine Tri.blk ?_
    refine Tri.seq ?_
    refine Tri.region ?_
    refine TriL.c1 rfl (op_mv (ltb rfl) rfl) ?_
    refine TriL.c1 rfl (op_mv (ltb rfl) rfl) ?_
    refine TriL.c1 rfl (op_cvi (ltb rfl) un84_E11 un5_E11 rfl) ?_
    refine TriL.c1 rfl (op_bin (ltb rfl) rfl rfl rfl) ?_
    refine TriL.c1 rfl (op_lit («as» := [_]) (ltb rfl) se51_E11 zAe51_E11 rfl rfl rfl (leb rfl)) ?_
    refine TriL.c3 rfl (op_app (ltb rfl) se51_E11 rfl rfl rfl (okEls_one _ _) rfl (by have := bsl_len o; simp only [List.length_cons, List.length_nil]; omega) (by have := bsl_len o; simp only [List.length_cons, List.length_nil]; omega)) ?_
    refine TriL.c1 rfl (op_as (ltb rfl) rfl) ?_
    refine TriL.nil ?_
    refine Tri.region ?_
    refine TriL.c1 rfl (op_mv (ltb rfl) rfl) ?_
    refine TriL.c1 rfl (op_shr (ltb rfl) rfl rfl (by decide)) ?_
    refine TriL.c1 rfl (op_as (ltb rfl) rfl) ?_
    refine TriL.nil ?_
    refine Tri.region ?_
    refine TriL.c1 rfl (op_bin (ltb rfl) rfl rfl rfl) ?_
    refine TriL.c1 rfl (op_mv (ltb rfl) rfl) ?_
    refine TriL.kept (Kept.keep [.h, .s 0, .s 3, .s 7, .s 8, .t 15] rfl (by decide) (Kept.ren 15 4 (by decide) rfl (Kept.now ?_)))
    have hb : bsl o ++ [.int .u8 (ibits .or .u8 (IntKind.u8.wrap (m : Int)) 128)] = bsl (o ++ [UInt8.ofNat (m % 128 + 128)]) := by rw [byte_or, bsl_app]; rfl
    refine ⟨(vput (m / 128)).length, by rw [vput_hi (n := m) (by omega), List.length_cons]; omega, m / 128, o ++ [UInt8.ofNat (m % 128 + 128)], _, i + 1, by rw [← hb]; rfl, ?_, ?_, by simp [hi], by omega, rfl⟩
    · rw [hj, wr64] <;> omega
    · rw [hv, vput_hi (n := m) (by omega)]; simp
  · have hlt : m < 128 := by
      have := of_decide_eq_false hc1
      rw [hz, hj] at this
      exact vput_one (by omega)
    refine Tri.exit ?_
    refine Tri.seq ?_
    refine Tri.region ?_
    refine TriL.c1 rfl (op_mv (ltb rfl) rfl) ?_
    refine TriL.c1 rfl (op_mv (ltb rfl) rfl) ?_
    refine TriL.c1 rfl (op_cvi (ltb rfl) un84_E11 un5_E11 rfl) ?_
    refine TriL.c1 rfl (op_lit («as» := [_]) (ltb rfl) se51_E11 zAe51_E11 rfl rfl rfl (leb rfl)) ?_
    refine TriL.c3 rfl (op_app (ltb rfl) se51_E11 rfl rfl rfl (okEls_one _ _) rfl (by have := bsl_len o; simp only [List.length_cons, List.length_nil]; omega) (by have := bsl_len o; simp only [List.length_cons, List.length_nil]; omega)) ?_
    refine TriL.c1 rfl (op_as (ltb rfl) rfl) ?_
    refine TriL.nil ?_
    refine Tri.ret ?_
    have hb : bsl o ++ [.int .u8 (IntKind.u8.wrap (m : Int))] = bsl (vput n) := by rw [hv, vput_lo hlt, bsl_app, byte_of]; rfl
    rw [← hb]
    exact ⟨.inr rfl, ⟨23, rfl, rfl⟩, rfl⟩
end Go.Proofs.YtnpgcmeclkncnaaGreatDoor.X
/- fix: Put4, Put8. -/
set_option linter.unusedVariables false
set_option maxRecDepth 100000
set_option linter.unusedSimpArgs false
namespace Go.Proofs.YtnpgcmeclkncnaaGreatDoor.X
open Go Go.RowKit Go.Proofs
theorem fn227_E12 : isFn Tryz.prog 227 = true := by kernel_rfl
theorem ia270_E12 : ia Tryz.prog 270 = some 8 := by kernel_rfl
theorem lk270_E12 : lk Tryz.prog 270 = some (true, 8) := by kernel_rfl
theorem lk5_E12 : lk Tryz.prog 5 = some (false, 1) := by kernel_rfl
theorem un235_E12 : Tryz.prog.underlying 235 = some (TypeDesc.int IntKind.u32) := Tryz.underlying235
theorem un5_E12 : Tryz.prog.underlying 5 = some (TypeDesc.int IntKind.u8) := Tryz.underlying5
theorem un84_E12 : Tryz.prog.underlying 84 = some (TypeDesc.int IntKind.u64) := Tryz.underlying84
theorem zA270_E12 : zeroA Tryz.prog 270 = some [AV.int IntKind.u8 (0), AV.int IntKind.u8 (0), AV.int IntKind.u8 (0), AV.int IntKind.u8 (0), AV.int IntKind.u8 (0), AV.int IntKind.u8 (0), AV.int IntKind.u8 (0), AV.int IntKind.u8 (0)] := by kernel_rfl
/-- the byte k of a number -/
def nb (n k : Nat) : UInt8 := UInt8.ofNat (n / 2 ^ (8 * k))
def wc (n i k : Nat) : AV := .int .u8 (if k < i then ((nb n k).toNat : Int) else 0)
def w8 (n i : Nat) : List AV := [wc n i 0, wc n i 1, wc n i 2, wc n i 3, wc n i 4, wc n i 5, wc n i 6, wc n i 7]
def StW (H : Hp) (n i : Nat) (j : Int) : St := [(.h, .hp H), (.s 0, .sv (.v (.int .u64 (n : Int)))), (.s 2, .sv (.lp 2 0)), (.s 3, .sv (.lp 3 0)), (.s 5, .sv (.v (.int .i64 j))), (.b 2, .bx [.v (.int .u8 0), .v (.int .u8 0), .v (.int .u8 0), .v (.int .u8 0), .v (.int .u8 0), .v (.int .u8 0), .v (.int .u8 0), .v (.int .u8 0)]), (.b 3, .bx [.v (wc n i 0), .v (wc n i 1), .v (wc n i 2), .v (wc n i 3), .v (wc n i 4), .v (wc n i 5), .v (wc n i 6), .v (wc n i 7)])]
theorem w8_set (n i : Nat) (h : i < 8) : setAt [.v (wc n i 0), .v (wc n i 1), .v (wc n i 2), .v (wc n i 3), .v (wc n i 4), .v (wc n i 5), .v (wc n i 6), .v (wc n i 7)] (0 + i) [.v (.int .u8 ((nb n i).toNat : Int))] = [.v (wc n (i + 1) 0), .v (wc n (i + 1) 1), .v (wc n (i + 1) 2), .v (wc n (i + 1) 3), .v (wc n (i + 1) 4), .v (wc n (i + 1) 5), .v (wc n (i + 1) 6), .v (wc n (i + 1) 7)] := by
  have : ∀ j : Fin 8, j.val = i → setAt [.v (wc n j.val 0), .v (wc n j.val 1), .v (wc n j.val 2), .v (wc n j.val 3), .v (wc n j.val 4), .v (wc n j.val 5), .v (wc n j.val 6), .v (wc n j.val 7)] (0 + j.val) [.v (.int .u8 ((nb n j.val).toNat : Int))] = [.v (wc n (j.val + 1) 0), .v (wc n (j.val + 1) 1), .v (wc n (j.val + 1) 2), .v (wc n (j.val + 1) 3), .v (wc n (j.val + 1) 4), .v (wc n (j.val + 1) 5), .v (wc n (j.val + 1) 6), .v (wc n (j.val + 1) 7)] := by
    intro j _
    match j with
    | ⟨0, _⟩ => rfl
    | ⟨1, _⟩ => rfl
    | ⟨2, _⟩ => rfl
    | ⟨3, _⟩ => rfl
    | ⟨4, _⟩ => rfl
    | ⟨5, _⟩ => rfl
    | ⟨6, _⟩ => rfl
    | ⟨7, _⟩ => rfl

  exact this ⟨i, h⟩ rfl
theorem shr_byte (n i : Nat) (h : i < 8) : IntKind.u8.wrap ((n / 2 ^ (min (IntKind.i64.wrap (8 * (i : Int))).toNat IntKind.u64.bits) : Nat) : Int) = ((nb n i).toNat : Int) := by
  rw [wr64 (by omega) (by omega), show (8 * (i : Int)).toNat = 8 * i by omega, show min (8 * i) IntKind.u64.bits = 8 * i from Nat.min_eq_left (by show 8 * i ≤ 64; omega), byte_of]; rfl
theorem w8_set' (n i : Nat) (h : i < 8) : setAt [.v (wc n i 0), .v (wc n i 1), .v (wc n i 2), .v (wc n i 3), .v (wc n i 4), .v (wc n i 5), .v (wc n i 6), .v (wc n i 7)] (0 + ((i : Nat) : Int).toNat) (Sv.v (.int .u8 (IntKind.u8.wrap ((n / 2 ^ (min (IntKind.i64.wrap (8 * (i : Int))).toNat IntKind.u64.bits) : Nat) : Int)))).cells = [.v (wc n (i + 1) 0), .v (wc n (i + 1) 1), .v (wc n (i + 1) 2), .v (wc n (i + 1) 3), .v (wc n (i + 1) 4), .v (wc n (i + 1) 5), .v (wc n (i + 1) 6), .v (wc n (i + 1) 7)] := by
  rw [shr_byte n i h, Int.toNat_natCast]; exact w8_set n i h
/-- the first k bytes of a number -/
def fput (n k : Nat) : List UInt8 := (List.range k).map fun i => nb n i
theorem bytesOf_pure (n : Nat) : Pure Tryz.prog 227 [.int .u64 (n : Int)] (.agg (w8 n 8)) := by
  refine Pure.of_tri Tryz.func227 rfl rfl (ltb rfl) fun H => ?_
  refine Tri.seq ?_
  refine Tri.region ?_
  refine TriL.c2 rfl (op_all (ltb rfl) zA270_E12 rfl) ?_
  refine TriL.nil ?_
  refine Tri.seq ?_
  refine Tri.region ?_
  refine TriL.c2 rfl (op_all (ltb rfl) zA270_E12 rfl) ?_
  refine TriL.nil ?_
  refine Tri.seq ?_
  refine Tri.seq ?_
  refine Tri.region ?_
  refine TriL.c1 rfl (op_mv (ltb rfl) rfl) ?_
  refine TriL.kept (Kept.keep [.h, .s 0, .s 2, .s 3, .s 5, .b 2, .b 3] rfl (by decide) (Kept.now ?_))
  refine Tri.blk ?_
  -- LOOP 1: KEEP
  refine Tri.loop (fun q s => ∃ (i : Nat) (j : Int), s = StW H n i j ∧ j = i ∧ i ≤ 8 ∧ q = 8 - i) ?_ (n := 8) ⟨0, 0, rfl, rfl, by omega, rfl⟩
  rintro q s ⟨i, j, rfl, hj, hi, rfl⟩
  refine Tri.seq ?_
  refine Tri.region ?_
  refine TriL.c1 rfl (op_bin (ltb rfl) rfl rfl rfl) ?_
  refine TriL.nil ?_
  refine Tri.seq ?_
  refine Tri.cond rfl (fun hc1 => ?_) (fun hc1 => ?_)
  · have hlt : i < 8 := by have := of_decide_eq_true hc1; omega
    subst hj
    refine Tri.skip ?_
    refine Tri.seq ?_
    refine Tri.blk ?_
    refine Tri.seq ?_
    refine Tri.region ?_
    refine TriL.c1 rfl (op_mv (ltb rfl) rfl) ?_
    refine TriL.c1 rfl (op_as (ltb rfl) rfl) ?_
    refine TriL.nil ?_
    refine Tri.region ?_
    refine TriL.c1 rfl (op_mv (ltb rfl) rfl) ?_
    refine TriL.c1 rfl (op_mv (ltb rfl) rfl) ?_
    refine TriL.c1 rfl (op_mv (ltb rfl) rfl) ?_
    refine TriL.c1 rfl (op_bin (ltb rfl) rfl rfl rfl) ?_
    refine TriL.c1 rfl (op_shr (ltb rfl) rfl rfl (by rw [wr64] <;> omega)) ?_
    refine TriL.c1 rfl (op_cvi (ltb rfl) un84_E12 un5_E12 rfl) ?_
    refine TriL.c1 rfl (op_iaa (ltb rfl) ia270_E12 rfl rfl (by omega) (by show (i : Int) < ((8 : Nat) : Int); omega)) ?_
    refine TriL.c1 rfl (op_stl lk5_E12 rfl rfl rfl rfl rfl (by show 0 + (i : Int).toNat + 1 ≤ 8; omega)) ?_
    refine TriL.nil ?_
    refine Tri.region ?_
    refine TriL.c1 rfl (op_bin (ltb rfl) rfl rfl rfl) ?_
    refine TriL.c1 rfl (op_mv (ltb rfl) rfl) ?_
    rw [w8_set' n i hlt]
    refine TriL.kept (Kept.keep [.h, .s 0, .s 2, .s 3, .s 5, .b 2, .b 3] rfl (by decide) (Kept.now ?_))
    refine ⟨8 - (i + 1), by omega, i + 1, _, rfl, by rw [wr64] <;> omega, by omega, rfl⟩
  · have hge : i = 8 := by have := of_decide_eq_false hc1; omega
    subst hge
    refine Tri.exit ?_
    refine Tri.seq ?_
    refine Tri.region ?_
    refine TriL.c1 rfl (op_ldl (ltb rfl) lk270_E12 rfl rfl rfl) ?_
    refine TriL.c1 rfl (op_stl lk270_E12 rfl rfl rfl rfl rfl (leb rfl)) ?_
    refine TriL.nil ?_
    refine Tri.ret ?_
    exact ⟨.inr rfl, (ResOK.r1 rfl (.cell lk270_E12 rfl rfl rfl rfl .nil)), rfl⟩
theorem bytesOf_pure' {m : Int} {n : Nat} (e : m = n) : Pure Tryz.prog 227 [.int .u64 m] (.agg (w8 n 8)) := e ▸ bytesOf_pure n
theorem put4_pure (n : Nat) (h : n < 4294967296) : Pure Tryz.prog 210 [.int .u32 (n : Int)] (.sl (bsl (fput n 4))) := by
  refine Pure.of_tri Tryz.func210 rfl rfl (ltb rfl) fun H => ?_
  refine Tri.seq ?_
  refine Tri.region ?_
  refine TriL.c1 rfl (op_as (ltb rfl) rfl) ?_
  refine TriL.nil ?_
  refine Tri.seq ?_
  refine Tri.region ?_
  refine TriL.c1 rfl (op_mv (ltb rfl) rfl) ?_
  refine TriL.c1 rfl (op_cvi (ltb rfl) un235_E12 un84_E12 rfl) ?_
  refine TriL.c1 rfl (op_call (ltb rfl) fn227_E12 rfl (bytesOf_pure' (n := n) (wru64 (by omega) (by omega)))) ?_
  refine TriL.c2 rfl (op_all (ltb rfl) zA270_E12 rfl) ?_
  refine TriL.c1 rfl (op_stl lk270_E12 rfl rfl rfl rfl rfl (leb rfl)) ?_
  refine TriL.nil ?_
  refine Tri.seq ?_
  refine Tri.region ?_
  refine TriL.c2 rfl (op_sla (ltb rfl) ia270_E12 (xs := w8 n 8) rfl rfl rfl rfl (by decide) (by decide)) ?_
  refine TriL.c1 rfl (op_as (ltb rfl) rfl) ?_
  refine TriL.nil ?_
  refine Tri.ret ?_
  exact ⟨.inr rfl, (ResOK.r1 rfl (.tmp rfl .nil)), rfl⟩
theorem put8_pure (n : Nat) : Pure Tryz.prog 211 [.int .u64 (n : Int)] (.sl (bsl (fput n 8))) := by
  refine Pure.of_tri Tryz.func211 rfl rfl (ltb rfl) fun H => ?_
  refine Tri.seq ?_
  refine Tri.region ?_
  refine TriL.c1 rfl (op_as (ltb rfl) rfl) ?_
  refine TriL.nil ?_
  refine Tri.seq ?_
  refine Tri.region ?_
  refine TriL.c1 rfl (op_mv (ltb rfl) rfl) ?_
  refine TriL.c1 rfl (op_call (ltb rfl) fn227_E12 rfl (bytesOf_pure n)) ?_
  refine TriL.c2 rfl (op_all (ltb rfl) zA270_E12 rfl) ?_
  refine TriL.c1 rfl (op_stl lk270_E12 rfl rfl rfl rfl rfl (leb rfl)) ?_
  refine TriL.nil ?_
  refine Tri.seq ?_
  refine Tri.region ?_
  refine TriL.c2 rfl (op_sla (ltb rfl) ia270_E12 (xs := w8 n 8) (m := 8) rfl rfl rfl rfl (by decide) (by decide)) ?_
  refine TriL.c1 rfl (op_as (ltb rfl) rfl) ?_
  refine TriL.nil ?_
  refine Tri.ret ?_
  exact ⟨.inr rfl, (ResOK.r1 rfl (.tmp rfl .nil)), rfl⟩
end Go.Proofs.YtnpgcmeclkncnaaGreatDoor.X
/- emit: field, Varint, Fixed4, Fixed8, Text; what a writer that is none answers. -/
set_option linter.unusedVariables false
set_option maxRecDepth 100000
set_option linter.unusedSimpArgs false
namespace Go.Proofs.YtnpgcmeclkncnaaGreatDoor.X
open Go Go.RowKit Go.Proofs
theorem fn177_E13 : isFn Tryz.prog 177 = true := by kernel_rfl
theorem fn178_E13 : isFn Tryz.prog 178 = true := by kernel_rfl
theorem fn208_E13 : isFn Tryz.prog 208 = true := by kernel_rfl
theorem fn210_E13 : isFn Tryz.prog 210 = true := by kernel_rfl
theorem fn211_E13 : isFn Tryz.prog 211 = true := by kernel_rfl
theorem fn86_E13 : isFn Tryz.prog 86 = true := by kernel_rfl
theorem se194_E13 : se Tryz.prog 194 = some (51, 1, 24) := by kernel_rfl
theorem un3_E13 : Tryz.prog.underlying 3 = some (TypeDesc.int IntKind.i64) := Tryz.underlying3
theorem un51_E13 : Tryz.prog.underlying 51 = some (TypeDesc.slice 5) := Tryz.underlying51
theorem un84_E13 : Tryz.prog.underlying 84 = some (TypeDesc.int IntKind.u64) := Tryz.underlying84
theorem un9_E13 : Tryz.prog.underlying 9 = some TypeDesc.string := Tryz.underlying9
theorem unel51_E13 : Tryz.prog.underlying 5 = some (TypeDesc.int IntKind.u8) := Tryz.underlying5
theorem zAe194_E13 : zeroA Tryz.prog 51 = some [AV.sl []] := by kernel_rfl
theorem vput_pureO' {m : Int} {n : Nat} (e : m = n) (h : n < 18446744073709551616) : PureO Tryz.prog 178 [.int .u64 m] 5 1 (bsl (vput n)) := e ▸ vput_pureO n h
theorem field_run (H : Hp) (id : Nat) (b : List UInt8) (fs : List AV) (n w : Int) (ps : List (List UInt8)) (ho : H.obj id = some (wr (bsl b) fs)) (hr : rightok n w = true) (hl : b.length + ps.flatten.length ≤ 1073741000) (hp : ps.length ≤ 1073741824) : Run Tryz.prog 177 [.op id 0, .int .i64 n, .int .i64 w, .sl (sls ps)] H (.bool true) (H.set id (wr (bsl (b ++ vput (8 * n + w).toNat ++ ps.flatten)) fs)) := by
  have hq := of_decide_eq_true hr
  have hm := vput_max (n := (8 * n + w).toNat) (by omega)
  refine Run.of_tri Tryz.func177 rfl rfl (ltb rfl) ?_
  refine Tri.seq ?_
  refine Tri.region ?_
  refine TriL.c1 rfl (op_as (ltb rfl) rfl) ?_
  refine TriL.nil ?_
  refine Tri.seq ?_
  refine Tri.region ?_
  refine TriL.c1 rfl (op_mv (ltb rfl) rfl) ?_
  refine TriL.c1 rfl (op_mv (ltb rfl) rfl) ?_
  refine TriL.c1 rfl (op_call (ltb rfl) fn208_E13 rfl (of_pure n w)) ?_
  refine TriL.c1 rfl (op_mv (ltb rfl) rfl) ?_
  refine TriL.c1 rfl (op_ext (ltb rfl) rfl rfl) ?_
  refine TriL.c1 rfl (op_ext (ltb rfl) rfl rfl) ?_
  refine TriL.c1 rfl (op_as (ltb rfl) rfl) ?_
  refine TriL.c1 rfl (op_as (ltb rfl) rfl) ?_
  refine TriL.nil ?_
  refine Tri.seq ?_
  refine Tri.region ?_
  refine TriL.c1 rfl (op_mv (ltb rfl) rfl) ?_
  refine TriL.c1 rfl (op_mv (ltb rfl) rfl) ?_
  refine TriL.g1 rfl (ltb rfl) rfl hr (op_mv (ltb rfl) rfl) ?_
  refine TriL.g1 rfl (ltb rfl) rfl hr (op_mv (ltb rfl) rfl) ?_
  refine TriL.g2 rfl (ltb rfl) rfl hr (op_callo (ltb rfl) fn178_E13 rfl (vput_pureO' (n := (8 * n + w).toNat) (by simp only [tagnum, hr, if_pos]; omega) (by omega)) rfl) ?_
  refine TriL.g1 rfl (ltb rfl) rfl hr (op_lit («as» := [_]) (ltb rfl) se194_E13 zAe194_E13 rfl rfl rfl (leb rfl)) ?_
  refine TriL.g2 rfl (ltb rfl) rfl hr (op_callh (ltb rfl) fn86_E13 rfl rfl (plain_run H id b fs [vput (8 * n + w).toNat] ho (by simp only [List.flatten_cons, List.flatten_nil, List.append_nil]; omega) (by simp))) ?_
  refine TriL.c1 rfl (op_pickt (ltb rfl) rfl hr rfl) ?_
  refine TriL.c1 rfl (op_mv (ltb rfl) rfl) ?_
  refine TriL.g1 rfl (ltb rfl) rfl rfl (op_mv (ltb rfl) rfl) ?_
  refine TriL.g1 rfl (ltb rfl) rfl rfl (op_mv (ltb rfl) rfl) ?_
  refine TriL.g2 rfl (ltb rfl) rfl rfl (op_callh (ltb rfl) fn86_E13 rfl rfl (plain_run _ id (b ++ [vput (8 * n + w).toNat].flatten) fs ps Hp.set_obj (by simp only [List.flatten_cons, List.flatten_nil, List.append_nil, List.length_append]; omega) hp)) ?_
  refine TriL.c1 rfl (op_pickt (ltb rfl) rfl rfl rfl) ?_
  refine TriL.c1 rfl (op_as (ltb rfl) rfl) ?_
  refine TriL.nil ?_
  refine Tri.ret ?_
  refine ⟨.inr rfl, ResOK.r1 rfl (.tmp rfl .nil), ?_⟩
  have e : (H.set id (wr (bsl (b ++ [vput (8 * n + w).toNat].flatten)) fs)).set id (wr (bsl (b ++ [vput (8 * n + w).toNat].flatten ++ ps.flatten)) fs) = H.set id (wr (bsl (b ++ vput (8 * n + w).toNat ++ ps.flatten)) fs) := by
    rw [Hp.set_set]; simp only [List.flatten_cons, List.flatten_nil, List.append_nil]
  exact congrArg (fun h => some (CV.hp h)) e
theorem varint_wrap (H H' : Hp) (p : AV) (n : Int) (x : Nat) (hx : x < 18446744073709551616) (c : Bool) (hf : Run Tryz.prog 177 [p, .int .i64 n, .int .i64 0, .sl (sls [vput x])] H (.bool c) H') : Run Tryz.prog 180 [p, .int .i64 n, .int .u64 (x : Int)] H (.bool c) H' := by
  refine Run.of_tri Tryz.func180 rfl rfl (ltb rfl) ?_
  refine Tri.seq ?_
  refine Tri.region ?_
  refine TriL.c1 rfl (op_as (ltb rfl) rfl) ?_
  refine TriL.nil ?_
  refine Tri.seq ?_
  refine Tri.region ?_
  refine TriL.c1 rfl (op_mv (ltb rfl) rfl) ?_
  refine TriL.c1 rfl (op_mv (ltb rfl) rfl) ?_
  refine TriL.c1 rfl (op_mv (ltb rfl) rfl) ?_
  refine TriL.c2 rfl (op_callo (ltb rfl) fn178_E13 rfl (vput_pureO x hx) rfl) ?_
  refine TriL.c1 rfl (op_lit («as» := [_]) (ltb rfl) se194_E13 zAe194_E13 rfl rfl rfl (leb rfl)) ?_
  refine TriL.c2 rfl (op_callh (ltb rfl) fn177_E13 rfl rfl hf) ?_
  refine TriL.c1 rfl (op_as (ltb rfl) rfl) ?_
  refine TriL.nil ?_
  refine Tri.ret ?_
  exact ⟨.inr rfl, (ResOK.r1 rfl (.tmp rfl .nil)), rfl⟩
theorem fixed4_wrap (H H' : Hp) (p : AV) (n : Int) (x : Nat) (hx : x < 4294967296) (c : Bool) (hf : Run Tryz.prog 177 [p, .int .i64 n, .int .i64 5, .sl (sls [fput x 4])] H (.bool c) H') : Run Tryz.prog 182 [p, .int .i64 n, .int .u32 (x : Int)] H (.bool c) H' := by
  refine Run.of_tri Tryz.func182 rfl rfl (ltb rfl) ?_
  refine Tri.seq ?_
  refine Tri.region ?_
  refine TriL.c1 rfl (op_as (ltb rfl) rfl) ?_
  refine TriL.nil ?_
  refine Tri.seq ?_
  refine Tri.region ?_
  refine TriL.c1 rfl (op_mv (ltb rfl) rfl) ?_
  refine TriL.c1 rfl (op_mv (ltb rfl) rfl) ?_
  refine TriL.c1 rfl (op_mv (ltb rfl) rfl) ?_
  refine TriL.c1 rfl (op_call (ltb rfl) fn210_E13 rfl (put4_pure x hx)) ?_
  refine TriL.c1 rfl (op_lit («as» := [_]) (ltb rfl) se194_E13 zAe194_E13 rfl rfl rfl (leb rfl)) ?_
  refine TriL.c2 rfl (op_callh (ltb rfl) fn177_E13 rfl rfl hf) ?_
  refine TriL.c1 rfl (op_as (ltb rfl) rfl) ?_
  refine TriL.nil ?_
  refine Tri.ret ?_
  exact ⟨.inr rfl, (ResOK.r1 rfl (.tmp rfl .nil)), rfl⟩
theorem fixed8_wrap (H H' : Hp) (p : AV) (n : Int) (x : Nat) (c : Bool) (hf : Run Tryz.prog 177 [p, .int .i64 n, .int .i64 1, .sl (sls [fput x 8])] H (.bool c) H') : Run Tryz.prog 181 [p, .int .i64 n, .int .u64 (x : Int)] H (.bool c) H' := by
  refine Run.of_tri Tryz.func181 rfl rfl (ltb rfl) ?_
  refine Tri.seq ?_
  refine Tri.region ?_
  refine TriL.c1 rfl (op_as (ltb rfl) rfl) ?_
  refine TriL.nil ?_
  refine Tri.seq ?_
  refine Tri.region ?_
  refine TriL.c1 rfl (op_mv (ltb rfl) rfl) ?_
  refine TriL.c1 rfl (op_mv (ltb rfl) rfl) ?_
  refine TriL.c1 rfl (op_mv (ltb rfl) rfl) ?_
  refine TriL.c1 rfl (op_call (ltb rfl) fn211_E13 rfl (put8_pure x)) ?_
  refine TriL.c1 rfl (op_lit («as» := [_]) (ltb rfl) se194_E13 zAe194_E13 rfl rfl rfl (leb rfl)) ?_
  refine TriL.c2 rfl (op_callh (ltb rfl) fn177_E13 rfl rfl hf) ?_
  refine TriL.c1 rfl (op_as (ltb rfl) rfl) ?_
  refine TriL.nil ?_
  refine Tri.ret ?_
  exact ⟨.inr rfl, (ResOK.r1 rfl (.tmp rfl .nil)), rfl⟩
theorem text_wrap (H H' : Hp) (p : AV) (n : Int) (x : List UInt8) (hx : x.length ≤ 1073741824) (c : Bool) (hf : Run Tryz.prog 177 [p, .int .i64 n, .int .i64 2, .sl (sls [vput x.length, x])] H (.bool c) H') : Run Tryz.prog 130 [p, .int .i64 n, .str x] H (.bool c) H' := by
  refine Run.of_tri Tryz.func130 rfl rfl (ltb rfl) ?_
  refine Tri.seq ?_
  refine Tri.region ?_
  refine TriL.c1 rfl (op_as (ltb rfl) rfl) ?_
  refine TriL.nil ?_
  refine Tri.seq ?_
  refine Tri.region ?_
  refine TriL.c1 rfl (op_mv (ltb rfl) rfl) ?_
  refine TriL.c1 rfl (op_mv (ltb rfl) rfl) ?_
  refine TriL.c1 rfl (op_mv (ltb rfl) rfl) ?_
  refine TriL.c1 rfl (op_lens (ltb rfl) un9_E13 rfl) ?_
  refine TriL.c1 rfl (op_cvi (ltb rfl) un3_E13 un84_E13 rfl) ?_
  refine TriL.c2 rfl (op_callo (ltb rfl) fn178_E13 rfl (vput_pureO' (n := x.length) (wru64 (by omega) (by omega)) (by omega)) rfl) ?_
  refine TriL.c1 rfl (op_mv (ltb rfl) rfl) ?_
  refine TriL.c1 rfl (op_s2b (ltb rfl) un9_E13 un51_E13 unel51_E13 rfl) ?_
  refine TriL.c1 rfl (op_lit («as» := [_, _]) (ltb rfl) se194_E13 zAe194_E13 rfl rfl rfl (leb rfl)) ?_
  refine TriL.c2 rfl (op_callh (ltb rfl) fn177_E13 rfl rfl hf) ?_
  refine TriL.c1 rfl (op_as (ltb rfl) rfl) ?_
  refine TriL.nil ?_
  refine Tri.ret ?_
  exact ⟨.inr rfl, (ResOK.r1 rfl (.tmp rfl .nil)), rfl⟩
end Go.Proofs.YtnpgcmeclkncnaaGreatDoor.X
/- emit: Close. -/
set_option linter.unusedVariables false
set_option maxRecDepth 100000
set_option linter.unusedSimpArgs false
namespace Go.Proofs.YtnpgcmeclkncnaaGreatDoor.X
open Go Go.RowKit Go.Proofs
theorem fn178_E14 : isFn Tryz.prog 178 = true := by kernel_rfl
theorem fn208_E14 : isFn Tryz.prog 208 = true := by kernel_rfl
theorem fn225_E14 : isFn Tryz.prog 225 = true := by kernel_rfl
theorem fn87_E14 : isFn Tryz.prog 87 = true := by kernel_rfl
theorem fo149_0_E14 : fo Tryz.prog 149 0 = some 0 := by kernel_rfl
theorem fo149_1_E14 : fo Tryz.prog 149 1 = some 1 := by kernel_rfl
theorem fo267_0_E14 : fo Tryz.prog 267 0 = some 0 := by kernel_rfl
theorem fo267_1_E14 : fo Tryz.prog 267 1 = some 1 := by kernel_rfl
theorem ie147_E14 : ie Tryz.prog 147 = some 2 := by kernel_rfl
theorem lk147_E14 : lk Tryz.prog 147 = some (false, 1) := by kernel_rfl
theorem lk267_E14 : lk Tryz.prog 267 = some (true, 2) := by kernel_rfl
theorem lk3_E14 : lk Tryz.prog 3 = some (false, 1) := by kernel_rfl
theorem lk51_E14 : lk Tryz.prog 51 = some (false, 1) := by kernel_rfl
theorem se51_E14 : se Tryz.prog 51 = some (5, 1, 1) := by kernel_rfl
theorem un147_E14 : Tryz.prog.underlying 147 = some (TypeDesc.slice 267) := Tryz.underlying147
theorem un3_E14 : Tryz.prog.underlying 3 = some (TypeDesc.int IntKind.i64) := Tryz.underlying3
theorem un51_E14 : Tryz.prog.underlying 51 = some (TypeDesc.slice 5) := Tryz.underlying51
theorem un84_E14 : Tryz.prog.underlying 84 = some (TypeDesc.int IntKind.u64) := Tryz.underlying84
theorem zA267_E14 : zeroA Tryz.prog 267 = some [AV.int IntKind.i64 (0), AV.int IntKind.i64 (0)] := by kernel_rfl
/-- a frame that is closed: its tag, its length, then what is in it -/
def shut (b : List UInt8) (n : Int) (k : Nat) : List UInt8 := b.take k ++ (vput (8 * n + 2).toNat ++ vput (b.length - k)) ++ b.drop k
theorem fm_frm (fs : List AV) (h : ∀ f ∈ fs, ∃ a b, f = frm a b) (n k : Int) : (((fs ++ [frm n k]).flatMap AV.cells).drop (fs.length * 2)) = [.int .i64 n, .int .i64 k] := by
  have hl : (fs.flatMap AV.cells).length = fs.length * 2 := flat_len fun e he => by obtain ⟨a, b, rfl⟩ := h e he; rfl
  rw [List.flatMap_append, List.drop_append_of_le_length (by omega), List.drop_of_length_le (by omega)]; rfl
theorem close_run (H : Hp) (id : Nat) (b : List UInt8) (fs : List AV) (n : Int) (k : Nat) (ho : H.obj id = some (wr (bsl b) (fs ++ [frm n k]))) (hfs : ∀ f ∈ fs, ∃ a b, f = frm a b) (hr : rightok n 2 = true) (hk : k ≤ b.length) (hl : b.length ≤ 1073741000) (hf : fs.length ≤ 1048576) :
    Run Tryz.prog 207 [.op id 0] H (.bool true) (H.set id (wr (bsl (shut b n k)) fs)) := by
  have hq := of_decide_eq_true hr
  have hm1 := vput_max (n := (8 * n + 2).toNat) (by omega)
  have hm2 := vput_max (n := b.length - k) (by omega)
  have hlen : (fs ++ [frm n k]).length = fs.length + 1 := by simp
  have hz : ((((fs ++ [frm n k]).length : Nat) : Int) == 0) = false := by rw [hlen]; simp; omega
  have hn1 : IntKind.i64.wrap ((((fs ++ [frm n k]).length : Nat) : Int) - 1) = (fs.length : Int) := by rw [hlen, wr64] <;> omega
  have hnn : ((fs.length : Nat) : Int).toNat = fs.length := rfl
  have hfr : List.take (IntKind.i64.wrap ((((fs ++ [frm n k]).length : Nat) : Int) - 1)).toNat (fs ++ [frm n k]) = fs := by rw [hn1, hnn, List.take_append_of_le_length (by omega), List.take_length]
  have hbl := bsl_len b
  have hw2 : IntKind.u64.wrap (IntKind.i64.wrap (((bsl b).length : Int) - (k : Int))) = ((b.length - k : Nat) : Int) := by rw [hbl, wr64 (by omega) (by omega), wru64 (by omega) (by omega)]; omega
  refine Run.of_tri Tryz.func207 rfl rfl (ltb rfl) ?_
  refine Tri.seq ?_
  refine Tri.region ?_
  refine TriL.c1 rfl (op_as (ltb rfl) rfl) ?_
  refine TriL.nil ?_
  refine Tri.seq ?_
  refine Tri.seq ?_
  refine Tri.region ?_
  refine TriL.c1 rfl (op_mv (ltb rfl) rfl) ?_
  refine TriL.c2 rfl (op_callh (ltb rfl) fn87_E14 rfl rfl (is_run H id _ _ ho)) ?_
  refine TriL.c1 rfl (op_un (ltb rfl) rfl rfl) ?_
  refine TriL.c1 rfl (op_mv (ltb rfl) rfl) ?_
  refine TriL.g1 rfl (ltb rfl) rfl rfl (op_mv (ltb rfl) rfl) ?_
  refine TriL.g1 rfl (ltb rfl) rfl rfl (op_nckc (ltb rfl) rfl) ?_
  refine TriL.g1 rfl (ltb rfl) rfl rfl (op_fac (ltb rfl) fo149_1_E14 rfl) ?_
  refine TriL.g1 rfl (ltb rfl) rfl rfl (op_ldc (ltb rfl) lk147_E14 rfl rfl ho rfl) ?_
  refine TriL.g1 rfl (ltb rfl) rfl rfl (op_lensl (ltb rfl) un147_E14 rfl) ?_
  refine TriL.g1 rfl (ltb rfl) rfl rfl (op_bin (ltb rfl) rfl rfl rfl) ?_
  refine TriL.c1 rfl (op_pickf (ltb rfl) rfl rfl rfl) ?_
  refine TriL.nil ?_
  refine Tri.condF rfl (hz) ?_
  refine Tri.skip ?_
  refine Tri.seq ?_
  refine Tri.ofKept (Kept.opn 100 id 100 rfl ho rfl rfl (Kept.lp 0 100 rfl rfl (Kept.now ?_)))
  refine Tri.drawn mixed rfl ?_
  refine TriD.c1 rfl (op_mv (ltb rfl) rfl) ?_
  refine TriD.c1 rfl (op_nckl (ltb rfl) rfl) ?_
  refine TriD.c1 rfl (op_fal (ltb rfl) fo149_1_E14 rfl) ?_
  refine TriD.c1 rfl (op_ldo (ltb rfl) lk147_E14 rfl rfl rfl) ?_
  refine TriD.c1 rfl (op_mv (ltb rfl) rfl) ?_
  refine TriD.c1 rfl (op_nckl (ltb rfl) rfl) ?_
  refine TriD.c1 rfl (op_fal (ltb rfl) fo149_1_E14 rfl) ?_
  refine TriD.c1 rfl (op_ldo (ltb rfl) lk147_E14 rfl rfl rfl) ?_
  refine TriD.c1 rfl (op_lenom (ltb rfl) un147_E14 rfl) ?_
  refine TriD.c1 rfl (op_bin (ltb rfl) rfl rfl rfl) ?_
  refine TriD.c1 rfl (op_iam (ltb rfl) ie147_E14 rfl rfl rfl (by rw [hn1]; omega) (by rw [hn1]; omega)) ?_
  refine TriD.c1 rfl (op_ldt (ltb rfl) lk267_E14 rfl rfl (by rw [hn1, hnn, fm_frm fs hfs]; rfl)) ?_
  refine TriD.c2 rfl (op_all (ltb rfl) zA267_E14 rfl) ?_
  refine TriD.c1 rfl (op_stl lk267_E14 rfl rfl rfl rfl rfl (leb rfl)) ?_
  refine TriD.nil (by kernel_rfl) (Kept.now ?_)
  refine Tri.seq ?_
  refine Tri.drawn mixed rfl ?_
  refine TriD.c1 rfl (op_mv (ltb rfl) rfl) ?_
  refine TriD.c1 rfl (op_mv (ltb rfl) rfl) ?_
  refine TriD.c1 rfl (op_nckl (ltb rfl) rfl) ?_
  refine TriD.c1 rfl (op_fal (ltb rfl) fo149_1_E14 rfl) ?_
  refine TriD.c1 rfl (op_ldo (ltb rfl) lk147_E14 rfl rfl rfl) ?_
  refine TriD.c1 rfl (op_mv (ltb rfl) rfl) ?_
  refine TriD.c1 rfl (op_nckl (ltb rfl) rfl) ?_
  refine TriD.c1 rfl (op_fal (ltb rfl) fo149_1_E14 rfl) ?_
  refine TriD.c1 rfl (op_ldo (ltb rfl) lk147_E14 rfl rfl rfl) ?_
  refine TriD.c1 rfl (op_lenom (ltb rfl) un147_E14 rfl) ?_
  refine TriD.c1 rfl (op_bin (ltb rfl) rfl rfl rfl) ?_
  refine TriD.c3 rfl (op_cutom (ltb rfl) ie147_E14 rfl rfl rfl rfl (by rw [hn1]; omega) (by rw [hn1]; omega) rfl) ?_
  refine TriD.c1 rfl (op_nckl (ltb rfl) rfl) ?_
  refine TriD.c1 rfl (op_fal (ltb rfl) fo149_1_E14 rfl) ?_
  refine TriD.c1 rfl (op_sto lk147_E14 rfl rfl rfl rfl rfl (leb rfl)) ?_
  refine TriD.nil (by kernel_rfl) (Kept.op 0 rfl rfl (Kept.cls 100 rfl rfl rfl rfl (Kept.now ?_)))
  rw [hfr, Hp.del_set]
  refine Tri.seq ?_  -- region 5 emit.go:84
  refine Tri.region ?_
  refine TriL.c1 rfl (op_fal (ltb rfl) fo267_0_E14 rfl) ?_
  refine TriL.c1 rfl (op_ldl (ltb rfl) lk3_E14 rfl rfl rfl) ?_
  refine TriL.c1 rfl (op_call (ltb rfl) fn208_E14 rfl (of_pure n 2)) ?_
  refine TriL.c1 rfl (op_mv (ltb rfl) rfl) ?_
  refine TriL.c1 rfl (op_ext (ltb rfl) rfl rfl) ?_
  refine TriL.c1 rfl (op_ext (ltb rfl) rfl rfl) ?_
  refine TriL.c1 rfl (op_as (ltb rfl) rfl) ?_
  refine TriL.c1 rfl (op_as (ltb rfl) rfl) ?_
  refine TriL.nil ?_
  refine Tri.seq ?_
  refine Tri.drawn mixed rfl ?_
  refine TriD.c1 rfl (op_mv (ltb rfl) rfl) ?_
  refine TriD.c1 rfl (op_fal (ltb rfl) fo267_1_E14 rfl) ?_
  refine TriD.c1 rfl (op_ldl (ltb rfl) lk3_E14 rfl rfl rfl) ?_
  refine TriD.c1 rfl (op_mv (ltb rfl) rfl) ?_
  refine TriD.c2 rfl (op_callo (ltb rfl) fn178_E14 rfl (vput_pureO' (n := (8 * n + 2).toNat) (by simp only [tagnum, hr, if_pos]; omega) (by omega)) rfl) ?_
  refine TriD.c1 rfl (op_mv (ltb rfl) rfl) ?_
  refine TriD.c1 rfl (op_nckc (ltb rfl) rfl) ?_
  refine TriD.c1 rfl (op_fac (ltb rfl) fo149_0_E14 rfl) ?_
  refine TriD.c1 rfl (op_ldc (ltb rfl) lk51_E14 rfl rfl Hp.set_obj rfl) ?_
  refine TriD.c1 rfl (op_lensl (ltb rfl) un51_E14 rfl) ?_
  refine TriD.c1 rfl (op_fal (ltb rfl) fo267_1_E14 rfl) ?_
  refine TriD.c1 rfl (op_ldl (ltb rfl) lk3_E14 rfl rfl rfl) ?_
  refine TriD.c1 rfl (op_bin (ltb rfl) rfl rfl rfl) ?_
  refine TriD.c1 rfl (op_cvi (ltb rfl) un3_E14 un84_E14 rfl) ?_
  refine TriD.c2 rfl (op_callo (ltb rfl) fn178_E14 rfl (vput_pureO' (n := b.length - k) hw2 (by omega)) rfl) ?_
  refine TriD.c3 rfl (op_app (ltb rfl) se51_E14 rfl rfl rfl (okEls_bsl _) rfl (by rw [bsl_len, bsl_len]; omega) (by rw [bsl_len, bsl_len]; omega)) ?_
  rw [← bsl_app]
  refine TriD.c2 rfl (op_callh (ltb rfl) fn225_E14 rfl rfl (lay_run (H.set id (wr (bsl b) fs)) id k b (vput (8 * n + 2).toNat ++ vput (b.length - k)) fs Hp.set_obj hk (by rw [List.length_append]; omega))) ?_
  refine TriD.nil (by kernel_rfl) (Kept.now ?_)
  refine Tri.seq ?_
  refine Tri.region ?_
  refine TriL.c1 rfl (op_as (ltb rfl) rfl) ?_
  refine TriL.nil ?_
  refine Tri.ret ?_
  refine ⟨.inr rfl, ResOK.r1 rfl (.tmp rfl .nil), ?_⟩
  have e : (H.set id (wr (bsl b) fs)).set id (wr (bsl (shut b n k)) fs) = H.set id (wr (bsl (shut b n k)) fs) := Hp.set_set
  exact congrArg (fun h => some (CV.hp h)) e
end Go.Proofs.YtnpgcmeclkncnaaGreatDoor.X
/- The reference's bytes: Put, Of, Tag, Bytes. -/
set_option linter.unusedVariables false
set_option maxRecDepth 100000
set_option linter.unusedSimpArgs false
namespace Go.Proofs.YtnpgcmeclkncnaaGreatDoor.X
open Go Go.RowKit Go.Proofs
theorem fput_len (n i : Nat) : (fput n i).length = i := by simp [fput]
end Go.Proofs.YtnpgcmeclkncnaaGreatDoor.X
/- Plain laws: a value's bytes; how long the bytes of what is small are. No condition. -/
set_option linter.unusedVariables false
set_option linter.unusedSimpArgs false
namespace Go.Proofs.YtnpgcmeclkncnaaGreatDoor.X
open Go Go.RowKit Go.Proofs
def pay (w : Int) (u : Nat) : Str := if w = 1 then fput u 8 else if w = 5 then fput u 4 else vput u
def tagB (n w : Int) : Str := vput (8 * n + w).toNat
def txt (n : Int) (s : Str) : Str := tagB n 2 ++ (vput s.length ++ s)
def pack1 (t : Int) (n : Nat) : Str := if numT t then pay (wireT t) (toT t n) else []
def packB (t : Int) (l : List Nat) : Str := l.flatMap (pack1 t)
def Rw.enc (r : Rw) : Str := if r.wire = 2 then txt r.num r.s else tagB r.num r.wire ++ pay r.wire r.n
mutual
def Tree.enc (s : Sch) (name : Str) : Tree → Str
  | .mk ss r => (match s.msgAt name with | none => [] | some m => encS s m ss) ++ r.flatMap Rw.enc
def Slot.enc (s : Sch) (m : Msg) : Slot → Str
  | .mk num vs => match m.fix num with
    | none => []
    | some f => if f.packed then txt f.num (packB f.ty (vs.map Val.n)) else encV s f vs
def Val.enc (s : Sch) (f : Fld) : Val → Str
  | .mk n str m => if numT f.ty then tagB f.num (wireT f.ty) ++ pay (wireT f.ty) (toT f.ty n) else if f.ty = 15 then txt f.num (encM s f.ref m) else txt f.num str
def encS (s : Sch) (m : Msg) : List Slot → Str
  | [] => []
  | x :: l => x.enc s m ++ encS s m l
def encV (s : Sch) (f : Fld) : List Val → Str
  | [] => []
  | v :: l => v.enc s f ++ encV s f l
def encM (s : Sch) (name : Str) : List Tree → Str
  | [] => []
  | t :: _ => t.enc s name
end
theorem Tree.enc_eq (s : Sch) (name : Str) (t : Tree) : t.enc s name = (match s.msgAt name with | none => [] | some m => encS s m t.slots) ++ t.rest.flatMap Rw.enc := by cases t; simp only [Tree.enc, Tree.slots, Tree.rest]
theorem Slot.enc_eq (s : Sch) (m : Msg) (x : Slot) : x.enc s m = match m.fix x.num with
    | none => []
    | some f => if f.packed then txt f.num (packB f.ty (x.vals.map Val.n)) else encV s f x.vals := by cases x; simp only [Slot.enc, Slot.num, Slot.vals]
theorem Val.enc_eq (s : Sch) (f : Fld) (v : Val) : v.enc s f = if numT f.ty then tagB f.num (wireT f.ty) ++ pay (wireT f.ty) (toT f.ty v.n) else if f.ty = 15 then txt f.num (encM s f.ref v.m) else txt f.num v.s := by
  cases v; simp only [Val.enc, Val.n, Val.s, Val.m]
theorem encM_one (s : Sch) (name : Str) {l : List Tree} (h : 0 < l.length) : encM s name l = (l[0]).enc s name := by
  cases l with
  | nil => simp at h
  | cons t l => simp [encM]
theorem encS_step {s : Sch} {m : Msg} {l : List Slot} {i : Nat} (h : i < l.length) : encS s m (l.drop i) = l[i].enc s m ++ encS s m (l.drop (i + 1)) := by rw [List.drop_eq_getElem_cons h]; simp [encS]
theorem encV_step {s : Sch} {f : Fld} {l : List Val} {i : Nat} (h : i < l.length) : encV s f (l.drop i) = l[i].enc s f ++ encV s f (l.drop (i + 1)) := by rw [List.drop_eq_getElem_cons h]; simp [encV]
theorem encS_end {s : Sch} {m : Msg} {l : List Slot} {i : Nat} (h : l.length ≤ i) : encS s m (l.drop i) = [] := by rw [List.drop_of_length_le h]; simp [encS]
theorem encV_end {s : Sch} {f : Fld} {l : List Val} {i : Nat} (h : l.length ≤ i) : encV s f (l.drop i) = [] := by rw [List.drop_of_length_le h]; simp [encV]
theorem flat_step {α : Type} {f : α → Str} {l : List α} {i : Nat} (h : i < l.length) : (l.drop i).flatMap f = f l[i] ++ (l.drop (i + 1)).flatMap f := by rw [List.drop_eq_getElem_cons h, List.flatMap_cons]
theorem flat_end {α : Type} {f : α → Str} {l : List α} {i : Nat} (h : l.length ≤ i) : (l.drop i).flatMap f = [] := by rw [List.drop_of_length_le h]; simp
/-- a schema of right fields -/
structure Sch.good (s : Sch) : Prop extends s.fine where
  n : ∀ m ∈ s.msgs, ∀ f ∈ m.fields, fnum f.num = true
structure Tree.fit1 (t : Tree) : Prop where
  s : t.slots.length ≤ 140737488355328
  r : t.rest.length ≤ 140737488355328
  v : ∀ x ∈ t.slots, x.vals.length ≤ 140737488355328
  m : ∀ x ∈ t.slots, ∀ v ∈ x.vals, v.m.length ≤ 140737488355328
  vs : ∀ x ∈ t.slots, ∀ v ∈ x.vals, v.s.length ≤ 140737488355328
  vn : ∀ x ∈ t.slots, ∀ v ∈ x.vals, v.n < 18446744073709551616
  rs : ∀ r ∈ t.rest, r.s.length ≤ 140737488355328
  rn : ∀ r ∈ t.rest, r.n < 18446744073709551616
def Tree.fits (t : Tree) : Prop := t.Every Tree.fit1
theorem Tree.fits.big {t : Tree} (h : t.fits) : t.big := fun u hu => by
  have h1 := h u hu
  exact ⟨Nat.le_trans h1.s (by omega), Nat.le_trans h1.r (by omega), fun x hx => Nat.le_trans (h1.v x hx) (by omega), fun x hx v hv => Nat.le_trans (h1.m x hx v hv) (by omega), fun x hx v hv => Nat.le_trans (h1.vs x hx v hv) (by omega), h1.vn, fun r hr => Nat.le_trans (h1.rs r hr) (by omega), h1.rn⟩
/-! ### how long -/
theorem pay_len {w : Int} {u : Nat} (h : u < 18446744073709551616) : (pay w u).length ≤ 10 := by
  unfold pay
  split
  · simp [fput_len]
  · split
    · simp [fput_len]
    · exact vput_max h
theorem tag_len {n w : Int} (h : n ≤ 536870911) (hw : w ≤ 5) : (tagB n w).length ≤ 10 := vput_max (by omega)
theorem txt_len {n : Int} {s : Str} (h : n ≤ 536870911) (hs : s.length < 18446744073709551616) : (txt n s).length ≤ 20 + s.length := by
  have h1 := tag_len (n := n) (w := 2) h (by omega)
  have h2 := vput_max hs
  simp only [txt, List.length_append]; omega
theorem txt_ge (n : Int) (s : Str) : s.length ≤ (txt n s).length := by simp only [txt, List.length_append]; omega
theorem fnum_le {n : Int} (h : fnum n = true) : 1 ≤ n ∧ n ≤ 536870911 := by simp [fnum] at h; omega
theorem fnum_right {n : Int} (h : fnum n = true) : rightok n 2 = true := by have := fnum_le h; simp [rightok]; omega
theorem wireT_le (t : Int) : 0 ≤ wireT t ∧ wireT t ≤ 5 := by unfold wireT; grind
theorem numT_wire {t : Int} (h : numT t = true) : wireT t = 0 ∨ wireT t = 1 ∨ wireT t = 5 := by
  unfold numT wholeT at h; unfold wireT; simp at h; grind
theorem to5 {t : Int} {n : Nat} (h : wireT t = 5) : toT t n < 4294967296 := by
  have : t = 8 ∨ t = 10 := by unfold wireT at h; grind
  unfold toT; rw [if_pos (by omega)]; omega
theorem wire_right {n t : Int} (h : fnum n = true) : rightok n (wireT t) = true := by
  have := fnum_le h
  have h2 : wireT t = 0 ∨ wireT t = 1 ∨ wireT t = 2 ∨ wireT t = 5 := by unfold wireT; grind
  simp [rightok]; omega
theorem tagOK_right {n w : Int} : tagOK n w = rightok n w := by rw [Bool.eq_iff_iff]; simp [tagOK, rightok]; omega
theorem pack1_len {t : Int} {n : Nat} (h : n < 18446744073709551616) : (pack1 t n).length ≤ 10 := by
  unfold pack1; split
  · exact pay_len (toT_lt h)
  · simp
theorem packB_len (t : Int) : ∀ (l : List Nat), (∀ n ∈ l, n < 18446744073709551616) → (packB t l).length ≤ 10 * l.length
  | [], _ => by simp [packB]
  | n :: l, h => by
    have h1 := pack1_len (t := t) (h n (by simp))
    have h2 := packB_len t l (fun k hk => h k (by simp [hk]))
    simp only [packB, List.flatMap_cons, List.length_append, List.length_cons] at *
    omega
theorem Rw.enc_len {r : Rw} (h : r.right = true) (hn : r.n < 18446744073709551616) (hs : r.s.length ≤ 140737488355328) : (r.enc.length : Int) ≤ 60 + 20 * (r.s.length : Int).tdiv 20 := by
  have ht : tagOK r.num r.wire = true := by unfold Rw.right at h; simp at h; exact h.1
  have hw : r.num ≤ 536870911 ∧ (r.wire ≤ 5) := by simp [tagOK] at ht; omega
  have e : (r.s.length : Int).tdiv 20 = (r.s.length : Int) / 20 := Int.tdiv_eq_ediv_of_nonneg (by omega)
  rw [e]
  unfold Rw.enc
  split
  · have := txt_len (s := r.s) hw.1 (by omega); omega
  · have := tag_len hw.1 hw.2
    have := pay_len (w := r.wire) hn
    rw [List.length_append]; omega
/-- how much is left of so much: it never grows -/
theorem leftR_len : ∀ (l : List Rw) (n : Int), (∀ r ∈ l, r.right = true ∧ r.n < 18446744073709551616 ∧ r.s.length ≤ 140737488355328) → n ≤ 400 → 0 ≤ leftR l n → 0 ≤ n ∧ leftR l n ≤ n ∧ ((l.flatMap Rw.enc).length : Int) ≤ 60 * l.length + 60 * (n - leftR l n)
  | [], n, _, _, h => by simp [leftR] at *; omega
  | r :: l, n, hr, hn, h => by
    simp only [leftR] at h ⊢
    split at h
    · rename_i h0
      obtain ⟨h1, h2, h3⟩ := hr r (by simp)
      have e : (r.s.length : Int).tdiv 20 = (r.s.length : Int) / 20 := Int.tdiv_eq_ediv_of_nonneg (by omega)
      have hx := Rw.enc_len h1 h2 h3
      rw [e] at h hx ⊢
      rw [show w64 ((r.s.length : Int) / 20) = (r.s.length : Int) / 20 from wr64 (by omega) (by omega), show w64 (n - (r.s.length : Int) / 20) = n - (r.s.length : Int) / 20 from wr64 (by omega) (by omega)] at h ⊢
      have ih := leftR_len l _ (fun q hq => hr q (by simp [hq])) (by omega) h
      rw [if_pos h0]
      simp only [List.flatMap_cons, List.length_append, List.length_cons]
      omega
    · omega
theorem slotsOk_all {s : Sch} {m : Msg} : ∀ {l : List Slot} {a : Option Int} {b : List Str}, slotsOk s m l a b = true → ∀ x ∈ l, x.ok s m = true
  | [], _, _, _, x, hx => by cases hx
  | y :: l, a, b, h, x, hx => by
    simp only [slotsOk, Bool.and_eq_true] at h
    rcases List.mem_cons.1 hx with rfl | hx
    · exact h.1.1.2
    · exact slotsOk_all h.2 x hx
theorem Tree.ok_slots {s : Sch} {name : Str} {t : Tree} (h : t.ok s name = true) : ∃ m, s.msgAt name = some m ∧ m ∈ s.msgs ∧ decide (s.msgIx name < 0) = false ∧ (∀ x ∈ t.slots, x.ok s m = true) ∧ t.rest.all (restOK m) = true := by
  rw [Tree.ok_eq] at h
  by_cases hd : decide (s.msgIx name < 0) = true
  · rw [Sch.ix_no hd] at h; cases h
  · have hd : decide (s.msgIx name < 0) = false := by simpa using hd
    have ha := Sch.ix_at hd
    rw [ha] at h
    simp only [Bool.and_eq_true] at h
    exact ⟨_, ha, List.getElem_mem _, hd, slotsOk_all h.1, h.2⟩
theorem Slot.ok_field {s : Sch} {m : Msg} {x : Slot} (h : x.ok s m = true) : ∃ f, m.fix x.num = some f ∧ f ∈ m.fields ∧ f.num = x.num ∧ (∀ v ∈ x.vals, v.ok s f = true) ∧ 0 < x.vals.length ∧ (f.rep = true ∨ x.vals.length = 1) := by
  have ha := Slot.ok_at h
  have hf := Msg.at_fix ha
  rw [Slot.ok_eq, hf] at h
  simp only [Bool.and_eq_true, valsOk_all, List.all_eq_true, decide_eq_true_eq, Bool.or_eq_true] at h
  have hn := List.find?_some hf
  exact ⟨_, hf, List.getElem_mem _, by simpa using hn, h.1.2, h.1.1.1, h.1.1.2⟩
theorem Val.ok_msg {s : Sch} {f : Fld} {v : Val} (h : v.ok s f = true) (h1 : ¬ numT f.ty = true) (h2 : f.ty = 15) : ∃ u, v.m = [u] ∧ u.ok s f.ref = true := by
  rw [Val.ok_eq, if_neg h1, if_neg (by omega), if_neg (by omega), if_pos h2] at h
  simp only [Bool.and_eq_true] at h
  have h := h.2
  match hm : v.m, h with
  | [u], h => exact ⟨u, rfl, by simpa [treeOk1] using h⟩
  | [], h => simp [treeOk1] at h
  | _ :: _ :: _, h => simp [treeOk1] at h
end Go.Proofs.YtnpgcmeclkncnaaGreatDoor.X
/- bytes of fields and of numbers, in the program. -/
set_option linter.unusedVariables false
set_option linter.unusedSimpArgs false
set_option linter.unusedSectionVars false
set_option maxRecDepth 100000
namespace Go.Proofs.YtnpgcmeclkncnaaGreatDoor.X
open Go Go.RowKit Go.Proofs
theorem fn127_MC : isFn Tryz.prog 127 = true := by kernel_rfl
theorem fn130_MC : isFn Tryz.prog 130 = true := by kernel_rfl
theorem fn134_MC : isFn Tryz.prog 134 = true := by kernel_rfl
theorem fn180_MC : isFn Tryz.prog 180 = true := by kernel_rfl
theorem fn181_MC : isFn Tryz.prog 181 = true := by kernel_rfl
theorem fn182_MC : isFn Tryz.prog 182 = true := by kernel_rfl
theorem fn48_MC : isFn Tryz.prog 48 = true := by kernel_rfl
theorem fn51_MC : isFn Tryz.prog 51 = true := by kernel_rfl
theorem fo131_0_MC : fo Tryz.prog 131 0 = some 0 := by kernel_rfl
theorem fo131_1_MC : fo Tryz.prog 131 1 = some 1 := by kernel_rfl
theorem fo131_2_MC : fo Tryz.prog 131 2 = some 2 := by kernel_rfl
theorem fo131_3_MC : fo Tryz.prog 131 3 = some 3 := by kernel_rfl
theorem ie30_MC : ie Tryz.prog 30 = some 4 := by kernel_rfl
theorem lk131_MC : lk Tryz.prog 131 = some (true, 4) := by kernel_rfl
theorem lk3_MC : lk Tryz.prog 3 = some (false, 1) := by kernel_rfl
theorem lk84_MC : lk Tryz.prog 84 = some (false, 1) := by kernel_rfl
theorem lk9_MC : lk Tryz.prog 9 = some (false, 1) := by kernel_rfl
theorem un235_MC : Tryz.prog.underlying 235 = some (TypeDesc.int IntKind.u32) := Tryz.underlying235
theorem un30_MC : Tryz.prog.underlying 30 = some (TypeDesc.slice 131) := Tryz.underlying30
theorem un84_MC : Tryz.prog.underlying 84 = some (TypeDesc.int IntKind.u64) := Tryz.underlying84
theorem zA131_MC : zeroA Tryz.prog 131 = some [AV.int IntKind.i64 (0), AV.int IntKind.i64 (0), AV.int IntKind.u64 (0), AV.str []] := by kernel_rfl
theorem w_varint (H : Hp) (id : Nat) (b : List UInt8) (fs : List AV) (n : Int) (x : Nat) (ho : H.obj id = some (wr (bsl b) fs)) (hr : rightok n 0 = true) (hx : x < 18446744073709551616) (hl : b.length + (tagB n 0 ++ vput x).length ≤ 1000000000) : Run Tryz.prog 180 [.op id 0, .int .i64 n, .int .u64 (x : Int)] H (.bool true) (H.set id (wr (bsl (b ++ (tagB n 0 ++ vput x))) fs)) := by
  skip
  have h := field_run H id b fs n 0 [vput x] ho hr (by simp only [txt, List.length_append, List.flatten_cons, List.flatten_nil, List.append_nil] at *; omega) (by simp)
  have e : b ++ vput (8 * n + 0).toNat ++ [vput x].flatten = b ++ (tagB n 0 ++ vput x) := by simp [tagB, txt]
  rw [e] at h
  exact varint_wrap H _ _ n x hx true h
theorem w_fixed4 (H : Hp) (id : Nat) (b : List UInt8) (fs : List AV) (n : Int) (x : Nat) {y : Int} (ho : H.obj id = some (wr (bsl b) fs)) (hr : rightok n 5 = true) (hx : x < 4294967296) (hy : y = (x : Int)) (hl : b.length + (tagB n 5 ++ fput x 4).length ≤ 1000000000) : Run Tryz.prog 182 [.op id 0, .int .i64 n, .int .u32 y] H (.bool true) (H.set id (wr (bsl (b ++ (tagB n 5 ++ fput x 4))) fs)) := by
  subst hy
  have h := field_run H id b fs n 5 [fput x 4] ho hr (by simp only [txt, List.length_append, List.flatten_cons, List.flatten_nil, List.append_nil] at *; omega) (by simp)
  have e : b ++ vput (8 * n + 5).toNat ++ [fput x 4].flatten = b ++ (tagB n 5 ++ fput x 4) := by simp [tagB, txt]
  rw [e] at h
  exact fixed4_wrap H _ _ n x hx true h
theorem w_fixed8 (H : Hp) (id : Nat) (b : List UInt8) (fs : List AV) (n : Int) (x : Nat) (ho : H.obj id = some (wr (bsl b) fs)) (hr : rightok n 1 = true)  (hl : b.length + (tagB n 1 ++ fput x 8).length ≤ 1000000000) : Run Tryz.prog 181 [.op id 0, .int .i64 n, .int .u64 (x : Int)] H (.bool true) (H.set id (wr (bsl (b ++ (tagB n 1 ++ fput x 8))) fs)) := by
  skip
  have h := field_run H id b fs n 1 [fput x 8] ho hr (by simp only [txt, List.length_append, List.flatten_cons, List.flatten_nil, List.append_nil] at *; omega) (by simp)
  have e : b ++ vput (8 * n + 1).toNat ++ [fput x 8].flatten = b ++ (tagB n 1 ++ fput x 8) := by simp [tagB, txt]
  rw [e] at h
  exact fixed8_wrap H _ _ n x true h
theorem w_text (H : Hp) (id : Nat) (b : List UInt8) (fs : List AV) (n : Int) (x : List UInt8) (ho : H.obj id = some (wr (bsl b) fs)) (hr : rightok n 2 = true)  (hl : b.length + (txt n x).length ≤ 1000000000) : Run Tryz.prog 130 [.op id 0, .int .i64 n, .str x] H (.bool true) (H.set id (wr (bsl (b ++ (txt n x))) fs)) := by
  have hx : x.length ≤ 1000000000 := by have := txt_ge n x; omega
  have h := field_run H id b fs n 2 [vput x.length, x] ho hr (by simp only [txt, List.length_append, List.flatten_cons, List.flatten_nil, List.append_nil] at *; omega) (by simp)
  have e : b ++ vput (8 * n + 2).toNat ++ [vput x.length, x].flatten = b ++ (txt n x) := by simp [tagB, txt]
  rw [e] at h
  exact text_wrap H _ _ n x (by omega) true h
theorem Rw.right_tag {r : Rw} (h : r.right = true) : rightok r.num r.wire = true := by
  have ht : tagOK r.num r.wire = true := by unfold Rw.right at h; simp at h; exact h.1
  rw [← tagOK_right]; exact ht
theorem Rw.enc0 {r : Rw} (h : r.wire = 0) : r.enc = tagB r.num 0 ++ vput r.n := by simp [Rw.enc, h, pay]
theorem Rw.enc1 {r : Rw} (h : r.wire = 1) : r.enc = tagB r.num 1 ++ fput r.n 8 := by simp [Rw.enc, h, pay]
theorem Rw.enc5 {r : Rw} (h : r.wire = 5) : r.enc = tagB r.num 5 ++ fput r.n 4 := by simp [Rw.enc, h, pay]
theorem Rw.enc2 {r : Rw} (h : r.wire = 2) : r.enc = txt r.num r.s := by simp [Rw.enc, h]
theorem Rw.right5 {r : Rw} (h : r.right = true) (h5 : r.wire = 5) : r.n < 4294967296 := by
  unfold Rw.right at h; simp [h5] at h; exact h.2.2
theorem Rw.right2 {r : Rw} (h : r.right = true) (h0 : ¬ r.wire = 0) (h1 : ¬ r.wire = 1) (h5 : ¬ r.wire = 5) : r.wire = 2 := by
  have ht := Rw.right_tag h; simp [rightok] at ht; omega
theorem wru32 {n : Nat} (h : n < 4294967296) : IntKind.u32.wrap (n : Int) = (n : Int) := by simp only [IntKind.wrap, IntKind.bits, IntKind.signed]; simp; omega
theorem biT {a b : Int} (h : (a == b) = true) : a = b := by simpa using h
theorem biF {a b : Int} (h : (a == b) = false) : ¬ a = b := by simpa using h
theorem p_rput (H : Hp) (id : Nat) (b : List UInt8) (fs : List AV) (r : Rw) (ho : H.obj id = some (wr (bsl b) fs)) (hr : r.right = true) (hn : r.n < 18446744073709551616) (hl : b.length + r.enc.length ≤ 1000000000) : Run Tryz.prog 134 [.op id 0, r.av] H (.tup []) (H.set id (wr (bsl (b ++ r.enc)) fs)) := by
  refine Run.of_tri Tryz.func134 rfl rfl (ltb rfl) ?_
  refine Tri.seq ?_
  refine Tri.region ?_
  refine TriL.c2 rfl (op_box (ltb rfl) rfl rfl rfl) ?_
  refine TriL.nil ?_
  refine Tri.seq ?_
  refine Tri.region ?_
  refine TriL.c1 rfl (op_fal (ltb rfl) fo131_1_MC rfl) ?_
  refine TriL.c1 rfl (op_ldl (ltb rfl) lk3_MC rfl rfl rfl) ?_
  refine TriL.nil ?_
  refine Tri.blk ?_
  refine Tri.seq ?_
  refine Tri.region ?_
  refine TriL.c1 rfl (op_bin (ltb rfl) rfl rfl rfl) ?_
  refine TriL.c1 rfl (op_as (ltb rfl) rfl) ?_
  refine TriL.nil ?_
  refine Tri.cond rfl (fun hc1 => ?_) (fun hc1 => ?_)
  · -- region 4 raw.go:34
    refine Tri.region ?_
    refine TriL.c1 rfl (op_mv (ltb rfl) rfl) ?_
    refine TriL.c1 rfl (op_fal (ltb rfl) fo131_0_MC rfl) ?_
    refine TriL.c1 rfl (op_ldl (ltb rfl) lk3_MC rfl rfl rfl) ?_
    refine TriL.c1 rfl (op_fal (ltb rfl) fo131_2_MC rfl) ?_
    refine TriL.c1 rfl (op_ldl (ltb rfl) lk84_MC rfl rfl rfl) ?_
    refine TriL.c2 rfl (op_callh (ltb rfl) fn180_MC rfl rfl (w_varint H id b fs _ r.n ho (by have := r.right_tag hr; rwa [biT hc1] at this) hn (by rw [← Rw.enc0 (biT hc1)]; exact hl))) ?_
    refine TriL.nil ?_
    exact ⟨.inl rfl, (ResOK.r0 rfl ).cast rfl, (congrArg (fun h => some (CV.hp h)) (by rw [Rw.enc0 (biT hc1)]))⟩
  · refine Tri.seq ?_
    refine Tri.region ?_
    refine TriL.c1 rfl (op_bin (ltb rfl) rfl rfl rfl) ?_
    refine TriL.c1 rfl (op_as (ltb rfl) rfl) ?_
    refine TriL.nil ?_
    refine Tri.cond rfl (fun hc2 => ?_) (fun hc2 => ?_)
    · -- region 6 raw.go:36
      refine Tri.region ?_
      refine TriL.c1 rfl (op_mv (ltb rfl) rfl) ?_
      refine TriL.c1 rfl (op_fal (ltb rfl) fo131_0_MC rfl) ?_
      refine TriL.c1 rfl (op_ldl (ltb rfl) lk3_MC rfl rfl rfl) ?_
      refine TriL.c1 rfl (op_fal (ltb rfl) fo131_2_MC rfl) ?_
      refine TriL.c1 rfl (op_ldl (ltb rfl) lk84_MC rfl rfl rfl) ?_
      refine TriL.c2 rfl (op_callh (ltb rfl) fn181_MC rfl rfl (w_fixed8 H id b fs _ r.n ho (by have := r.right_tag hr; rwa [biT hc2] at this) (by rw [← Rw.enc1 (biT hc2)]; exact hl))) ?_
      refine TriL.nil ?_
      exact ⟨.inl rfl, (ResOK.r0 rfl ).cast rfl, (congrArg (fun h => some (CV.hp h)) (by rw [Rw.enc1 (biT hc2)]))⟩
    · refine Tri.seq ?_
      refine Tri.region ?_
      refine TriL.c1 rfl (op_bin (ltb rfl) rfl rfl rfl) ?_
      refine TriL.c1 rfl (op_as (ltb rfl) rfl) ?_
      refine TriL.nil ?_
      refine Tri.cond rfl (fun hc3 => ?_) (fun hc3 => ?_)
      · -- region 8 raw.go:38
        refine Tri.region ?_
        refine TriL.c1 rfl (op_mv (ltb rfl) rfl) ?_
        refine TriL.c1 rfl (op_fal (ltb rfl) fo131_0_MC rfl) ?_
        refine TriL.c1 rfl (op_ldl (ltb rfl) lk3_MC rfl rfl rfl) ?_
        refine TriL.c1 rfl (op_fal (ltb rfl) fo131_2_MC rfl) ?_
        refine TriL.c1 rfl (op_ldl (ltb rfl) lk84_MC rfl rfl rfl) ?_
        refine TriL.c1 rfl (op_cvi (ltb rfl) un84_MC un235_MC rfl) ?_
        refine TriL.c2 rfl (op_callh (ltb rfl) fn182_MC rfl rfl (w_fixed4 H id b fs _ r.n ho (by have := r.right_tag hr; rwa [biT hc3] at this) (Rw.right5 hr (biT hc3)) (wru32 (Rw.right5 hr (biT hc3))) (by rw [← Rw.enc5 (biT hc3)]; exact hl))) ?_
        refine TriL.nil ?_
        exact ⟨.inl rfl, (ResOK.r0 rfl ).cast rfl, (congrArg (fun h => some (CV.hp h)) (by rw [Rw.enc5 (biT hc3)]))⟩
      · -- region 2 raw.go:40
        refine Tri.region ?_
        refine TriL.c1 rfl (op_mv (ltb rfl) rfl) ?_
        refine TriL.c1 rfl (op_fal (ltb rfl) fo131_0_MC rfl) ?_
        refine TriL.c1 rfl (op_ldl (ltb rfl) lk3_MC rfl rfl rfl) ?_
        refine TriL.c1 rfl (op_fal (ltb rfl) fo131_3_MC rfl) ?_
        refine TriL.c1 rfl (op_ldl (ltb rfl) lk9_MC rfl rfl rfl) ?_
        refine TriL.c2 rfl (op_callh (ltb rfl) fn130_MC rfl rfl (w_text H id b fs _ r.s ho (by have := r.right_tag hr; rwa [Rw.right2 hr (biF hc1) (biF hc2) (biF hc3)] at this) (by rw [← Rw.enc2 (Rw.right2 hr (biF hc1) (biF hc2) (biF hc3))]; exact hl))) ?_
        refine TriL.nil ?_
        exact ⟨.inl rfl, (ResOK.r0 rfl ).cast rfl, (congrArg (fun h => some (CV.hp h)) (by rw [Rw.enc2 (Rw.right2 hr (biF hc1) (biF hc2) (biF hc3))]))⟩
/-- a new writer, that has written so much -/
def Hp.pen (H : Hp) (b : List UInt8) : Hp := ⟨H.next + 1, fun i => if i = H.next then some (wr (bsl b) []) else H.obj i⟩
theorem Hp.pen_obj (H : Hp) (b : List UInt8) : (H.pen b).obj H.next = some (wr (bsl b) []) := by simp [Hp.pen]
theorem Hp.pen_set (H : Hp) (b c : List UInt8) : (H.pen b).set H.next (wr (bsl c) []) = H.pen c := by
  simp only [Hp.set, Hp.pen]
  congr 1
  funext i
  split <;> rfl
theorem Hp.pen_low (H : Hp) (b : List UInt8) : H.next ≤ (H.pen b).next ∧ ∀ i, i < H.next → (H.pen b).obj i = H.obj i := ⟨Nat.le_succ _, fun i hi => by simp only [Hp.pen]; rw [if_neg (by omega)]⟩
theorem pen_new (H : Hp) : Run Tryz.prog 48 [] H (.op H.next 0) (H.pen []) := new_run H
theorem p_rawPut (l : List Rw) (hll : l.length ≤ 9223372036854775807) (hr : ∀ r ∈ l, r.right = true) (hn : ∀ r ∈ l, r.n < 18446744073709551616) (hl : (l.flatMap Rw.enc).length ≤ 1000000000) : Pure Tryz.prog 85 [.sl (l.map Rw.av)] (.tup [.sl (bsl (l.flatMap Rw.enc)), .int .i64 0]) := by
  intro H; refine Run.of_triF Tryz.func85 rfl rfl (ltb rfl) (.tup _ (by simp; exact ⟨.sl _ (fun x hx => by simp [bsl] at hx; obtain ⟨c, _, rfl⟩ := hx; exact .int _ _), .int _ _⟩)) ?_
  refine Tri.seq ?_
  refine Tri.region ?_
  refine TriL.c1 rfl (op_as (ltb rfl) rfl) ?_
  refine TriL.c1 rfl (op_as (ltb rfl) rfl) ?_
  refine TriL.nil ?_
  refine Tri.seq ?_
  refine Tri.region ?_
  refine TriL.c2 rfl (op_callh (ltb rfl) fn48_MC rfl rfl (pen_new H)) ?_
  refine TriL.c1 rfl (op_as (ltb rfl) rfl) ?_
  refine TriL.nil ?_
  refine Tri.seq ?_
  refine Tri.seq ?_
  refine Tri.region ?_
  refine TriL.c1 rfl (op_mv (ltb rfl) rfl) ?_
  refine TriL.c1 rfl (op_lenl (ltb rfl) un30_MC rfl) ?_
  refine TriL.c1 rfl (op_mv (ltb rfl) rfl) ?_
  refine TriL.nil ?_
  refine Tri.blk ?_
  refine Tri.ofKept (Kept.keep [.s 10, .h, .s 4, .s 8, .s 9] rfl (by decide) (Kept.now ?_))
  -- LOOP 1
  refine Tri.loopk (fun ((i, a) : Nat × List UInt8) => [(.s 10, .sv (.v (.int .i64 (i : Int)))), (.h, .hp (H.pen a))]) _ (fun ((i, a) : Nat × List UInt8) => a ++ (l.drop i).flatMap Rw.enc = l.flatMap Rw.enc) (fun ((i, a) : Nat × List UInt8) => l.length - i) (0, []) rfl (by simp) ?_
  rintro ⟨i, a⟩ hI
  refine Tri.seq ?_
  refine Tri.region ?_
  refine TriL.c1 rfl (op_bin (ltb rfl) rfl rfl rfl) ?_
  refine TriL.nil ?_
  refine Tri.seq ?_
  refine Tri.cond rfl (fun hc1 => ?_) (fun hc1 => ?_)
  · have hi := ltm hc1
    have hS := flat_step (f := Rw.enc) hi
    refine Tri.skip ?_
    refine Tri.seq ?_
    refine Tri.blk ?_
    refine Tri.seq ?_
    refine Tri.region ?_
    refine TriL.c1 rfl (op_iak (ltb rfl) ie30_MC rfl rfl (Int.natCast_nonneg _) (ixm hi) rfl) ?_
    refine TriL.c1 rfl (op_ldk (ltb rfl) lk131_MC rfl rfl) ?_
    refine TriL.c2 rfl (op_all (ltb rfl) zA131_MC rfl) ?_
    refine TriL.c1 rfl (op_stl lk131_MC rfl rfl rfl rfl rfl (leb rfl)) ?_
    refine TriL.nil ?_
    refine Tri.seq ?_
    refine Tri.seq ?_
    refine Tri.region ?_
    refine TriL.c1 rfl (op_ldl (ltb rfl) lk131_MC rfl rfl rfl) ?_
    refine TriL.c1 rfl (op_call (ltb rfl) fn127_MC rfl (p_rright _)) ?_
    refine TriL.c1 rfl (op_un (ltb rfl) rfl rfl) ?_
    refine TriL.nil ?_
    refine Tri.cond rfl (fun hc2 => ?_) (fun hc2 => ?_)
    · refine Tri.seq ?_
      refine Tri.region ?_
      refine TriL.c1 rfl (op_as (ltb rfl) rfl) ?_
      refine TriL.c1 rfl (op_as (ltb rfl) rfl) ?_
      refine TriL.nil ?_
      refine Tri.ret ?_
      exact ⟨.inr rfl, (ResOK.r2 rfl (.tmp rfl (.tmp rfl .nil))).cast (by exact absurd (hr _ (List.getElem_mem hi)) (by have := ntr hc2; simp [this])), ⟨_, rfl, Hp.pen_low _ _⟩⟩
    · refine Tri.skip ?_
      refine Tri.region ?_
      refine TriL.c1 rfl (op_mv (ltb rfl) rfl) ?_
      refine TriL.c1 rfl (op_ldl (ltb rfl) lk131_MC rfl rfl rfl) ?_
      refine TriL.c2 rfl (op_callh (ltb rfl) fn134_MC rfl rfl (p_rput (H.pen a) H.next a [] (l[i]'hi) (Hp.pen_obj _ _) (hr _ (List.getElem_mem hi)) (hn _ (List.getElem_mem hi)) (by have := congrArg List.length hI; simp only [hS, List.length_append] at this; omega))) ?_
      refine TriL.nil ?_
      refine Tri.region ?_
      refine TriL.c1 rfl (op_bin (ltb rfl) rfl rfl rfl) ?_
      refine TriL.c1 rfl (op_mv (ltb rfl) rfl) ?_
      refine TriL.kept (Kept.seth rfl (Hp.pen_set _ _ _) (Kept.seti 10 rfl (inc (by omega)) (Kept.keep [.s 10, .h, .s 4, .s 8, .s 9] rfl (by decide) (Kept.now ?_))))
      exact ⟨(i + 1, _), (by dsimp only; omega), by dsimp only at hI ⊢; rw [List.append_assoc, ← hS]; exact hI, rfl⟩
  · have hi := gem hc1
    have hS := flat_end (f := Rw.enc) hi
    refine Tri.exit ?_
    refine Tri.seq ?_
    refine Tri.region ?_
    refine TriL.c1 rfl (op_mv (ltb rfl) rfl) ?_
    refine TriL.c2 rfl (op_callh (ltb rfl) fn51_MC rfl rfl (bytes_run (H.pen a) H.next a (Hp.pen_obj _ _) (by have := congrArg List.length hI; simp only [List.length_append] at this; omega))) ?_
    refine TriL.c1 rfl (op_as (ltb rfl) rfl) ?_
    refine TriL.c1 rfl (op_as (ltb rfl) rfl) ?_
    refine TriL.nil ?_
    refine Tri.ret ?_
    exact ⟨.inr rfl, (ResOK.r2 rfl (.tmp rfl (.tmp rfl .nil))).cast (by dsimp only at hI; rw [hS, List.append_nil] at hI; rw [hI]), ⟨_, rfl, Hp.pen_low _ _⟩⟩
end Go.Proofs.YtnpgcmeclkncnaaGreatDoor.X
/- encode, in the program. -/
set_option linter.unusedVariables false
set_option linter.unusedSimpArgs false
set_option linter.unusedSectionVars false
set_option maxRecDepth 100000
namespace Go.Proofs.YtnpgcmeclkncnaaGreatDoor.X
open Go Go.RowKit Go.Proofs
theorem fn130_MD : isFn Tryz.prog 130 = true := by kernel_rfl
theorem fn173_MD : isFn Tryz.prog 173 = true := by kernel_rfl
theorem fn174_MD : isFn Tryz.prog 174 = true := by kernel_rfl
theorem fn175_MD : isFn Tryz.prog 175 = true := by kernel_rfl
theorem fn176_MD : isFn Tryz.prog 176 = true := by kernel_rfl
theorem fn178_MD : isFn Tryz.prog 178 = true := by kernel_rfl
theorem fn179_MD : isFn Tryz.prog 179 = true := by kernel_rfl
theorem fn180_MD : isFn Tryz.prog 180 = true := by kernel_rfl
theorem fn181_MD : isFn Tryz.prog 181 = true := by kernel_rfl
theorem fn182_MD : isFn Tryz.prog 182 = true := by kernel_rfl
theorem fn204_MD : isFn Tryz.prog 204 = true := by kernel_rfl
theorem fn205_MD : isFn Tryz.prog 205 = true := by kernel_rfl
theorem fn206_MD : isFn Tryz.prog 206 = true := by kernel_rfl
theorem fn207_MD : isFn Tryz.prog 207 = true := by kernel_rfl
theorem fn210_MD : isFn Tryz.prog 210 = true := by kernel_rfl
theorem fn211_MD : isFn Tryz.prog 211 = true := by kernel_rfl
theorem fn49_MD : isFn Tryz.prog 49 = true := by kernel_rfl
theorem fo105_1_MD : fo Tryz.prog 105 1 = some 2 := by kernel_rfl
theorem fo86_0_MD : fo Tryz.prog 86 0 = some 0 := by kernel_rfl
theorem fo86_1_MD : fo Tryz.prog 86 1 = some 1 := by kernel_rfl
theorem fo86_2_MD : fo Tryz.prog 86 2 = some 2 := by kernel_rfl
theorem fo98_1_MD : fo Tryz.prog 98 1 = some 1 := by kernel_rfl
theorem fo98_2_MD : fo Tryz.prog 98 2 = some 2 := by kernel_rfl
theorem fo98_3_MD : fo Tryz.prog 98 3 = some 3 := by kernel_rfl
theorem ie189_MD : ie Tryz.prog 189 = some 1 := by kernel_rfl
theorem ie63_MD : ie Tryz.prog 63 = some 2 := by kernel_rfl
theorem lk102_MD : lk Tryz.prog 102 = some (false, 1) := by kernel_rfl
theorem lk105_MD : lk Tryz.prog 105 = some (true, 3) := by kernel_rfl
theorem lk3_MD : lk Tryz.prog 3 = some (false, 1) := by kernel_rfl
theorem lk32_MD : lk Tryz.prog 32 = some (true, 2) := by kernel_rfl
theorem lk63_MD : lk Tryz.prog 63 = some (false, 1) := by kernel_rfl
theorem lk84_MD : lk Tryz.prog 84 = some (false, 1) := by kernel_rfl
theorem lk9_MD : lk Tryz.prog 9 = some (false, 1) := by kernel_rfl
theorem lk98_MD : lk Tryz.prog 98 = some (true, 7) := by kernel_rfl
theorem se51_MD : se Tryz.prog 51 = some (5, 1, 1) := by kernel_rfl
theorem un189_MD : Tryz.prog.underlying 189 = some (TypeDesc.slice 84) := Tryz.underlying189
theorem un235_MD : Tryz.prog.underlying 235 = some (TypeDesc.int IntKind.u32) := Tryz.underlying235
theorem un51_MD : Tryz.prog.underlying 51 = some (TypeDesc.slice 5) := Tryz.underlying51
theorem un84_MD : Tryz.prog.underlying 84 = some (TypeDesc.int IntKind.u64) := Tryz.underlying84
theorem un9_MD : Tryz.prog.underlying 9 = some TypeDesc.string := Tryz.underlying9
theorem unel51_MD : Tryz.prog.underlying 5 = some (TypeDesc.int IntKind.u8) := Tryz.underlying5
theorem put4_pure' {y : Int} {n : Nat} (e : y = (n : Int)) (h : n < 4294967296) : Pure Tryz.prog 210 [.int .u32 y] (.sl (bsl (fput n 4))) := e ▸ put4_pure n h
theorem pay1 {w : Int} {u : Nat} (h : w = 1) : pay w u = fput u 8 := by simp [pay, h]
theorem pay5 {w : Int} {u : Nat} (h : w = 5) : pay w u = fput u 4 := by simp [pay, h]
theorem payv {w : Int} {u : Nat} (h : ¬ w = 1) (h5 : ¬ w = 5) : pay w u = vput u := by simp [pay, h, h5]
theorem p_plain (t : Int) (n : Nat) (hn : n < 18446744073709551616) : Pure Tryz.prog 179 [.int .i64 t, .int .u64 (n : Int)] (.sl (bsl (pay (wireT t) (toT t n)))) := by
  refine Pure.of_tri Tryz.func179 rfl rfl (ltb rfl) fun H => ?_
  refine Tri.seq ?_
  refine Tri.region ?_
  refine TriL.c1 rfl (op_as (ltb rfl) rfl) ?_
  refine TriL.nil ?_
  refine Tri.seq ?_
  refine Tri.region ?_
  refine TriL.c1 rfl (op_mv (ltb rfl) rfl) ?_
  refine TriL.c1 rfl (op_mv (ltb rfl) rfl) ?_
  refine TriL.c1 rfl (op_call (ltb rfl) fn204_MD rfl (p_to _ _ hn)) ?_
  refine TriL.c1 rfl (op_as (ltb rfl) rfl) ?_
  refine TriL.nil ?_
  refine Tri.seq ?_
  refine Tri.seq ?_
  refine Tri.region ?_
  refine TriL.c1 rfl (op_mv (ltb rfl) rfl) ?_
  refine TriL.c1 rfl (op_call (ltb rfl) fn205_MD rfl (p_wire _)) ?_
  refine TriL.nil ?_
  refine Tri.blk ?_
  refine Tri.seq ?_
  refine Tri.region ?_
  refine TriL.c1 rfl (op_bin (ltb rfl) rfl rfl rfl) ?_
  refine TriL.c1 rfl (op_as (ltb rfl) rfl) ?_
  refine TriL.nil ?_
  refine Tri.cond rfl (fun hc1 => ?_) (fun hc1 => ?_)
  · refine Tri.seq ?_
    refine Tri.region ?_
    refine TriL.c1 rfl (op_mv (ltb rfl) rfl) ?_
    refine TriL.c1 rfl (op_cvi (ltb rfl) un84_MD un235_MD rfl) ?_
    refine TriL.c1 rfl (op_call (ltb rfl) fn210_MD rfl (put4_pure' (wru32 (to5 (biT hc1))) (to5 (biT hc1)))) ?_
    refine TriL.c1 rfl (op_as (ltb rfl) rfl) ?_
    refine TriL.nil ?_
    refine Tri.ret ?_
    exact ⟨.inr rfl, (ResOK.r1 rfl (.tmp rfl .nil)).cast (by rw [pay5 (biT hc1)]), rfl⟩
  · refine Tri.seq ?_
    refine Tri.region ?_
    refine TriL.c1 rfl (op_bin (ltb rfl) rfl rfl rfl) ?_
    refine TriL.c1 rfl (op_as (ltb rfl) rfl) ?_
    refine TriL.nil ?_
    refine Tri.cond rfl (fun hc2 => ?_) (fun hc2 => ?_)
    · refine Tri.seq ?_
      refine Tri.region ?_
      refine TriL.c1 rfl (op_mv (ltb rfl) rfl) ?_
      refine TriL.c1 rfl (op_call (ltb rfl) fn211_MD rfl (put8_pure _)) ?_
      refine TriL.c1 rfl (op_as (ltb rfl) rfl) ?_
      refine TriL.nil ?_
      refine Tri.ret ?_
      exact ⟨.inr rfl, (ResOK.r1 rfl (.tmp rfl .nil)).cast (by rw [pay1 (biT hc2)]), rfl⟩
    · refine Tri.skip ?_
      refine Tri.seq ?_
      refine Tri.region ?_
      refine TriL.c1 rfl (op_mv (ltb rfl) rfl) ?_
      refine TriL.c1 rfl (op_call (ltb rfl) fn178_MD rfl (vput_pureO _ (toT_lt hn)).pure) ?_
      refine TriL.c1 rfl (op_as (ltb rfl) rfl) ?_
      refine TriL.nil ?_
      refine Tri.ret ?_
      exact ⟨.inr rfl, (ResOK.r1 rfl (.tmp rfl .nil)).cast (by rw [payv (biF hc2) (biF hc1)]), rfl⟩
theorem pack1_yes {t : Int} (h : numT t = true) (n : Nat) : pack1 t n = pay (wireT t) (toT t n) := by simp [pack1, h]
theorem pack1_no {t : Int} (h : numT t = false) (n : Nat) : pack1 t n = [] := by simp [pack1, h]
theorem p_pack (f : Fld) (l : List Nat) (hll : l.length ≤ 9223372036854775807) (hn : ∀ n ∈ l, n < 18446744073709551616) (hl : (packB f.ty l).length ≤ 1000000000) : Pure Tryz.prog 131 [f.av, .sl (l.map (fun n : Nat => AV.int .u64 (n : Int)))] (.str (packB f.ty l)) := by
  refine Pure.of_tri Tryz.func131 rfl rfl (ltb rfl) fun H => ?_
  refine Tri.seq ?_
  refine Tri.region ?_
  refine TriL.c2 rfl (op_box (ltb rfl) rfl rfl rfl) ?_
  refine TriL.c1 rfl (op_as (ltb rfl) rfl) ?_
  refine TriL.nil ?_
  refine Tri.seq ?_
  refine Tri.region ?_
  refine TriL.c2 rfl (op_nilt (k := 5) (el := 5) (esz := 1) (c := 0) (ltb rfl) rfl (by decide)) ?_
  refine TriL.nil ?_
  refine Tri.seq ?_
  refine Tri.seq ?_
  refine Tri.region ?_
  refine TriL.c1 rfl (op_mv (ltb rfl) rfl) ?_
  refine TriL.c1 rfl (op_lenl (ltb rfl) un189_MD rfl) ?_
  refine TriL.c1 rfl (op_mv (ltb rfl) rfl) ?_
  refine TriL.nil ?_
  refine Tri.blk ?_
  refine Tri.ofKept (Kept.keep [.s 10, .s 5, .t 5, .h, .s 2, .b 2, .s 8, .s 9] rfl (by decide) (Kept.now ?_))
  -- LOOP 1
  refine Tri.loopk (fun ((i, a) : Nat × List AV) => [(.s 10, .sv (.v (.int .i64 (i : Int)))), (.s 5, .sv (.ow 5 a)), (.t 5, .tk false 5 1 a)]) _ (fun ((i, a) : Nat × List AV) => ∃ x, a = bsl x ∧ x ++ (l.drop i).flatMap (pack1 f.ty) = packB f.ty l) (fun ((i, a) : Nat × List AV) => l.length - i) (0, []) rfl ⟨[], rfl, by simp [packB]⟩ ?_
  rintro ⟨i, a⟩ ⟨x, rfl, hI⟩
  refine Tri.seq ?_
  refine Tri.region ?_
  refine TriL.c1 rfl (op_bin (ltb rfl) rfl rfl rfl) ?_
  refine TriL.nil ?_
  refine Tri.seq ?_
  refine Tri.cond rfl (fun hc1 => ?_) (fun hc1 => ?_)
  · have hi := ltm hc1
    have hS := flat_step (f := pack1 f.ty) hi
    refine Tri.skip ?_
    refine Tri.seq ?_
    refine Tri.blk ?_
    refine Tri.seq ?_
    refine Tri.region ?_
    refine TriL.c1 rfl (op_iak (ltb rfl) ie189_MD rfl rfl (Int.natCast_nonneg _) (ixm hi) rfl) ?_
    refine TriL.c1 rfl (op_ldk (ltb rfl) lk84_MD rfl rfl) ?_
    refine TriL.c1 rfl (op_as (ltb rfl) rfl) ?_
    refine TriL.nil ?_
    refine Tri.seq ?_
    refine Tri.region ?_
    refine TriL.c1 rfl (op_fal (ltb rfl) fo98_2_MD rfl) ?_
    refine TriL.c1 rfl (op_ldl (ltb rfl) lk3_MD rfl rfl rfl) ?_
    refine TriL.c1 rfl (op_call (ltb rfl) fn173_MD rfl (p_numT _)) ?_
    refine TriL.nil ?_
    refine Tri.cond rfl (fun hc2 => ?_) (fun hc2 => ?_)
    · -- region 6 encode.go:35
      refine Tri.region ?_
      refine TriL.c1 rfl (op_mv (ltb rfl) rfl) ?_
      refine TriL.c1 rfl (op_fal (ltb rfl) fo98_2_MD rfl) ?_
      refine TriL.c1 rfl (op_ldl (ltb rfl) lk3_MD rfl rfl rfl) ?_
      refine TriL.c1 rfl (op_mv (ltb rfl) rfl) ?_
      refine TriL.c1 rfl (op_call (ltb rfl) fn179_MD rfl (p_plain _ _ (hn _ (List.getElem_mem hi)))) ?_
      refine TriL.c3 rfl (op_app (ltb rfl) se51_MD rfl rfl rfl (okEls_bsl _) rfl (by have hq := congrArg List.length hI; rw [hS] at hq; simp only [pack1_yes hc2, List.length_append, bsl_len] at *; omega) (by have hq := congrArg List.length hI; rw [hS] at hq; simp only [pack1_yes hc2, List.length_append, bsl_len] at *; omega)) ?_
      refine TriL.c1 rfl (op_as (ltb rfl) rfl) ?_
      refine TriL.nil ?_
      refine Tri.region ?_
      refine TriL.c1 rfl (op_bin (ltb rfl) rfl rfl rfl) ?_
      refine TriL.c1 rfl (op_mv (ltb rfl) rfl) ?_
      refine TriL.kept (Kept.seti 10 rfl (inc (by omega)) (Kept.keep [.s 10, .s 5, .t 22, .h, .s 2, .b 2, .s 8, .s 9] rfl (by decide) (Kept.ren 22 5 (by decide) rfl (Kept.now ?_))))
      exact ⟨(i + 1, _), (by dsimp only; omega), ⟨x ++ pay (wireT f.ty) (toT f.ty (l[i]'hi)), (bsl_app _ _).symm, by rw [List.append_assoc, ← pack1_yes hc2, ← hS]; exact hI⟩, rfl⟩
    · refine Tri.skip ?_
      refine Tri.region ?_
      refine TriL.c1 rfl (op_bin (ltb rfl) rfl rfl rfl) ?_
      refine TriL.c1 rfl (op_mv (ltb rfl) rfl) ?_
      refine TriL.kept (Kept.seti 10 rfl (inc (by omega)) (Kept.keep [.s 10, .s 5, .t 5, .h, .s 2, .b 2, .s 8, .s 9] rfl (by decide) (Kept.now ?_)))
      exact ⟨(i + 1, _), (by dsimp only; omega), ⟨x, rfl, by rw [← hI, hS, pack1_no hc2]; rfl⟩, rfl⟩
  · have hi := gem hc1
    have hS := flat_end (f := pack1 f.ty) hi
    refine Tri.exit ?_
    refine Tri.seq ?_
    refine Tri.region ?_
    refine TriL.c1 rfl (op_mv (ltb rfl) rfl) ?_
    refine TriL.c1 rfl (op_b2s (ltb rfl) un51_MD unel51_MD un9_MD rfl (bytesOf_bsl _)) ?_
    refine TriL.c1 rfl (op_as (ltb rfl) rfl) ?_
    refine TriL.nil ?_
    refine Tri.ret ?_
    exact ⟨.inr rfl, (ResOK.r1 rfl (.tmp rfl .nil)).cast (by rw [← hI, hS, List.append_nil]), rfl⟩
/-- a pen's cells -/
def penC (s : Sch) (id : Nat) : List AV := [.sl (s.enums.map Enm.av), .sl (s.msgs.map Msg.av), .op id 0]
/-- a writer that has written so much -/
def Hp.wrote (H : Hp) (id : Nat) (b : List UInt8) (fs : List AV) : Hp := H.set id (wr (bsl b) fs)
theorem Hp.wrote_obj (H : Hp) (id : Nat) (b : List UInt8) (fs : List AV) : (H.wrote id b fs).obj id = some (wr (bsl b) fs) := Hp.set_obj
theorem Hp.wrote_set (H : Hp) (id : Nat) (b c : List UInt8) (fs gs : List AV) : (H.wrote id b fs).set id (wr (bsl c) gs) = H.wrote id c gs := Hp.set_set
theorem v_varint (H : Hp) (id : Nat) (b : List UInt8) (fs : List AV) (n : Int) (x : Nat) (hr : rightok n 0 = true) (hx : x < 18446744073709551616) (hl : b.length + (tagB n 0 ++ vput x).length ≤ 1000000000) : Run Tryz.prog 180 [.op id 0, .int .i64 n, .int .u64 (x : Int)] (H.wrote id b fs) (.bool true) (H.wrote id (b ++ (tagB n 0 ++ vput x)) fs) := by
  have h := w_varint (H.wrote id b fs) id b fs n x (H.wrote_obj id b fs) hr hx hl
  rwa [Hp.wrote_set] at h
theorem v_fixed8 (H : Hp) (id : Nat) (b : List UInt8) (fs : List AV) (n : Int) (x : Nat) (hr : rightok n 1 = true) (hl : b.length + (tagB n 1 ++ fput x 8).length ≤ 1000000000) : Run Tryz.prog 181 [.op id 0, .int .i64 n, .int .u64 (x : Int)] (H.wrote id b fs) (.bool true) (H.wrote id (b ++ (tagB n 1 ++ fput x 8)) fs) := by
  have h := w_fixed8 (H.wrote id b fs) id b fs n x (H.wrote_obj id b fs) hr hl
  rwa [Hp.wrote_set] at h
theorem v_fixed4 (H : Hp) (id : Nat) (b : List UInt8) (fs : List AV) (n : Int) (x : Nat) {y : Int} (hr : rightok n 5 = true) (hx : x < 4294967296) (hy : y = (x : Int)) (hl : b.length + (tagB n 5 ++ fput x 4).length ≤ 1000000000) : Run Tryz.prog 182 [.op id 0, .int .i64 n, .int .u32 y] (H.wrote id b fs) (.bool true) (H.wrote id (b ++ (tagB n 5 ++ fput x 4)) fs) := by
  have h := w_fixed4 (H.wrote id b fs) id b fs n x (H.wrote_obj id b fs) hr hx hy hl
  rwa [Hp.wrote_set] at h
theorem v_text (H : Hp) (id : Nat) (b : List UInt8) (fs : List AV) (n : Int) (x : List UInt8) (hr : rightok n 2 = true) (hl : b.length + (txt n x).length ≤ 1000000000) : Run Tryz.prog 130 [.op id 0, .int .i64 n, .str x] (H.wrote id b fs) (.bool true) (H.wrote id (b ++ txt n x) fs) := by
  have h := w_text (H.wrote id b fs) id b fs n x (H.wrote_obj id b fs) hr hl
  rwa [Hp.wrote_set] at h
theorem v_open (H : Hp) (id : Nat) (b : List UInt8) (fs : List AV) (n : Int) (hr : rightok n 2 = true) (hl : fs.length ≤ 1000) : Run Tryz.prog 206 [.op id 0, .int .i64 n] (H.wrote id b fs) (.bool true) (H.wrote id b (fs ++ [frm n ((b.length : Nat) : Int)])) := by
  have h := open_run (H.wrote id b fs) id n b fs (H.wrote_obj id b fs) hr (by omega)
  rw [Hp.wrote_set, bsl_len] at h
  exact h
theorem shut_app (b c : List UInt8) (n : Int) : shut (b ++ c) n b.length = b ++ txt n c := by simp [shut, txt, tagB]
theorem v_close (H : Hp) (id : Nat) (b c : List UInt8) (fs : List AV) (n : Int) (hr : rightok n 2 = true) (hfs : ∀ f ∈ fs, ∃ a b, f = frm a b) (hl : b.length + (txt n c).length ≤ 1000000000) (hf : fs.length ≤ 1000) : Run Tryz.prog 207 [.op id 0] (H.wrote id (b ++ c) (fs ++ [frm n ((b.length : Nat) : Int)])) (.bool true) (H.wrote id (b ++ txt n c) fs) := by
  have hc := txt_ge n c
  have h := close_run (H.wrote id (b ++ c) (fs ++ [frm n ((b.length : Nat) : Int)])) id (b ++ c) fs n b.length (H.wrote_obj id _ _) hfs hr (by simp) (by rw [List.length_append]; omega) (by omega)
  rw [Hp.wrote_set, shut_app] at h
  exact h
theorem v_plain (H : Hp) (id : Nat) (b c : List UInt8) (fs : List AV) (hl : b.length + c.length ≤ 1000000000) : Run Tryz.prog 86 [.op id 0, .sl [.sl (bsl c)]] (H.wrote id b fs) (.bool true) (H.wrote id (b ++ c) fs) := by
  have h := plain_run (H.wrote id b fs) id b fs [c] (H.wrote_obj id b fs) (by simp; omega) (by simp)
  rw [Hp.wrote_set] at h
  simpa [sls] using h
theorem deepT_mem : ∀ {l : List Tree} {u : Tree}, u ∈ l → u.deep ≤ deepT l
  | x :: l, u, h => by
    simp only [deepT]
    rcases List.mem_cons.1 h with rfl | h
    · omega
    · have := deepT_mem h; omega
theorem deepV_mem : ∀ {l : List Val} {u : Val}, u ∈ l → u.deep ≤ deepV l
  | x :: l, u, h => by
    simp only [deepV]
    rcases List.mem_cons.1 h with rfl | h
    · omega
    · have := deepV_mem h; omega
theorem deepS_mem : ∀ {l : List Slot} {u : Slot}, u ∈ l → u.deep ≤ deepS l
  | x :: l, u, h => by
    simp only [deepS]
    rcases List.mem_cons.1 h with rfl | h
    · omega
    · have := deepS_mem h; omega
theorem p_number1 (s : Sch) (H : Hp) (id : Nat) (b : List UInt8) (fs : List AV) (f : Fld) (n : Nat) (hn : n < 18446744073709551616) (ht : numT f.ty = true) (hf : fnum f.num = true) (hl : b.length + (tagB f.num (wireT f.ty) ++ pay (wireT f.ty) (toT f.ty n)).length ≤ 1000000000) : Run Tryz.prog 174 [.agg (penC s id), f.av, .int .u64 (n : Int)] (H.wrote id b fs) (.tup []) (H.wrote id (b ++ (tagB f.num (wireT f.ty) ++ pay (wireT f.ty) (toT f.ty n))) fs) := by
  refine Run.of_tri Tryz.func174 rfl rfl (ltb rfl) ?_
  refine Tri.seq ?_
  refine Tri.region ?_
  refine TriL.c2 rfl (op_box (ltb rfl) rfl rfl rfl) ?_
  refine TriL.c2 rfl (op_box (ltb rfl) rfl rfl rfl) ?_
  refine TriL.nil ?_
  refine Tri.seq ?_
  refine Tri.region ?_
  refine TriL.c1 rfl (op_fal (ltb rfl) fo98_2_MD rfl) ?_
  refine TriL.c1 rfl (op_ldl (ltb rfl) lk3_MD rfl rfl rfl) ?_
  refine TriL.c1 rfl (op_mv (ltb rfl) rfl) ?_
  refine TriL.c1 rfl (op_call (ltb rfl) fn204_MD rfl (p_to _ _ hn)) ?_
  refine TriL.c1 rfl (op_as (ltb rfl) rfl) ?_
  refine TriL.nil ?_
  refine Tri.seq ?_
  refine Tri.region ?_
  refine TriL.c1 rfl (op_fal (ltb rfl) fo98_2_MD rfl) ?_
  refine TriL.c1 rfl (op_ldl (ltb rfl) lk3_MD rfl rfl rfl) ?_
  refine TriL.c1 rfl (op_call (ltb rfl) fn205_MD rfl (p_wire _)) ?_
  refine TriL.nil ?_
  refine Tri.blk ?_
  refine Tri.seq ?_
  refine Tri.region ?_
  refine TriL.c1 rfl (op_bin (ltb rfl) rfl rfl rfl) ?_
  refine TriL.c1 rfl (op_as (ltb rfl) rfl) ?_
  refine TriL.nil ?_
  refine Tri.cond rfl (fun hc1 => ?_) (fun hc1 => ?_)
  · -- region 5 encode.go:52
    refine Tri.region ?_
    refine TriL.c1 rfl (op_fal (ltb rfl) fo105_1_MD rfl) ?_
    refine TriL.c1 rfl (op_ldl (ltb rfl) lk102_MD rfl rfl rfl) ?_
    refine TriL.c1 rfl (op_fal (ltb rfl) fo98_1_MD rfl) ?_
    refine TriL.c1 rfl (op_ldl (ltb rfl) lk3_MD rfl rfl rfl) ?_
    refine TriL.c1 rfl (op_mv (ltb rfl) rfl) ?_
    refine TriL.c1 rfl (op_cvi (ltb rfl) un84_MD un235_MD rfl) ?_
    refine TriL.c2 rfl (op_callh (ltb rfl) fn182_MD rfl rfl (v_fixed4 H id b fs _ _ (by have := wire_right (t := f.ty) hf; rwa [biT hc1] at this) (to5 (biT hc1)) (wru32 (to5 (biT hc1))) (by rw [pay5 (biT hc1), biT hc1] at hl; exact hl))) ?_
    refine TriL.nil ?_
    exact ⟨.inl rfl, (ResOK.r0 rfl ).cast rfl, (congrArg (fun h => some (CV.hp h)) (by rw [pay5 (biT hc1), biT hc1]))⟩
  · refine Tri.seq ?_
    refine Tri.region ?_
    refine TriL.c1 rfl (op_bin (ltb rfl) rfl rfl rfl) ?_
    refine TriL.c1 rfl (op_as (ltb rfl) rfl) ?_
    refine TriL.nil ?_
    refine Tri.cond rfl (fun hc2 => ?_) (fun hc2 => ?_)
    · -- region 7 encode.go:54
      refine Tri.region ?_
      refine TriL.c1 rfl (op_fal (ltb rfl) fo105_1_MD rfl) ?_
      refine TriL.c1 rfl (op_ldl (ltb rfl) lk102_MD rfl rfl rfl) ?_
      refine TriL.c1 rfl (op_fal (ltb rfl) fo98_1_MD rfl) ?_
      refine TriL.c1 rfl (op_ldl (ltb rfl) lk3_MD rfl rfl rfl) ?_
      refine TriL.c1 rfl (op_mv (ltb rfl) rfl) ?_
      refine TriL.c2 rfl (op_callh (ltb rfl) fn181_MD rfl rfl (v_fixed8 H id b fs _ _ (by have := wire_right (t := f.ty) hf; rwa [biT hc2] at this) (by rw [pay1 (biT hc2), biT hc2] at hl; exact hl))) ?_
      refine TriL.nil ?_
      exact ⟨.inl rfl, (ResOK.r0 rfl ).cast rfl, (congrArg (fun h => some (CV.hp h)) (by rw [pay1 (biT hc2), biT hc2]))⟩
    · -- region 3 encode.go:56
      refine Tri.region ?_
      refine TriL.c1 rfl (op_fal (ltb rfl) fo105_1_MD rfl) ?_
      refine TriL.c1 rfl (op_ldl (ltb rfl) lk102_MD rfl rfl rfl) ?_
      refine TriL.c1 rfl (op_fal (ltb rfl) fo98_1_MD rfl) ?_
      refine TriL.c1 rfl (op_ldl (ltb rfl) lk3_MD rfl rfl rfl) ?_
      refine TriL.c1 rfl (op_mv (ltb rfl) rfl) ?_
      refine TriL.c2 rfl (op_callh (ltb rfl) fn180_MD rfl rfl (v_varint H id b fs _ _ (by have := wire_right (t := f.ty) hf; rwa [(show wireT f.ty = 0 by have := numT_wire ht; have := biF hc1; have := biF hc2; omega)] at this) (toT_lt hn) (by rw [payv (biF hc2) (biF hc1), (show wireT f.ty = 0 by have := numT_wire ht; have := biF hc1; have := biF hc2; omega)] at hl; exact hl))) ?_
      refine TriL.nil ?_
      exact ⟨.inl rfl, (ResOK.r0 rfl ).cast rfl, (congrArg (fun h => some (CV.hp h)) (by rw [payv (biF hc2) (biF hc1), (show wireT f.ty = 0 by have := numT_wire ht; have := biF hc1; have := biF hc2; omega)]))⟩
theorem p_within (s : Sch) (H : Hp) (id : Nat) (b c : List UInt8) (fs : List AV) (n : Int) (F : FuncId) (caps : List AV) (hF : isFn Tryz.prog F = true) (hr : rightok n 2 = true) (hf : fs.length ≤ 1000) (hfs : ∀ f ∈ fs, ∃ a b, f = frm a b) (hl : b.length + (txt n c).length ≤ 1000000000) (hp : Run Tryz.prog F ([] ++ caps) (H.wrote id b (fs ++ [frm n ((b.length : Nat) : Int)])) (.tup []) (H.wrote id (b ++ c) (fs ++ [frm n ((b.length : Nat) : Int)]))) : Run Tryz.prog 175 [.agg (penC s id), .int .i64 n, .fn F caps] (H.wrote id b fs) (.tup []) (H.wrote id (b ++ txt n c) fs) := by
  refine Run.of_tri Tryz.func175 rfl rfl (ltb rfl) ?_
  refine Tri.seq ?_
  refine Tri.region ?_
  refine TriL.c2 rfl (op_box (ltb rfl) rfl rfl rfl) ?_
  refine TriL.nil ?_
  refine Tri.seq ?_
  refine Tri.region ?_
  refine TriL.c1 rfl (op_fal (ltb rfl) fo105_1_MD rfl) ?_
  refine TriL.c1 rfl (op_ldl (ltb rfl) lk102_MD rfl rfl rfl) ?_
  refine TriL.c1 rfl (op_mv (ltb rfl) rfl) ?_
  refine TriL.c2 rfl (op_callh (ltb rfl) fn206_MD rfl rfl (v_open H id b fs _ hr hf)) ?_
  refine TriL.nil ?_
  refine Tri.seq ?_
  refine Tri.region ?_
  refine TriL.c1 rfl (op_mv (ltb rfl) rfl) ?_
  refine TriL.c2 rfl (op_callch (ltb rfl) hF rfl rfl rfl hp) ?_
  refine TriL.nil ?_
  refine Tri.region ?_
  refine TriL.c1 rfl (op_fal (ltb rfl) fo105_1_MD rfl) ?_
  refine TriL.c1 rfl (op_ldl (ltb rfl) lk102_MD rfl rfl rfl) ?_
  refine TriL.c2 rfl (op_callh (ltb rfl) fn207_MD rfl rfl (v_close H id b c fs _ hr hfs hl hf)) ?_
  refine TriL.nil ?_
  exact ⟨.inl rfl, (ResOK.r0 rfl ).cast rfl, rfl⟩
def PenT (s : Sch) (t : Tree) : Prop := ∀ (name : Str) (H : Hp) (id : Nat) (b : List UInt8) (fs : List AV), t.ok s name = true → (∀ f ∈ fs, ∃ a b, f = frm a b) → b.length + (t.enc s name).length ≤ 1000000000 → fs.length + t.deep ≤ 1000 →
  Run Tryz.prog 49 [.agg (penC s id), .str name, .agg t.cells] (H.wrote id b fs) (.tup []) (H.wrote id (b ++ t.enc s name) fs)
theorem p_value1 (s : Sch) (f : Fld) (v : Val) (H H2 : Hp) (id : Nat) (hm : 0 < v.m.length) (hp : Run Tryz.prog 49 [.agg (penC s id), .str f.ref, .agg (v.m[0]).cells] H (.tup []) H2) : Run Tryz.prog 176 ([] ++ [.kp (penC s id), .kp f.cells, .kp v.cells]) H (.tup []) H2 := by
  refine Run.of_tri Tryz.func176 rfl rfl (ltb rfl) ?_
  refine Tri.drawn mixed rfl ?_
  refine TriD.c1 rfl (op_ldk (ltb rfl) lk105_MD rfl rfl) ?_
  refine TriD.c1 rfl (op_fak (ltb rfl) fo98_3_MD rfl) ?_
  refine TriD.c1 rfl (op_ldk (ltb rfl) lk9_MD rfl rfl) ?_
  refine TriD.c1 rfl (op_fak (ltb rfl) fo86_2_MD rfl) ?_
  refine TriD.c1 rfl (op_ldk (ltb rfl) lk63_MD rfl rfl) ?_
  refine TriD.c1 rfl (op_iak (ltb rfl) ie63_MD rfl rfl (by decide) (ixmE (i := 0) Tree.av_eq hm) rfl) ?_
  refine TriD.c1 rfl (op_ldk (ltb rfl) lk32_MD rfl rfl) ?_
  refine TriD.c2 rfl (op_callh (ltb rfl) fn49_MD rfl rfl hp) ?_
  refine TriD.nil (by kernel_rfl) (Kept.now ?_)
  exact ⟨.inl rfl, (ResOK.r0 rfl ).cast rfl, rfl⟩
theorem frm_snoc {fs : List AV} {n k : Int} (h : ∀ f ∈ fs, ∃ a b, f = frm a b) : ∀ f ∈ fs ++ [frm n k], ∃ a b, f = frm a b := by
  intro f hf
  rcases List.mem_append.1 hf with hf | hf
  · exact h f hf
  · exact ⟨n, k, by simpa using hf⟩
theorem Val.msg_at {s : Sch} {f : Fld} {v : Val} (h : v.ok s f = true) (h1 : numT f.ty = false) (h2 : f.ty = 15) : ∃ hm : 0 < v.m.length, (v.m[0]'hm).ok s f.ref = true ∧ v.enc s f = txt f.num ((v.m[0]'hm).enc s f.ref) := by
  obtain ⟨u, hu, hk⟩ := Val.ok_msg h (by simp [h1]) h2
  have hm : 0 < v.m.length := by rw [hu]; simp
  have he : v.m[0]'hm = u := by simp [hu]
  refine ⟨hm, by rw [he]; exact hk, ?_⟩
  rw [Val.enc_eq, if_neg (by simp [h1]), if_pos h2, encM_one _ _ hm]
theorem p_value (s : Sch) (f : Fld) (v : Val) (H : Hp) (id : Nat) (b : List UInt8) (fs : List AV) (hv : v.ok s f = true) (hn : v.n < 18446744073709551616) (hf : fnum f.num = true) (hfs : ∀ f ∈ fs, ∃ a b, f = frm a b) (hl : b.length + (v.enc s f).length ≤ 1000000000) (hd : fs.length + v.deep ≤ 999) (ih : ∀ u ∈ v.m, PenT s u) : Run Tryz.prog 129 [.agg (penC s id), f.av, .agg v.cells] (H.wrote id b fs) (.tup []) (H.wrote id (b ++ v.enc s f) fs) := by
  refine Run.of_tri Tryz.func129 rfl rfl (ltb rfl) ?_
  refine Tri.seq ?_
  refine Tri.region ?_
  refine TriL.c2 rfl (op_box (ltb rfl) rfl rfl rfl) ?_
  refine TriL.c2 rfl (op_box (ltb rfl) rfl rfl rfl) ?_
  refine TriL.c2 rfl (op_box (ltb rfl) rfl rfl rfl) ?_
  refine TriL.nil ?_
  refine Tri.blk ?_
  refine Tri.seq ?_
  refine Tri.region ?_
  refine TriL.c1 rfl (op_fal (ltb rfl) fo98_2_MD rfl) ?_
  refine TriL.c1 rfl (op_ldl (ltb rfl) lk3_MD rfl rfl rfl) ?_
  refine TriL.c1 rfl (op_call (ltb rfl) fn173_MD rfl (p_numT _)) ?_
  refine TriL.c1 rfl (op_as (ltb rfl) rfl) ?_
  refine TriL.nil ?_
  refine Tri.cond rfl (fun hc1 => ?_) (fun hc1 => ?_)
  · -- region 3 encode.go:71
    refine Tri.region ?_
    refine TriL.c1 rfl (op_ldl (ltb rfl) lk105_MD rfl rfl rfl) ?_
    refine TriL.c1 rfl (op_ldl (ltb rfl) lk98_MD rfl rfl rfl) ?_
    refine TriL.c1 rfl (op_fal (ltb rfl) fo86_0_MD rfl) ?_
    refine TriL.c1 rfl (op_ldl (ltb rfl) lk84_MD rfl rfl rfl) ?_
    refine TriL.c2 rfl (op_callh (ltb rfl) fn174_MD rfl rfl (p_number1 s H id b fs f v.n hn hc1 hf (by rw [Val.enc_eq, if_pos hc1] at hl; exact hl))) ?_
    refine TriL.nil ?_
    exact ⟨.inl rfl, (ResOK.r0 rfl ).cast rfl, (congrArg (fun h => some (CV.hp h)) (by rw [Val.enc_eq, if_pos hc1]))⟩
  · refine Tri.seq ?_
    refine Tri.region ?_
    refine TriL.c1 rfl (op_fal (ltb rfl) fo98_2_MD rfl) ?_
    refine TriL.c1 rfl (op_ldl (ltb rfl) lk3_MD rfl rfl rfl) ?_
    refine TriL.c1 rfl (op_bin (ltb rfl) rfl rfl rfl) ?_
    refine TriL.c1 rfl (op_as (ltb rfl) rfl) ?_
    refine TriL.nil ?_
    refine Tri.cond rfl (fun hc2 => ?_) (fun hc2 => ?_)
    · obtain ⟨hm, hu, hE2⟩ := Val.msg_at hv hc1 (biT hc2)
      refine Tri.ofKept (Kept.fzb 3 rfl rfl (Kept.now ?_))
      refine Tri.ofKept (Kept.fzb 4 rfl rfl (Kept.now ?_))
      refine Tri.ofKept (Kept.fzb 5 rfl rfl (Kept.now ?_))
      refine Tri.region ?_
      refine TriL.c1 rfl (op_ldk (ltb rfl) lk105_MD rfl rfl) ?_
      refine TriL.c1 rfl (op_fak (ltb rfl) fo98_1_MD rfl) ?_
      refine TriL.c1 rfl (op_ldk (ltb rfl) lk3_MD rfl rfl) ?_
      refine TriL.c1 rfl (op_mkf (ltb rfl) rfl) ?_
      refine TriL.c2 rfl (op_callh (ltb rfl) fn175_MD rfl rfl (p_within s H id b ((v.m[0]'hm).enc s f.ref) fs _ _ _ fn176_MD (fnum_right hf) (by omega) hfs (by rw [hE2] at hl; exact hl) (p_value1 s f v _ _ id hm (ih _ (List.getElem_mem hm) f.ref H id b _ hu (frm_snoc hfs) (by rw [hE2] at hl; have := txt_ge f.num ((v.m[0]'hm).enc s f.ref); omega) (by have := deepT_mem (List.getElem_mem hm); have := v.deep_eq; simp only [List.length_append, List.length_cons, List.length_nil]; omega))))) ?_
      refine TriL.nil ?_
      exact ⟨.inl rfl, (ResOK.r0 rfl ).cast rfl, (congrArg (fun h => some (CV.hp h)) (by rw [hE2]))⟩
    · -- region 1 encode.go:75
      refine Tri.region ?_
      refine TriL.c1 rfl (op_fal (ltb rfl) fo105_1_MD rfl) ?_
      refine TriL.c1 rfl (op_ldl (ltb rfl) lk102_MD rfl rfl rfl) ?_
      refine TriL.c1 rfl (op_fal (ltb rfl) fo98_1_MD rfl) ?_
      refine TriL.c1 rfl (op_ldl (ltb rfl) lk3_MD rfl rfl rfl) ?_
      refine TriL.c1 rfl (op_fal (ltb rfl) fo86_1_MD rfl) ?_
      refine TriL.c1 rfl (op_ldl (ltb rfl) lk9_MD rfl rfl rfl) ?_
      refine TriL.c2 rfl (op_callh (ltb rfl) fn130_MD rfl rfl (v_text H id b fs _ v.s (fnum_right hf) (by rw [Val.enc_eq, if_neg (by simp [hc1]), if_neg (biF hc2)] at hl; exact hl))) ?_
      refine TriL.nil ?_
      exact ⟨.inl rfl, (ResOK.r0 rfl ).cast rfl, (congrArg (fun h => some (CV.hp h)) (by rw [Val.enc_eq, if_neg (by simp [hc1]), if_neg (biF hc2)]))⟩
end Go.Proofs.YtnpgcmeclkncnaaGreatDoor.X
