/- hex, and its reference: the small functions. -/
import Derived.Test.YtecjdohpfijmpaaH1
set_option linter.unusedVariables false
set_option linter.unusedSimpArgs false
namespace Go.Proofs.Ytecjdohpfijmpaa.X
open Go Go.RowKit Go.Proofs
/-- is it a digit? -/
def hexok (c : Int) : Bool := decide ((48 ≤ c ∧ c ≤ 57) ∨ (97 ≤ c ∧ c ≤ 102))
/-- a digit's number -/
def hexval (c : Int) : Int := if 48 ≤ c ∧ c ≤ 57 then c - 48 else if 97 ≤ c ∧ c ≤ 102 then c - 87 else 0
theorem hexval_lt (c : Int) : 0 ≤ hexval c ∧ hexval c < 16 := by unfold hexval; (repeat' split) <;> omega
theorem res_tup2 {x y : Int} {b c : Bool} (h : x = y) (k : b = c) : AV.tup [.int .u8 x, .bool b] = .tup [.int .u8 y, .bool c] := by rw [h, k]
theorem res_i64 {x y : Int} (h : x = y) : AV.int .i64 x = .int .i64 y := by rw [h]
theorem res_u8 {x y : Int} (h : x = y) : AV.int .u8 x = .int .u8 y := by rw [h]
theorem res_bool {x y : Bool} (h : x = y) : AV.bool x = .bool y := by rw [h]
theorem value_pure (c : Int) (h0 : 0 ≤ c) (h1 : c < 2147483648) : Pure Try.prog 37 [.int .i32 c] (.tup [.int .u8 (hexval c), .bool (hexok c)]) := by
  refine Pure.of_tri Try.func37 rfl rfl (ltb rfl) fun H => ?_
  refine Tri.seq ?_
  refine Tri.region ?_
  refine TriL.c1 rfl (op_as (ltb rfl) rfl) ?_
  refine TriL.c1 rfl (op_as (ltb rfl) rfl) ?_
  refine TriL.nil ?_
  refine Tri.seq ?_
  refine Tri.blk ?_   -- 0
  refine Tri.seq ?_
  refine Tri.region ?_
  refine TriL.c1 rfl (op_mv (ltb rfl) rfl) ?_
  refine TriL.c1 rfl (op_bin (ltb rfl) rfl rfl rfl) ?_
  refine TriL.c1 rfl (op_mv (ltb rfl) rfl) ?_
  refine TriL.split (d := 7) rfl (fun hg1 => ?_) (fun hg1 => ?_)
  · refine TriL.g1 rfl (ltb rfl) rfl hg1 (op_mv (ltb rfl) rfl) ?_
    refine TriL.g1 rfl (ltb rfl) rfl hg1 (op_bin (ltb rfl) rfl rfl rfl) ?_
    refine TriL.c1 rfl (op_pickt (ltb rfl) rfl hg1 rfl) ?_
    refine TriL.c1 rfl (op_as (ltb rfl) rfl) ?_
    refine TriL.nil ?_
    refine Tri.cond rfl (fun hc2 => ?_) (fun hc2 => ?_)
    · refine Tri.seq ?_
      refine Tri.region ?_
      refine TriL.c1 rfl (op_mv (ltb rfl) rfl) ?_
      refine TriL.c1 rfl (op_bin (ltb rfl) rfl rfl rfl) ?_
      refine TriL.c1 rfl (op_cvi (ltb rfl) un21 un5 rfl) ?_
      refine TriL.c1 rfl (op_as (ltb rfl) rfl) ?_
      refine TriL.c1 rfl (op_as (ltb rfl) rfl) ?_
      refine TriL.nil ?_
      refine Tri.ret ?_
      exact ⟨.inr rfl, (ResOK.r2 rfl (.tmp rfl (.tmp rfl .nil))).cast (by exact res_tup2 (by (try simp only [decide_eq_true_eq, decide_eq_false_iff_not] at *); (try simp (disch := omega) only [wr8, wr32, wr64]); unfold hexval; (repeat' split) <;> omega) (by (try simp only [decide_eq_true_eq, decide_eq_false_iff_not] at *); first | exact (decide_eq_true (by omega)).symm | exact (decide_eq_false (by omega)).symm)), rfl⟩
    · refine Tri.seq ?_
      refine Tri.region ?_
      refine TriL.c1 rfl (op_mv (ltb rfl) rfl) ?_
      refine TriL.c1 rfl (op_bin (ltb rfl) rfl rfl rfl) ?_
      refine TriL.c1 rfl (op_mv (ltb rfl) rfl) ?_
      refine TriL.split (d := 17) rfl (fun hg3 => ?_) (fun hg3 => ?_)
      · refine TriL.g1 rfl (ltb rfl) rfl hg3 (op_mv (ltb rfl) rfl) ?_
        refine TriL.g1 rfl (ltb rfl) rfl hg3 (op_bin (ltb rfl) rfl rfl rfl) ?_
        refine TriL.c1 rfl (op_pickt (ltb rfl) rfl hg3 rfl) ?_
        refine TriL.c1 rfl (op_as (ltb rfl) rfl) ?_
        refine TriL.nil ?_
        refine Tri.cond rfl (fun hc4 => ?_) (fun hc4 => ?_)
        · refine Tri.seq ?_
          refine Tri.region ?_
          refine TriL.c1 rfl (op_mv (ltb rfl) rfl) ?_
          refine TriL.c1 rfl (op_bin (ltb rfl) rfl rfl rfl) ?_
          refine TriL.c1 rfl (op_cvi (ltb rfl) un21 un5 rfl) ?_
          refine TriL.c1 rfl (op_bin (ltb rfl) rfl rfl rfl) ?_
          refine TriL.c1 rfl (op_as (ltb rfl) rfl) ?_
          refine TriL.c1 rfl (op_as (ltb rfl) rfl) ?_
          refine TriL.nil ?_
          refine Tri.ret ?_
          exact ⟨.inr rfl, (ResOK.r2 rfl (.tmp rfl (.tmp rfl .nil))).cast (by exact res_tup2 (by (try simp only [decide_eq_true_eq, decide_eq_false_iff_not] at *); (try simp (disch := omega) only [wr8, wr32, wr64]); unfold hexval; (repeat' split) <;> omega) (by (try simp only [decide_eq_true_eq, decide_eq_false_iff_not] at *); first | exact (decide_eq_true (by omega)).symm | exact (decide_eq_false (by omega)).symm)), rfl⟩
        · refine Tri.skip ?_
          refine Tri.seq ?_
          refine Tri.region ?_
          refine TriL.c1 rfl (op_as (ltb rfl) rfl) ?_
          refine TriL.c1 rfl (op_as (ltb rfl) rfl) ?_
          refine TriL.nil ?_
          refine Tri.ret ?_
          exact ⟨.inr rfl, (ResOK.r2 rfl (.tmp rfl (.tmp rfl .nil))).cast (by exact res_tup2 (by (try simp only [decide_eq_true_eq, decide_eq_false_iff_not] at *); (try simp (disch := omega) only [wr8, wr32, wr64]); unfold hexval; (repeat' split) <;> omega) (by (try simp only [decide_eq_true_eq, decide_eq_false_iff_not] at *); first | exact (decide_eq_true (by omega)).symm | exact (decide_eq_false (by omega)).symm)), rfl⟩
      · refine TriL.skip rfl rfl (ltb rfl) rfl hg3 ?_
        refine TriL.skip rfl rfl (ltb rfl) rfl hg3 ?_
        refine TriL.c1 rfl (op_pickf (ltb rfl) rfl hg3 rfl) ?_
        refine TriL.c1 rfl (op_as (ltb rfl) rfl) ?_
        refine TriL.nil ?_
        refine Tri.condF rfl rfl ?_
        refine Tri.skip ?_
        refine Tri.seq ?_
        refine Tri.region ?_
        refine TriL.c1 rfl (op_as (ltb rfl) rfl) ?_
        refine TriL.c1 rfl (op_as (ltb rfl) rfl) ?_
        refine TriL.nil ?_
        refine Tri.ret ?_
        exact ⟨.inr rfl, (ResOK.r2 rfl (.tmp rfl (.tmp rfl .nil))).cast (by exact res_tup2 (by (try simp only [decide_eq_true_eq, decide_eq_false_iff_not] at *); (try simp (disch := omega) only [wr8, wr32, wr64]); unfold hexval; (repeat' split) <;> omega) (by (try simp only [decide_eq_true_eq, decide_eq_false_iff_not] at *); first | exact (decide_eq_true (by omega)).symm | exact (decide_eq_false (by omega)).symm)), rfl⟩
  · refine TriL.skip rfl rfl (ltb rfl) rfl hg1 ?_
    refine TriL.skip rfl rfl (ltb rfl) rfl hg1 ?_
    refine TriL.c1 rfl (op_pickf (ltb rfl) rfl hg1 rfl) ?_
    refine TriL.c1 rfl (op_as (ltb rfl) rfl) ?_
    refine TriL.nil ?_
    refine Tri.condF rfl rfl ?_
    refine Tri.seq ?_
    refine Tri.region ?_
    refine TriL.c1 rfl (op_mv (ltb rfl) rfl) ?_
    refine TriL.c1 rfl (op_bin (ltb rfl) rfl rfl rfl) ?_
    refine TriL.c1 rfl (op_mv (ltb rfl) rfl) ?_
    refine TriL.split (d := 17) rfl (fun hg5 => ?_) (fun hg5 => ?_)
    · refine TriL.g1 rfl (ltb rfl) rfl hg5 (op_mv (ltb rfl) rfl) ?_
      refine TriL.g1 rfl (ltb rfl) rfl hg5 (op_bin (ltb rfl) rfl rfl rfl) ?_
      refine TriL.c1 rfl (op_pickt (ltb rfl) rfl hg5 rfl) ?_
      refine TriL.c1 rfl (op_as (ltb rfl) rfl) ?_
      refine TriL.nil ?_
      refine Tri.cond rfl (fun hc6 => ?_) (fun hc6 => ?_)
      · refine Tri.seq ?_
        refine Tri.region ?_
        refine TriL.c1 rfl (op_mv (ltb rfl) rfl) ?_
        refine TriL.c1 rfl (op_bin (ltb rfl) rfl rfl rfl) ?_
        refine TriL.c1 rfl (op_cvi (ltb rfl) un21 un5 rfl) ?_
        refine TriL.c1 rfl (op_bin (ltb rfl) rfl rfl rfl) ?_
        refine TriL.c1 rfl (op_as (ltb rfl) rfl) ?_
        refine TriL.c1 rfl (op_as (ltb rfl) rfl) ?_
        refine TriL.nil ?_
        refine Tri.ret ?_
        exact ⟨.inr rfl, (ResOK.r2 rfl (.tmp rfl (.tmp rfl .nil))).cast (by exact res_tup2 (by (try simp only [decide_eq_true_eq, decide_eq_false_iff_not] at *); (try simp (disch := omega) only [wr8, wr32, wr64]); unfold hexval; (repeat' split) <;> omega) (by (try simp only [decide_eq_true_eq, decide_eq_false_iff_not] at *); first | exact (decide_eq_true (by omega)).symm | exact (decide_eq_false (by omega)).symm)), rfl⟩
      · refine Tri.skip ?_
        refine Tri.seq ?_
        refine Tri.region ?_
        refine TriL.c1 rfl (op_as (ltb rfl) rfl) ?_
        refine TriL.c1 rfl (op_as (ltb rfl) rfl) ?_
        refine TriL.nil ?_
        refine Tri.ret ?_
        exact ⟨.inr rfl, (ResOK.r2 rfl (.tmp rfl (.tmp rfl .nil))).cast (by exact res_tup2 (by (try simp only [decide_eq_true_eq, decide_eq_false_iff_not] at *); (try simp (disch := omega) only [wr8, wr32, wr64]); unfold hexval; (repeat' split) <;> omega) (by (try simp only [decide_eq_true_eq, decide_eq_false_iff_not] at *); first | exact (decide_eq_true (by omega)).symm | exact (decide_eq_false (by omega)).symm)), rfl⟩
    · refine TriL.skip rfl rfl (ltb rfl) rfl hg5 ?_
      refine TriL.skip rfl rfl (ltb rfl) rfl hg5 ?_
      refine TriL.c1 rfl (op_pickf (ltb rfl) rfl hg5 rfl) ?_
      refine TriL.c1 rfl (op_as (ltb rfl) rfl) ?_
      refine TriL.nil ?_
      refine Tri.condF rfl rfl ?_
      refine Tri.skip ?_
      refine Tri.seq ?_
      refine Tri.region ?_
      refine TriL.c1 rfl (op_as (ltb rfl) rfl) ?_
      refine TriL.c1 rfl (op_as (ltb rfl) rfl) ?_
      refine TriL.nil ?_
      refine Tri.ret ?_
      exact ⟨.inr rfl, (ResOK.r2 rfl (.tmp rfl (.tmp rfl .nil))).cast (by exact res_tup2 (by (try simp only [decide_eq_true_eq, decide_eq_false_iff_not] at *); (try simp (disch := omega) only [wr8, wr32, wr64]); unfold hexval; (repeat' split) <;> omega) (by (try simp only [decide_eq_true_eq, decide_eq_false_iff_not] at *); first | exact (decide_eq_true (by omega)).symm | exact (decide_eq_false (by omega)).symm)), rfl⟩
def refval (c : Int) : Int := if 48 ≤ c ∧ c ≤ 57 then c - 48 else if 97 ≤ c ∧ c ≤ 102 then c - 87 else -1
theorem refvalue_pure (c : Int) (h0 : 0 ≤ c) (h1 : c < 256) : Pure Try.prog 39 [.int .u8 c] (.int .i64 (refval c)) := by
  refine Pure.of_tri Try.func39 rfl rfl (ltb rfl) fun H => ?_
  refine Tri.seq ?_
  refine Tri.region ?_
  refine TriL.c1 rfl (op_as (ltb rfl) rfl) ?_
  refine TriL.nil ?_
  refine Tri.seq ?_
  refine Tri.seq ?_
  refine Tri.region ?_
  refine TriL.c1 rfl (op_mv (ltb rfl) rfl) ?_
  refine TriL.c1 rfl (op_bin (ltb rfl) rfl rfl rfl) ?_
  refine TriL.c1 rfl (op_mv (ltb rfl) rfl) ?_
  refine TriL.split (d := 5) rfl (fun hg1 => ?_) (fun hg1 => ?_)
  · refine TriL.g1 rfl (ltb rfl) rfl hg1 (op_mv (ltb rfl) rfl) ?_
    refine TriL.g1 rfl (ltb rfl) rfl hg1 (op_bin (ltb rfl) rfl rfl rfl) ?_
    refine TriL.c1 rfl (op_pickt (ltb rfl) rfl hg1 rfl) ?_
    refine TriL.nil ?_
    refine Tri.cond rfl (fun hc2 => ?_) (fun hc2 => ?_)
    · refine Tri.seq ?_
      refine Tri.region ?_
      refine TriL.c1 rfl (op_mv (ltb rfl) rfl) ?_
      refine TriL.c1 rfl (op_bin (ltb rfl) rfl rfl rfl) ?_
      refine TriL.c1 rfl (op_cvi (ltb rfl) un5 un3 rfl) ?_
      refine TriL.c1 rfl (op_as (ltb rfl) rfl) ?_
      refine TriL.nil ?_
      refine Tri.ret ?_
      exact ⟨.inr rfl, (ResOK.r1 rfl (.tmp rfl .nil)).cast (by refine res_i64 ?_; (try simp only [decide_eq_true_eq, decide_eq_false_iff_not] at *); (try simp (disch := omega) only [wr8, wr32, wr64]); unfold refval; (repeat' split) <;> omega), rfl⟩
    · refine Tri.skip ?_
      refine Tri.seq ?_
      refine Tri.seq ?_
      refine Tri.region ?_
      refine TriL.c1 rfl (op_mv (ltb rfl) rfl) ?_
      refine TriL.c1 rfl (op_bin (ltb rfl) rfl rfl rfl) ?_
      refine TriL.c1 rfl (op_mv (ltb rfl) rfl) ?_
      refine TriL.split (d := 14) rfl (fun hg3 => ?_) (fun hg3 => ?_)
      · refine TriL.g1 rfl (ltb rfl) rfl hg3 (op_mv (ltb rfl) rfl) ?_
        refine TriL.g1 rfl (ltb rfl) rfl hg3 (op_bin (ltb rfl) rfl rfl rfl) ?_
        refine TriL.c1 rfl (op_pickt (ltb rfl) rfl hg3 rfl) ?_
        refine TriL.nil ?_
        refine Tri.cond rfl (fun hc4 => ?_) (fun hc4 => ?_)
        · refine Tri.seq ?_
          refine Tri.region ?_
          refine TriL.c1 rfl (op_mv (ltb rfl) rfl) ?_
          refine TriL.c1 rfl (op_bin (ltb rfl) rfl rfl rfl) ?_
          refine TriL.c1 rfl (op_cvi (ltb rfl) un5 un3 rfl) ?_
          refine TriL.c1 rfl (op_bin (ltb rfl) rfl rfl rfl) ?_
          refine TriL.c1 rfl (op_as (ltb rfl) rfl) ?_
          refine TriL.nil ?_
          refine Tri.ret ?_
          exact ⟨.inr rfl, (ResOK.r1 rfl (.tmp rfl .nil)).cast (by refine res_i64 ?_; (try simp only [decide_eq_true_eq, decide_eq_false_iff_not] at *); (try simp (disch := omega) only [wr8, wr32, wr64]); unfold refval; (repeat' split) <;> omega), rfl⟩
        · refine Tri.skip ?_
          refine Tri.seq ?_
          refine Tri.region ?_
          refine TriL.c1 rfl (op_as (ltb rfl) rfl) ?_
          refine TriL.nil ?_
          refine Tri.ret ?_
          exact ⟨.inr rfl, (ResOK.r1 rfl (.tmp rfl .nil)).cast (by refine res_i64 ?_; (try simp only [decide_eq_true_eq, decide_eq_false_iff_not] at *); (try simp (disch := omega) only [wr8, wr32, wr64]); unfold refval; (repeat' split) <;> omega), rfl⟩
      · refine TriL.skip rfl rfl (ltb rfl) rfl hg3 ?_
        refine TriL.skip rfl rfl (ltb rfl) rfl hg3 ?_
        refine TriL.c1 rfl (op_pickf (ltb rfl) rfl hg3 rfl) ?_
        refine TriL.nil ?_
        refine Tri.condF rfl rfl ?_
        refine Tri.skip ?_
        refine Tri.seq ?_
        refine Tri.region ?_
        refine TriL.c1 rfl (op_as (ltb rfl) rfl) ?_
        refine TriL.nil ?_
        refine Tri.ret ?_
        exact ⟨.inr rfl, (ResOK.r1 rfl (.tmp rfl .nil)).cast (by refine res_i64 ?_; (try simp only [decide_eq_true_eq, decide_eq_false_iff_not] at *); (try simp (disch := omega) only [wr8, wr32, wr64]); unfold refval; (repeat' split) <;> omega), rfl⟩
  · refine TriL.skip rfl rfl (ltb rfl) rfl hg1 ?_
    refine TriL.skip rfl rfl (ltb rfl) rfl hg1 ?_
    refine TriL.c1 rfl (op_pickf (ltb rfl) rfl hg1 rfl) ?_
    refine TriL.nil ?_
    refine Tri.condF rfl rfl ?_
    refine Tri.skip ?_
    refine Tri.seq ?_
    refine Tri.seq ?_
    refine Tri.region ?_
    refine TriL.c1 rfl (op_mv (ltb rfl) rfl) ?_
    refine TriL.c1 rfl (op_bin (ltb rfl) rfl rfl rfl) ?_
    refine TriL.c1 rfl (op_mv (ltb rfl) rfl) ?_
    refine TriL.split (d := 14) rfl (fun hg5 => ?_) (fun hg5 => ?_)
    · refine TriL.g1 rfl (ltb rfl) rfl hg5 (op_mv (ltb rfl) rfl) ?_
      refine TriL.g1 rfl (ltb rfl) rfl hg5 (op_bin (ltb rfl) rfl rfl rfl) ?_
      refine TriL.c1 rfl (op_pickt (ltb rfl) rfl hg5 rfl) ?_
      refine TriL.nil ?_
      refine Tri.cond rfl (fun hc6 => ?_) (fun hc6 => ?_)
      · refine Tri.seq ?_
        refine Tri.region ?_
        refine TriL.c1 rfl (op_mv (ltb rfl) rfl) ?_
        refine TriL.c1 rfl (op_bin (ltb rfl) rfl rfl rfl) ?_
        refine TriL.c1 rfl (op_cvi (ltb rfl) un5 un3 rfl) ?_
        refine TriL.c1 rfl (op_bin (ltb rfl) rfl rfl rfl) ?_
        refine TriL.c1 rfl (op_as (ltb rfl) rfl) ?_
        refine TriL.nil ?_
        refine Tri.ret ?_
        exact ⟨.inr rfl, (ResOK.r1 rfl (.tmp rfl .nil)).cast (by refine res_i64 ?_; (try simp only [decide_eq_true_eq, decide_eq_false_iff_not] at *); (try simp (disch := omega) only [wr8, wr32, wr64]); unfold refval; (repeat' split) <;> omega), rfl⟩
      · refine Tri.skip ?_
        refine Tri.seq ?_
        refine Tri.region ?_
        refine TriL.c1 rfl (op_as (ltb rfl) rfl) ?_
        refine TriL.nil ?_
        refine Tri.ret ?_
        exact ⟨.inr rfl, (ResOK.r1 rfl (.tmp rfl .nil)).cast (by refine res_i64 ?_; (try simp only [decide_eq_true_eq, decide_eq_false_iff_not] at *); (try simp (disch := omega) only [wr8, wr32, wr64]); unfold refval; (repeat' split) <;> omega), rfl⟩
    · refine TriL.skip rfl rfl (ltb rfl) rfl hg5 ?_
      refine TriL.skip rfl rfl (ltb rfl) rfl hg5 ?_
      refine TriL.c1 rfl (op_pickf (ltb rfl) rfl hg5 rfl) ?_
      refine TriL.nil ?_
      refine Tri.condF rfl rfl ?_
      refine Tri.skip ?_
      refine Tri.seq ?_
      refine Tri.region ?_
      refine TriL.c1 rfl (op_as (ltb rfl) rfl) ?_
      refine TriL.nil ?_
      refine Tri.ret ?_
      exact ⟨.inr rfl, (ResOK.r1 rfl (.tmp rfl .nil)).cast (by refine res_i64 ?_; (try simp only [decide_eq_true_eq, decide_eq_false_iff_not] at *); (try simp (disch := omega) only [wr8, wr32, wr64]); unfold refval; (repeat' split) <;> omega), rfl⟩
theorem hexd_num {n : Nat} (h : n < 16) : ((hexd n).toNat : Int) = if (n : Int) < 10 then 48 + (n : Int) else 87 + (n : Int) := by
  have : ∀ m : Fin 16, ((hexd m.val).toNat : Int) = if (m.val : Int) < 10 then 48 + (m.val : Int) else 87 + (m.val : Int) := by decide
  exact this ⟨n, h⟩
theorem refdigit_pure {m : Int} (n : Nat) (e : m = n) (h : n < 16) : Pure Try.prog 38 [.int .i64 m] (.int .u8 (hexd n).toNat) := by
  subst e
  refine Pure.of_tri Try.func38 rfl rfl (ltb rfl) fun H => ?_
  refine Tri.seq ?_
  refine Tri.region ?_
  refine TriL.c1 rfl (op_as (ltb rfl) rfl) ?_
  refine TriL.nil ?_
  refine Tri.seq ?_
  refine Tri.seq ?_
  refine Tri.region ?_
  refine TriL.c1 rfl (op_mv (ltb rfl) rfl) ?_
  refine TriL.c1 rfl (op_bin (ltb rfl) rfl rfl rfl) ?_
  refine TriL.nil ?_
  refine Tri.cond rfl (fun hc1 => ?_) (fun hc1 => ?_)
  · refine Tri.seq ?_
    refine Tri.region ?_
    refine TriL.c1 rfl (op_mv (ltb rfl) rfl) ?_
    refine TriL.c1 rfl (op_bin (ltb rfl) rfl rfl rfl) ?_
    refine TriL.c1 rfl (op_cvi (ltb rfl) un3 un5 rfl) ?_
    refine TriL.c1 rfl (op_as (ltb rfl) rfl) ?_
    refine TriL.nil ?_
    refine Tri.ret ?_
    exact ⟨.inr rfl, (ResOK.r1 rfl (.tmp rfl .nil)).cast (by rw [hexd_num h]; refine res_u8 ?_; (try simp only [decide_eq_true_eq, decide_eq_false_iff_not] at *); (try simp (disch := omega) only [wr8, wr32, wr64]); split <;> omega), rfl⟩
  · refine Tri.skip ?_
    refine Tri.seq ?_
    refine Tri.region ?_
    refine TriL.c1 rfl (op_mv (ltb rfl) rfl) ?_
    refine TriL.c1 rfl (op_bin (ltb rfl) rfl rfl rfl) ?_
    refine TriL.c1 rfl (op_bin (ltb rfl) rfl rfl rfl) ?_
    refine TriL.c1 rfl (op_cvi (ltb rfl) un3 un5 rfl) ?_
    refine TriL.c1 rfl (op_as (ltb rfl) rfl) ?_
    refine TriL.nil ?_
    refine Tri.ret ?_
    exact ⟨.inr rfl, (ResOK.r1 rfl (.tmp rfl .nil)).cast (by rw [hexd_num h]; refine res_u8 ?_; (try simp only [decide_eq_true_eq, decide_eq_false_iff_not] at *); (try simp (disch := omega) only [wr8, wr32, wr64]); split <;> omega), rfl⟩
theorem bytes_pure (l m : List UInt8) : Pure Try.prog 13 [.sl (bsl l), .sl (bsl m)] (.bool (l == m)) := by
  refine Pure.of_tri Try.func13 rfl rfl (ltb rfl) fun H => ?_
  refine Tri.seq ?_
  refine Tri.region ?_
  refine TriL.c1 rfl (op_as (ltb rfl) rfl) ?_
  refine TriL.nil ?_
  refine Tri.seq ?_
  refine Tri.region ?_
  refine TriL.c1 rfl (op_mv (ltb rfl) rfl) ?_
  refine TriL.c1 rfl (op_b2s (ltb rfl) un22 unel22 un9 rfl (bytesOf_bsl _)) ?_
  refine TriL.c1 rfl (op_mv (ltb rfl) rfl) ?_
  refine TriL.c1 rfl (op_b2s (ltb rfl) un22 unel22 un9 rfl (bytesOf_bsl _)) ?_
  refine TriL.c1 rfl (op_bin (ltb rfl) rfl rfl rfl) ?_
  refine TriL.c1 rfl (op_as (ltb rfl) rfl) ?_
  refine TriL.nil ?_
  refine Tri.ret ?_
  exact ⟨.inr rfl, (ResOK.r1 rfl (.tmp rfl .nil)).cast (by rfl), rfl⟩
theorem live_pure : Pure Try.prog 10 [] (.bool true) := by
  refine Pure.of_tri Try.func10 rfl rfl (Nat.zero_le _) fun H => ?_
  refine Tri.seq ?_
  refine Tri.region ?_
  refine TriL.c1 rfl (op_as (ltb rfl) rfl) ?_
  refine TriL.nil ?_
  refine Tri.seq ?_
  refine Tri.region ?_
  refine TriL.c1 rfl (op_lit («as» := [_, _]) (ltb rfl) se22 zAe22 rfl rfl rfl (leb rfl)) ?_
  refine TriL.c1 rfl (op_call (ltb rfl) fn9 rfl (put_pure [1, 255] (by decide))) ?_
  refine TriL.c1 rfl (op_bin (ltb rfl) rfl rfl rfl) ?_
  refine TriL.c1 rfl (op_as (ltb rfl) rfl) ?_
  refine TriL.nil ?_
  refine Tri.ret ?_
  exact ⟨.inr rfl, (ResOK.r1 rfl (.tmp rfl .nil)).cast (by exact res_bool (by decide)), rfl⟩
end Go.Proofs.Ytecjdohpfijmpaa.X
