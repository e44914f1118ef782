/- The reference's tags and numbers: Right, Split, Get. -/
import Derived.Test.YtecjdohpfijmpaaE15
import Derived.Test.YtecjdohpfijmpaaXM
set_option linter.unusedVariables false
set_option linter.unusedSimpArgs false
namespace Go.Proofs.Ytecjdohpfijmpaa.X
open Go Go.RowKit Go.Proofs
theorem fn60 : isFn Try.prog 60 = true := by kernel_rfl
theorem beq_eq_decide_of {a b : Int} {p : Prop} [Decidable p] (h : a = b ↔ p) : (a == b) = decide p := by
  by_cases hp : p
  · rw [decide_eq_true hp]; exact beq_iff_eq.2 (h.2 hp)
  · rw [decide_eq_false hp]; exact beq_eq_false_iff_ne.2 (fun e => hp (h.1 e))
theorem right4_pure (n w : Int) : Pure Try.prog 60 [.int .i64 n, .int .i64 w] (.bool (rightok n w)) := by
  refine Pure.of_tri Try.func60 rfl rfl (ltb rfl) fun H => ?_
  refine Tri.seq ?_
  refine Tri.region ?_
  refine TriL.c1 rfl (op_as (ltb rfl) rfl) ?_
  refine TriL.nil ?_
  refine Tri.seq ?_
  refine Tri.region ?_
  refine TriL.c1 rfl (op_mv (ltb rfl) rfl) ?_
  refine TriL.c1 rfl (op_bin (ltb rfl) rfl rfl rfl) ?_
  refine TriL.c1 rfl (op_mv (ltb rfl) rfl) ?_
  refine TriL.split (d := 7) rfl (fun hg1 => ?_) (fun hg1 => ?_)
  · refine TriL.g1 rfl (ltb rfl) rfl hg1 (op_mv (ltb rfl) rfl) ?_
    refine TriL.g1 rfl (ltb rfl) rfl hg1 (op_bin (ltb rfl) rfl rfl rfl) ?_
    refine TriL.c1 rfl (op_pickt (ltb rfl) rfl hg1 rfl) ?_
    refine TriL.c1 rfl (op_mv (ltb rfl) rfl) ?_
    refine TriL.split (d := 11) rfl (fun hg2 => ?_) (fun hg2 => ?_)
    · refine TriL.g1 rfl (ltb rfl) rfl hg2 (op_mv (ltb rfl) rfl) ?_
      refine TriL.g1 rfl (ltb rfl) rfl hg2 (op_bin (ltb rfl) rfl rfl rfl) ?_
      refine TriL.g1 rfl (ltb rfl) rfl hg2 (op_mv (ltb rfl) rfl) ?_
      refine TriL.split (d := 14) rfl (fun hg3 => ?_) (fun hg3 => ?_)
      · refine TriL.skipu rfl rfl (ltb rfl) (ltb rfl) rfl hg3 ?_
        refine TriL.skipu rfl rfl (ltb rfl) (ltb rfl) rfl hg3 ?_
        refine TriL.g1 rfl (ltb rfl) rfl hg2 (op_pickt (ltb rfl) rfl hg3 rfl) ?_
        refine TriL.g1 rfl (ltb rfl) rfl hg2 (op_mv (ltb rfl) rfl) ?_
        refine TriL.skipu rfl rfl (ltb rfl) (ltb rfl) rfl rfl ?_
        refine TriL.skipu rfl rfl (ltb rfl) (ltb rfl) rfl rfl ?_
        refine TriL.g1 rfl (ltb rfl) rfl hg2 (op_pickt (ltb rfl) rfl rfl rfl) ?_
        refine TriL.g1 rfl (ltb rfl) rfl hg2 (op_mv (ltb rfl) rfl) ?_
        refine TriL.skipu rfl rfl (ltb rfl) (ltb rfl) rfl rfl ?_
        refine TriL.skipu rfl rfl (ltb rfl) (ltb rfl) rfl rfl ?_
        refine TriL.g1 rfl (ltb rfl) rfl hg2 (op_pickt (ltb rfl) rfl rfl rfl) ?_
        refine TriL.c1 rfl (op_pickt (ltb rfl) rfl hg2 rfl) ?_
        refine TriL.c1 rfl (op_as (ltb rfl) rfl) ?_
        refine TriL.nil ?_
        refine Tri.ret ?_
        exact ⟨.inr rfl, (ResOK.r1 rfl (.tmp rfl .nil)).cast (congrArg AV.bool (by (try simp only [decide_eq_true_eq, decide_eq_false_iff_not, beq_iff_eq, beq_eq_false_iff_ne, ne_eq] at *); (try simp only [rightok]); first | exact beq_eq_decide_of (by omega) | exact decide_eq_decide.2 (by omega) | exact (decide_eq_true (by omega)).symm | exact (decide_eq_false (by omega)).symm)), rfl⟩
      · refine TriL.g1 rfl (ltb rfl) rfl hg3 (op_mv (ltb rfl) rfl) ?_
        refine TriL.g1 rfl (ltb rfl) rfl hg3 (op_bin (ltb rfl) rfl rfl rfl) ?_
        refine TriL.g1 rfl (ltb rfl) rfl hg2 (op_pickf (ltb rfl) rfl hg3 rfl) ?_
        refine TriL.g1 rfl (ltb rfl) rfl hg2 (op_mv (ltb rfl) rfl) ?_
        refine TriL.split (d := 18) rfl (fun hg4 => ?_) (fun hg4 => ?_)
        · refine TriL.skipu rfl rfl (ltb rfl) (ltb rfl) rfl hg4 ?_
          refine TriL.skipu rfl rfl (ltb rfl) (ltb rfl) rfl hg4 ?_
          refine TriL.g1 rfl (ltb rfl) rfl hg2 (op_pickt (ltb rfl) rfl hg4 rfl) ?_
          refine TriL.g1 rfl (ltb rfl) rfl hg2 (op_mv (ltb rfl) rfl) ?_
          refine TriL.skipu rfl rfl (ltb rfl) (ltb rfl) rfl rfl ?_
          refine TriL.skipu rfl rfl (ltb rfl) (ltb rfl) rfl rfl ?_
          refine TriL.g1 rfl (ltb rfl) rfl hg2 (op_pickt (ltb rfl) rfl rfl rfl) ?_
          refine TriL.c1 rfl (op_pickt (ltb rfl) rfl hg2 rfl) ?_
          refine TriL.c1 rfl (op_as (ltb rfl) rfl) ?_
          refine TriL.nil ?_
          refine Tri.ret ?_
          exact ⟨.inr rfl, (ResOK.r1 rfl (.tmp rfl .nil)).cast (congrArg AV.bool (by (try simp only [decide_eq_true_eq, decide_eq_false_iff_not, beq_iff_eq, beq_eq_false_iff_ne, ne_eq] at *); (try simp only [rightok]); first | exact beq_eq_decide_of (by omega) | exact decide_eq_decide.2 (by omega) | exact (decide_eq_true (by omega)).symm | exact (decide_eq_false (by omega)).symm)), rfl⟩
        · refine TriL.g1 rfl (ltb rfl) rfl hg4 (op_mv (ltb rfl) rfl) ?_
          refine TriL.g1 rfl (ltb rfl) rfl hg4 (op_bin (ltb rfl) rfl rfl rfl) ?_
          refine TriL.g1 rfl (ltb rfl) rfl hg2 (op_pickf (ltb rfl) rfl hg4 rfl) ?_
          refine TriL.g1 rfl (ltb rfl) rfl hg2 (op_mv (ltb rfl) rfl) ?_
          refine TriL.split (d := 22) rfl (fun hg5 => ?_) (fun hg5 => ?_)
          · refine TriL.skipu rfl rfl (ltb rfl) (ltb rfl) rfl hg5 ?_
            refine TriL.skipu rfl rfl (ltb rfl) (ltb rfl) rfl hg5 ?_
            refine TriL.g1 rfl (ltb rfl) rfl hg2 (op_pickt (ltb rfl) rfl hg5 rfl) ?_
            refine TriL.c1 rfl (op_pickt (ltb rfl) rfl hg2 rfl) ?_
            refine TriL.c1 rfl (op_as (ltb rfl) rfl) ?_
            refine TriL.nil ?_
            refine Tri.ret ?_
            exact ⟨.inr rfl, (ResOK.r1 rfl (.tmp rfl .nil)).cast (congrArg AV.bool (by (try simp only [decide_eq_true_eq, decide_eq_false_iff_not, beq_iff_eq, beq_eq_false_iff_ne, ne_eq] at *); (try simp only [rightok]); first | exact beq_eq_decide_of (by omega) | exact decide_eq_decide.2 (by omega) | exact (decide_eq_true (by omega)).symm | exact (decide_eq_false (by omega)).symm)), rfl⟩
          · refine TriL.g1 rfl (ltb rfl) rfl hg5 (op_mv (ltb rfl) rfl) ?_
            refine TriL.g1 rfl (ltb rfl) rfl hg5 (op_bin (ltb rfl) rfl rfl rfl) ?_
            refine TriL.g1 rfl (ltb rfl) rfl hg2 (op_pickf (ltb rfl) rfl hg5 rfl) ?_
            refine TriL.c1 rfl (op_pickt (ltb rfl) rfl hg2 rfl) ?_
            refine TriL.c1 rfl (op_as (ltb rfl) rfl) ?_
            refine TriL.nil ?_
            refine Tri.ret ?_
            exact ⟨.inr rfl, (ResOK.r1 rfl (.tmp rfl .nil)).cast (congrArg AV.bool (by (try simp only [decide_eq_true_eq, decide_eq_false_iff_not, beq_iff_eq, beq_eq_false_iff_ne, ne_eq] at *); (try simp only [rightok]); first | exact beq_eq_decide_of (by omega) | exact decide_eq_decide.2 (by omega) | exact (decide_eq_true (by omega)).symm | exact (decide_eq_false (by omega)).symm)), rfl⟩
    · refine TriL.skipu rfl rfl (ltb rfl) (ltb rfl) rfl hg2 ?_
      refine TriL.skipu rfl rfl (ltb rfl) (ltb rfl) rfl hg2 ?_
      refine TriL.skipu rfl rfl (ltb rfl) (ltb rfl) rfl hg2 ?_
      refine TriL.skipg rfl rfl (ltb rfl) (ltb rfl) rfl ?_
      refine TriL.skipg rfl rfl (ltb rfl) (ltb rfl) rfl ?_
      refine TriL.skipu rfl rfl (ltb rfl) (ltb rfl) rfl hg2 ?_
      refine TriL.skipu rfl rfl (ltb rfl) (ltb rfl) rfl hg2 ?_
      refine TriL.skipg rfl rfl (ltb rfl) (ltb rfl) rfl ?_
      refine TriL.skipg rfl rfl (ltb rfl) (ltb rfl) rfl ?_
      refine TriL.skipu rfl rfl (ltb rfl) (ltb rfl) rfl hg2 ?_
      refine TriL.skipu rfl rfl (ltb rfl) (ltb rfl) rfl hg2 ?_
      refine TriL.skipg rfl rfl (ltb rfl) (ltb rfl) rfl ?_
      refine TriL.skipg rfl rfl (ltb rfl) (ltb rfl) rfl ?_
      refine TriL.skipu rfl rfl (ltb rfl) (ltb rfl) rfl hg2 ?_
      refine TriL.c1 rfl (op_pickf (ltb rfl) rfl hg2 rfl) ?_
      refine TriL.c1 rfl (op_as (ltb rfl) rfl) ?_
      refine TriL.nil ?_
      refine Tri.ret ?_
      exact ⟨.inr rfl, (ResOK.r1 rfl (.tmp rfl .nil)).cast (congrArg AV.bool (by (try simp only [decide_eq_true_eq, decide_eq_false_iff_not, beq_iff_eq, beq_eq_false_iff_ne, ne_eq] at *); (try simp only [rightok]); first | exact beq_eq_decide_of (by omega) | exact decide_eq_decide.2 (by omega) | exact (decide_eq_true (by omega)).symm | exact (decide_eq_false (by omega)).symm)), rfl⟩
  · refine TriL.skipu rfl rfl (ltb rfl) (ltb rfl) rfl hg1 ?_
    refine TriL.skipu rfl rfl (ltb rfl) (ltb rfl) rfl hg1 ?_
    refine TriL.c1 rfl (op_pickf (ltb rfl) rfl hg1 rfl) ?_
    refine TriL.c1 rfl (op_mv (ltb rfl) rfl) ?_
    refine TriL.skipu rfl rfl (ltb rfl) (ltb rfl) rfl rfl ?_
    refine TriL.skipu rfl rfl (ltb rfl) (ltb rfl) rfl rfl ?_
    refine TriL.skipu rfl rfl (ltb rfl) (ltb rfl) rfl rfl ?_
    refine TriL.skipg rfl rfl (ltb rfl) (ltb rfl) rfl ?_
    refine TriL.skipg rfl rfl (ltb rfl) (ltb rfl) rfl ?_
    refine TriL.skipu rfl rfl (ltb rfl) (ltb rfl) rfl rfl ?_
    refine TriL.skipu rfl rfl (ltb rfl) (ltb rfl) rfl rfl ?_
    refine TriL.skipg rfl rfl (ltb rfl) (ltb rfl) rfl ?_
    refine TriL.skipg rfl rfl (ltb rfl) (ltb rfl) rfl ?_
    refine TriL.skipu rfl rfl (ltb rfl) (ltb rfl) rfl rfl ?_
    refine TriL.skipu rfl rfl (ltb rfl) (ltb rfl) rfl rfl ?_
    refine TriL.skipg rfl rfl (ltb rfl) (ltb rfl) rfl ?_
    refine TriL.skipg rfl rfl (ltb rfl) (ltb rfl) rfl ?_
    refine TriL.skipu rfl rfl (ltb rfl) (ltb rfl) rfl rfl ?_
    refine TriL.c1 rfl (op_pickf (ltb rfl) rfl rfl rfl) ?_
    refine TriL.c1 rfl (op_as (ltb rfl) rfl) ?_
    refine TriL.nil ?_
    refine Tri.ret ?_
    exact ⟨.inr rfl, (ResOK.r1 rfl (.tmp rfl .nil)).cast (congrArg AV.bool (by (try simp only [decide_eq_true_eq, decide_eq_false_iff_not, beq_iff_eq, beq_eq_false_iff_ne, ne_eq] at *); (try simp only [rightok]); first | exact beq_eq_decide_of (by omega) | exact decide_eq_decide.2 (by omega) | exact (decide_eq_true (by omega)).symm | exact (decide_eq_false (by omega)).symm)), rfl⟩
theorem split_ok (u : Nat) (h : rightok ((u / 8 : Nat) : Int) ((u % 8 : Nat) : Int) = true) : Pure Try.prog 47 [.int .u64 (u : Int)] (.tup [.int .i64 ((u / 8 : Nat) : Int), .int .i64 ((u % 8 : Nat) : Int), .bool true]) := by
  have hq := of_decide_eq_true h
  have e1 : IntKind.u64.wrap ((u : Int).tdiv 8) = ((u / 8 : Nat) : Int) := by rw [Int.tdiv_eq_ediv_of_nonneg (by omega), wru64 (by omega) (by omega)]; omega
  have e2 : (u : Int).tmod 8 = ((u % 8 : Nat) : Int) := by rw [Int.tmod_eq_emod_of_nonneg (by omega)]; omega
  refine Pure.of_tri Try.func47 rfl rfl (ltb rfl) fun H => ?_
  refine Tri.seq ?_
  refine Tri.region ?_
  refine TriL.c1 rfl (op_as (ltb rfl) rfl) ?_
  refine TriL.c1 rfl (op_as (ltb rfl) rfl) ?_
  refine TriL.c1 rfl (op_as (ltb rfl) rfl) ?_
  refine TriL.nil ?_
  refine Tri.seq ?_
  refine Tri.seq ?_
  refine Tri.region ?_
  refine TriL.c1 rfl (op_mv (ltb rfl) rfl) ?_
  refine TriL.c1 rfl (op_bin (ltb rfl) rfl rfl rfl) ?_
  refine TriL.c1 rfl (op_bin (ltb rfl) rfl rfl rfl) ?_
  refine TriL.c1 rfl (op_mv (ltb rfl) rfl) ?_
  refine TriL.g1 rfl (ltb rfl) rfl (by rw [e1]; exact decide_eq_false (by omega)) (op_mv (ltb rfl) rfl) ?_
  refine TriL.g1 rfl (ltb rfl) rfl (by rw [e1]; exact decide_eq_false (by omega)) (op_bin (ltb rfl) rfl rfl rfl) ?_
  refine TriL.g1 rfl (ltb rfl) rfl (by rw [e1]; exact decide_eq_false (by omega)) (op_cvi (ltb rfl) un50 un3 rfl) ?_
  refine TriL.g1 rfl (ltb rfl) rfl (by rw [e1]; exact decide_eq_false (by omega)) (op_mv (ltb rfl) rfl) ?_
  refine TriL.g1 rfl (ltb rfl) rfl (by rw [e1]; exact decide_eq_false (by omega)) (op_bin (ltb rfl) rfl rfl rfl) ?_
  refine TriL.g1 rfl (ltb rfl) rfl (by rw [e1]; exact decide_eq_false (by omega)) (op_cvi (ltb rfl) un50 un3 rfl) ?_
  refine TriL.g1 rfl (ltb rfl) rfl (by rw [e1]; exact decide_eq_false (by omega)) (op_call (ltb rfl) fn60 rfl (right4_pure _ _)) ?_
  refine TriL.g1 rfl (ltb rfl) rfl (by rw [e1]; exact decide_eq_false (by omega)) (op_un (ltb rfl) rfl rfl) ?_
  refine TriL.c1 rfl (op_pickf (ltb rfl) rfl (by rw [e1]; exact decide_eq_false (by omega)) rfl) ?_
  refine TriL.nil ?_
  refine Tri.condF rfl (by rw [e1, e2, wr64 (n := ((u / 8 : Nat) : Int)) (by omega) (by omega), wr64 (n := ((u % 8 : Nat) : Int)) (by omega) (by omega), h]; rfl) ?_
  refine Tri.skip ?_
  refine Tri.seq ?_
  refine Tri.region ?_
  refine TriL.c1 rfl (op_mv (ltb rfl) rfl) ?_
  refine TriL.c1 rfl (op_bin (ltb rfl) rfl rfl rfl) ?_
  refine TriL.c1 rfl (op_cvi (ltb rfl) un50 un3 rfl) ?_
  refine TriL.c1 rfl (op_mv (ltb rfl) rfl) ?_
  refine TriL.c1 rfl (op_bin (ltb rfl) rfl rfl rfl) ?_
  refine TriL.c1 rfl (op_cvi (ltb rfl) un50 un3 rfl) ?_
  refine TriL.c1 rfl (op_as (ltb rfl) rfl) ?_
  refine TriL.c1 rfl (op_as (ltb rfl) rfl) ?_
  refine TriL.c1 rfl (op_as (ltb rfl) rfl) ?_
  refine TriL.nil ?_
  refine Tri.ret ?_
  exact ⟨.inr rfl, (ResOK.r3 rfl (.tmp rfl (.tmp rfl (.tmp rfl .nil)))).cast (by rw [e1, e2, wr64 (n := ((u / 8 : Nat) : Int)) (by omega) (by omega), wr64 (n := ((u % 8 : Nat) : Int)) (by omega) (by omega)]), rfl⟩
/-- the number that bytes begin with, and how many bytes it has: from the place i on, 'n' so far, the next bits worth 'm' -/
def vgetA : Nat → List UInt8 → Nat → Nat → Nat → Nat × Nat
  | 0, _, _, _, _ => (0, 0)
  | _ + 1, [], _, _, _ => (0, 0)
  | k + 1, c :: r, i, n, m => if k = 0 ∧ 1 < c.toNat then (0, 0) else if c.toNat < 128 then ((n + c.toNat % 128 * m % 18446744073709551616) % 18446744073709551616, i + 1) else vgetA k r (i + 1) ((n + c.toNat % 128 * m % 18446744073709551616) % 18446744073709551616) (m * 128 % 18446744073709551616)
def vget (b : List UInt8) : Nat × Nat := vgetA 10 b 0 0 1
theorem vgetA_put : ∀ (x k : Nat) (r : List UInt8) (i n m : Nat), n + x * m < 18446744073709551616 → 1 ≤ m → (k = 0 → m = 9223372036854775808) → m * 128 ^ k = 9223372036854775808 → vgetA (k + 1) (vput x ++ r) i n m = (n + x * m, i + (vput x).length) := by
  intro x
  induction x using Nat.strongRecOn with
  | _ x ih =>
    intro k r i n m h hm hk0 hk
    by_cases hx : x < 128
    · have hc : (UInt8.ofNat x).toNat = x := by rw [UInt8.toNat_ofNat_of_lt' (by simp [UInt8.size]; omega)]
      have h1 : ¬ (k = 0 ∧ 1 < (UInt8.ofNat x).toNat) := by
        rintro ⟨h1, h2⟩
        have := hk0 h1
        rw [hc] at h2; subst this; omega
      have hxm : x * m < 18446744073709551616 := by omega
      rw [vput_lo hx, List.cons_append, List.nil_append, vgetA, if_neg h1, if_pos (by rw [hc]; exact hx), hc, Nat.mod_eq_of_lt hx, Nat.mod_eq_of_lt hxm, Nat.mod_eq_of_lt h]
      rfl
    · have hc : (UInt8.ofNat (x % 128 + 128)).toNat = x % 128 + 128 := by rw [UInt8.toNat_ofNat_of_lt' (by simp [UInt8.size]; omega)]
      have hk1 : k ≠ 0 := by
        intro e
        have := hk0 e
        subst this; omega
      have hmod : (x % 128 + 128) % 128 = x % 128 := by omega
      have hsum : x * m = x % 128 * m + x / 128 * (m * 128) := by
        rw [show x / 128 * (m * 128) = (x / 128 * 128) * m by rw [Nat.mul_comm m 128, ← Nat.mul_assoc], ← Nat.add_mul]
        congr 1; omega
      have hm2 : m * 128 < 18446744073709551616 := by
        have : m * 128 ≤ x * m := by rw [Nat.mul_comm x m]; exact Nat.mul_le_mul_left _ (by omega)
        omega
      have hp : x % 128 * m < 18446744073709551616 := by omega
      have hn : n + x % 128 * m < 18446744073709551616 := by omega
      obtain ⟨k', rfl⟩ : ∃ k', k = k' + 1 := ⟨k - 1, by omega⟩
      rw [vput_hi hx, List.cons_append, vgetA, if_neg (fun e => hk1 e.1), if_neg (by rw [hc]; omega), hc, hmod, Nat.mod_eq_of_lt hp, Nat.mod_eq_of_lt hn, Nat.mod_eq_of_lt hm2]
      have hk2 : m * 128 * 128 ^ k' = 9223372036854775808 := by rw [← hk, Nat.pow_succ, Nat.mul_assoc, Nat.mul_comm 128]
      rw [ih (x / 128) (by omega) k' r (i + 1) _ (m * 128) (by omega) (by omega) (fun e => by subst e; simpa using hk2) hk2, List.length_cons]
      congr 1
      · omega
      · omega
theorem vget_put (x : Nat) (r : List UInt8) (h : x < 18446744073709551616) : vget (vput x ++ r) = (x, (vput x).length) := by
  rw [vget, vgetA_put x 9 r 0 0 1 (by omega) (by omega) (by omega) (by decide)]; simp
def StG (H : Hp) (b : List UInt8) (n m i : Nat) (j : Int) : St := [(.h, .hp H), (.s 0, .sv (.v (.sl (bsl b)))), (.s 4, .sv (.v (.int .u64 (n : Int)))), (.s 5, .sv (.v (.int .u64 (m : Int)))), (.s 6, .sv (.v (.int .i64 j)))]
theorem getw (c : UInt8) (n m : Nat) : IntKind.u64.wrap ((n : Int) + IntKind.u64.wrap (IntKind.u64.wrap (((c.toNat : Nat) : Int).tmod 128) * (m : Int))) = (((n + c.toNat % 128 * m % 18446744073709551616) % 18446744073709551616 : Nat) : Int) := by
  have e : ((c.toNat : Nat) : Int).tmod 128 = ((c.toNat % 128 : Nat) : Int) := by rw [Int.tmod_eq_emod_of_nonneg (by omega)]; omega
  rw [e, wru64 (n := ((c.toNat % 128 : Nat) : Int)) (by omega) (by omega), ← Int.natCast_mul, wru64_mod, ← Int.natCast_add, wru64_mod]
theorem getm (m : Nat) : IntKind.u64.wrap ((m : Int) * 128) = ((m * 128 % 18446744073709551616 : Nat) : Int) := by
  rw [show ((m : Int) * 128) = ((m * 128 : Nat) : Int) by rw [Int.natCast_mul]; rfl, wru64_mod]
theorem tup2 {a b c d : AV} (h : a = c) (k : b = d) : AV.tup [a, b] = AV.tup [c, d] := by rw [h, k]
theorem get1_pure (b : List UInt8) : Pure Try.prog 61 [.sl (bsl b)] (.tup [.int .u64 ((vget b).1 : Nat), .int .i64 ((vget b).2 : Nat)]) := by
  refine Pure.of_tri Try.func61 rfl rfl (ltb rfl) fun H => ?_
  refine Tri.seq ?_
  refine Tri.region ?_
  refine TriL.c1 rfl (op_as (ltb rfl) rfl) ?_
  refine TriL.c1 rfl (op_as (ltb rfl) rfl) ?_
  refine TriL.nil ?_
  refine Tri.seq ?_
  refine Tri.region ?_
  refine TriL.c1 rfl (op_as (ltb rfl) rfl) ?_
  refine TriL.c1 rfl (op_as (ltb rfl) rfl) ?_
  refine TriL.nil ?_
  refine Tri.seq ?_
  refine Tri.seq ?_
  refine Tri.region ?_
  refine TriL.c1 rfl (op_as (ltb rfl) rfl) ?_
  refine TriL.kept (Kept.keep [.h, .s 0, .s 4, .s 5, .s 6] rfl (by decide) (Kept.now ?_))
  refine Tri.blk ?_
  -- LOOP 1: KEEP
  refine Tri.loop (fun q s => ∃ (i n m : Nat) (j : Int), s = StG H b n m i j ∧ j = i ∧ i ≤ 10 ∧ vget b = vgetA (10 - i) (b.drop i) i n m ∧ q = 10 - i) ?_ (n := 10) ⟨0, 0, 1, 0, rfl, rfl, by omega, rfl, rfl⟩
  rintro q s ⟨i, n, m, j, rfl, hj, hi, hv, rfl⟩
  have hbl := bsl_len b
  refine Tri.seq ?_
  refine Tri.seq ?_
  refine Tri.region ?_
  refine TriL.c1 rfl (op_mv (ltb rfl) rfl) ?_
  refine TriL.c1 rfl (op_mv (ltb rfl) rfl) ?_
  refine TriL.c1 rfl (op_lenl (ltb rfl) un22 rfl) ?_
  refine TriL.c1 rfl (op_bin (ltb rfl) rfl rfl rfl) ?_
  refine TriL.c1 rfl (op_mv (ltb rfl) rfl) ?_
  refine TriL.split (d := 11) rfl (fun hg1 => ?_) (fun hg1 => ?_)
  · refine TriL.g1 rfl (ltb rfl) rfl hg1 (op_mv (ltb rfl) rfl) ?_
    refine TriL.g1 rfl (ltb rfl) rfl hg1 (op_bin (ltb rfl) rfl rfl rfl) ?_
    refine TriL.c1 rfl (op_pickt (ltb rfl) rfl hg1 rfl) ?_
    refine TriL.nil ?_
    refine Tri.cond rfl (fun hc2 => ?_) (fun hc2 => ?_)
    · have hlt : i < b.length := by have := of_decide_eq_true hg1; omega
      have h10 : i < 10 := by have := of_decide_eq_true hc2; omega
      obtain ⟨c, hc⟩ : ∃ c, b[i]? = some c := ⟨b[i], List.getElem?_eq_getElem hlt⟩
      have hdr : b.drop i = c :: b.drop (i + 1) := by rw [List.drop_eq_getElem_cons hlt]; congr 1; rw [List.getElem?_eq_getElem hlt] at hc; cases hc; rfl
      have hkk : 10 - i = (9 - i) + 1 := by omega
      have hv1 := hv
      rw [hdr, hkk, vgetA] at hv1
      refine Tri.skip ?_
      refine Tri.seq ?_
      refine Tri.blk ?_
      refine Tri.seq ?_
      refine Tri.seq ?_
      refine Tri.region ?_
      refine TriL.c1 rfl (op_mv (ltb rfl) rfl) ?_
      refine TriL.c1 rfl (op_bin (ltb rfl) rfl rfl rfl) ?_
      refine TriL.c1 rfl (op_mv (ltb rfl) rfl) ?_
      refine TriL.split (d := 19) rfl (fun hg3 => ?_) (fun hg3 => ?_)
      · refine TriL.g1 rfl (ltb rfl) rfl hg3 (op_mv (ltb rfl) rfl) ?_
        refine TriL.g1 rfl (ltb rfl) rfl hg3 (op_mv (ltb rfl) rfl) ?_
        refine TriL.g1 rfl (ltb rfl) rfl hg3 (op_iak (ltb rfl) ie22 rfl rfl (by omega) (bsl_get hj hc) rfl) ?_
        refine TriL.g1 rfl (ltb rfl) rfl hg3 (op_ldk (ltb rfl) lk5 rfl rfl) ?_
        refine TriL.g1 rfl (ltb rfl) rfl hg3 (op_bin (ltb rfl) rfl rfl rfl) ?_
        refine TriL.c1 rfl (op_pickt (ltb rfl) rfl hg3 rfl) ?_
        refine TriL.nil ?_
        refine Tri.cond rfl (fun hc4 => ?_) (fun hc4 => ?_)
        · refine Tri.seq ?_
          refine Tri.region ?_
          refine TriL.c1 rfl (op_as (ltb rfl) rfl) ?_
          refine TriL.c1 rfl (op_as (ltb rfl) rfl) ?_
          refine TriL.nil ?_
          refine Tri.ret ?_
          exact ⟨.inr rfl, (ResOK.r2 rfl (.tmp rfl (.tmp rfl .nil))).cast (by rw [if_pos ⟨by have := eq_of_beq hg3; omega, by have := of_decide_eq_true hc4; omega⟩] at hv1; rw [hv1]; rfl), rfl⟩
        · rw [if_neg (by have := of_decide_eq_false hc4; omega)] at hv1
          refine Tri.skip ?_
          refine Tri.seq ?_
          refine Tri.region ?_
          refine TriL.c1 rfl (op_mv (ltb rfl) rfl) ?_
          refine TriL.c1 rfl (op_mv (ltb rfl) rfl) ?_
          refine TriL.c1 rfl (op_mv (ltb rfl) rfl) ?_
          refine TriL.c1 rfl (op_iak (ltb rfl) ie22 rfl rfl (by omega) (bsl_get hj hc) rfl) ?_
          refine TriL.c1 rfl (op_ldk (ltb rfl) lk5 rfl rfl) ?_
          refine TriL.c1 rfl (op_bin (ltb rfl) rfl rfl rfl) ?_
          refine TriL.c1 rfl (op_cvi (ltb rfl) un5 un50 rfl) ?_
          refine TriL.c1 rfl (op_mv (ltb rfl) rfl) ?_
          refine TriL.c1 rfl (op_bin (ltb rfl) rfl rfl rfl) ?_
          refine TriL.c1 rfl (op_bin (ltb rfl) rfl rfl rfl) ?_
          refine TriL.c1 rfl (op_as (ltb rfl) rfl) ?_
          refine TriL.nil ?_
          refine Tri.seq ?_
          refine Tri.region ?_
          refine TriL.c1 rfl (op_mv (ltb rfl) rfl) ?_
          refine TriL.c1 rfl (op_bin (ltb rfl) rfl rfl rfl) ?_
          refine TriL.c1 rfl (op_as (ltb rfl) rfl) ?_
          refine TriL.nil ?_
          refine Tri.seq ?_
          refine Tri.region ?_
          refine TriL.c1 rfl (op_mv (ltb rfl) rfl) ?_
          refine TriL.c1 rfl (op_mv (ltb rfl) rfl) ?_
          refine TriL.c1 rfl (op_iak (ltb rfl) ie22 rfl rfl (by omega) (bsl_get hj hc) rfl) ?_
          refine TriL.c1 rfl (op_ldk (ltb rfl) lk5 rfl rfl) ?_
          refine TriL.c1 rfl (op_bin (ltb rfl) rfl rfl rfl) ?_
          refine TriL.nil ?_
          refine Tri.cond rfl (fun hc5 => ?_) (fun hc5 => ?_)
          · refine Tri.seq ?_
            refine Tri.region ?_
            refine TriL.c1 rfl (op_mv (ltb rfl) rfl) ?_
            refine TriL.c1 rfl (op_mv (ltb rfl) rfl) ?_
            refine TriL.c1 rfl (op_bin (ltb rfl) rfl rfl rfl) ?_
            refine TriL.c1 rfl (op_as (ltb rfl) rfl) ?_
            refine TriL.c1 rfl (op_as (ltb rfl) rfl) ?_
            refine TriL.nil ?_
            refine Tri.ret ?_
            exact ⟨.inr rfl, (ResOK.r2 rfl (.tmp rfl (.tmp rfl .nil))).cast (by rw [if_pos (by have := of_decide_eq_true hc5; omega)] at hv1; rw [hv1, getw, hj, wr64 (by omega) (by omega)]; rfl), rfl⟩
          · refine Tri.skip ?_
            refine Tri.region ?_
            refine TriL.c1 rfl (op_mv (ltb rfl) rfl) ?_
            refine TriL.c1 rfl (op_bin (ltb rfl) rfl rfl rfl) ?_
            refine TriL.c1 rfl (op_as (ltb rfl) rfl) ?_
            refine TriL.kept (Kept.keep [.h, .s 0, .s 4, .s 5, .s 6] rfl (by decide) (Kept.now ?_))
            refine ⟨10 - (i + 1), by omega, i + 1, (n + c.toNat % 128 * m % 18446744073709551616) % 18446744073709551616, m * 128 % 18446744073709551616, IntKind.i64.wrap (j + 1), ?_, by rw [hj, wr64] <;> omega, by omega, ?_, rfl⟩
            · rw [getw, getm]; rfl
            · have hnl : ¬ c.toNat < 128 := by have := of_decide_eq_false hc5; omega
              rw [hv1, if_neg hnl, show 10 - (i + 1) = 9 - i by omega]
      · rw [if_neg (by have := beq_eq_false_iff_ne.1 hg3; omega)] at hv1
        refine TriL.skipu rfl rfl (ltb rfl) (ltb rfl) rfl hg3 ?_
        refine TriL.skipu rfl rfl (ltb rfl) (ltb rfl) rfl hg3 ?_
        refine TriL.skipu rfl rfl (ltb rfl) (ltb rfl) rfl hg3 ?_
        refine TriL.skipu rfl rfl (ltb rfl) (ltb rfl) rfl hg3 ?_
        refine TriL.skipu rfl rfl (ltb rfl) (ltb rfl) rfl hg3 ?_
        refine TriL.c1 rfl (op_pickf (ltb rfl) rfl hg3 rfl) ?_
        refine TriL.nil ?_
        refine Tri.condF rfl rfl ?_
        refine Tri.skip ?_
        refine Tri.seq ?_
        refine Tri.region ?_
        refine TriL.c1 rfl (op_mv (ltb rfl) rfl) ?_
        refine TriL.c1 rfl (op_mv (ltb rfl) rfl) ?_
        refine TriL.c1 rfl (op_mv (ltb rfl) rfl) ?_
        refine TriL.c1 rfl (op_iak (ltb rfl) ie22 rfl rfl (by omega) (bsl_get hj hc) rfl) ?_
        refine TriL.c1 rfl (op_ldk (ltb rfl) lk5 rfl rfl) ?_
        refine TriL.c1 rfl (op_bin (ltb rfl) rfl rfl rfl) ?_
        refine TriL.c1 rfl (op_cvi (ltb rfl) un5 un50 rfl) ?_
        refine TriL.c1 rfl (op_mv (ltb rfl) rfl) ?_
        refine TriL.c1 rfl (op_bin (ltb rfl) rfl rfl rfl) ?_
        refine TriL.c1 rfl (op_bin (ltb rfl) rfl rfl rfl) ?_
        refine TriL.c1 rfl (op_as (ltb rfl) rfl) ?_
        refine TriL.nil ?_
        refine Tri.seq ?_
        refine Tri.region ?_
        refine TriL.c1 rfl (op_mv (ltb rfl) rfl) ?_
        refine TriL.c1 rfl (op_bin (ltb rfl) rfl rfl rfl) ?_
        refine TriL.c1 rfl (op_as (ltb rfl) rfl) ?_
        refine TriL.nil ?_
        refine Tri.seq ?_
        refine Tri.region ?_
        refine TriL.c1 rfl (op_mv (ltb rfl) rfl) ?_
        refine TriL.c1 rfl (op_mv (ltb rfl) rfl) ?_
        refine TriL.c1 rfl (op_iak (ltb rfl) ie22 rfl rfl (by omega) (bsl_get hj hc) rfl) ?_
        refine TriL.c1 rfl (op_ldk (ltb rfl) lk5 rfl rfl) ?_
        refine TriL.c1 rfl (op_bin (ltb rfl) rfl rfl rfl) ?_
        refine TriL.nil ?_
        refine Tri.cond rfl (fun hc6 => ?_) (fun hc6 => ?_)
        · refine Tri.seq ?_
          refine Tri.region ?_
          refine TriL.c1 rfl (op_mv (ltb rfl) rfl) ?_
          refine TriL.c1 rfl (op_mv (ltb rfl) rfl) ?_
          refine TriL.c1 rfl (op_bin (ltb rfl) rfl rfl rfl) ?_
          refine TriL.c1 rfl (op_as (ltb rfl) rfl) ?_
          refine TriL.c1 rfl (op_as (ltb rfl) rfl) ?_
          refine TriL.nil ?_
          refine Tri.ret ?_
          exact ⟨.inr rfl, (ResOK.r2 rfl (.tmp rfl (.tmp rfl .nil))).cast (by rw [if_pos (by have := of_decide_eq_true hc6; omega)] at hv1; rw [hv1, getw, hj, wr64 (by omega) (by omega)]; rfl), rfl⟩
        · refine Tri.skip ?_
          refine Tri.region ?_
          refine TriL.c1 rfl (op_mv (ltb rfl) rfl) ?_
          refine TriL.c1 rfl (op_bin (ltb rfl) rfl rfl rfl) ?_
          refine TriL.c1 rfl (op_as (ltb rfl) rfl) ?_
          refine TriL.kept (Kept.keep [.h, .s 0, .s 4, .s 5, .s 6] rfl (by decide) (Kept.now ?_))
          refine ⟨10 - (i + 1), by omega, i + 1, (n + c.toNat % 128 * m % 18446744073709551616) % 18446744073709551616, m * 128 % 18446744073709551616, IntKind.i64.wrap (j + 1), ?_, by rw [hj, wr64] <;> omega, by omega, ?_, rfl⟩
          · rw [getw, getm]; rfl
          · have hnl : ¬ c.toNat < 128 := by have := of_decide_eq_false hc6; omega
            rw [hv1, if_neg hnl, show 10 - (i + 1) = 9 - i by omega]
    · refine Tri.exit ?_
      refine Tri.seq ?_
      refine Tri.region ?_
      refine TriL.c1 rfl (op_as (ltb rfl) rfl) ?_
      refine TriL.c1 rfl (op_as (ltb rfl) rfl) ?_
      refine TriL.nil ?_
      refine Tri.ret ?_
      exact ⟨.inr rfl, (ResOK.r2 rfl (.tmp rfl (.tmp rfl .nil))).cast (by rw [show 10 - i = 0 by have := of_decide_eq_false hc2; omega] at hv; rw [hv]; rfl), rfl⟩
  · refine TriL.skipu rfl rfl (ltb rfl) (ltb rfl) rfl hg1 ?_
    refine TriL.skipu rfl rfl (ltb rfl) (ltb rfl) rfl hg1 ?_
    refine TriL.c1 rfl (op_pickf (ltb rfl) rfl hg1 rfl) ?_
    refine TriL.nil ?_
    refine Tri.condF rfl rfl ?_
    refine Tri.exit ?_
    refine Tri.seq ?_
    refine Tri.region ?_
    refine TriL.c1 rfl (op_as (ltb rfl) rfl) ?_
    refine TriL.c1 rfl (op_as (ltb rfl) rfl) ?_
    refine TriL.nil ?_
    refine Tri.ret ?_
    exact ⟨.inr rfl, (ResOK.r2 rfl (.tmp rfl (.tmp rfl .nil))).cast (by rw [List.drop_of_length_le (by have := of_decide_eq_false hg1; omega)] at hv; rw [hv]; cases 10 - i <;> rfl), rfl⟩
end Go.Proofs.Ytecjdohpfijmpaa.X
