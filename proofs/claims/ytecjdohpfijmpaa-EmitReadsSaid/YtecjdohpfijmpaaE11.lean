/- varint: Size, Put. -/
import Derived.Test.YtecjdohpfijmpaaE10
set_option linter.unusedVariables false
set_option linter.unusedSimpArgs false
namespace Go.Proofs.Ytecjdohpfijmpaa.X
open Go Go.RowKit Go.Proofs
/-- a number's bytes: seven bits each, the last one below 128 -/
def vput (n : Nat) : List UInt8 := if h : n < 128 then [UInt8.ofNat n] else UInt8.ofNat (n % 128 + 128) :: vput (n / 128)
termination_by n
decreasing_by omega
theorem vput_lo {n : Nat} (h : n < 128) : vput n = [UInt8.ofNat n] := by rw [vput, dif_pos h]
theorem vput_hi {n : Nat} (h : ¬ n < 128) : vput n = UInt8.ofNat (n % 128 + 128) :: vput (n / 128) := by rw [vput, dif_neg h]
theorem blen_or (n : Nat) : blen (n ||| 1) = blen (n / 2) + 1 := by
  have h1 : (n ||| 1) / 2 = n / 2 := by have := Nat.shiftRight_or_distrib (i := 1) (a := n) (b := 1); rw [Nat.shiftRight_eq_div_pow, Nat.shiftRight_eq_div_pow, Nat.shiftRight_eq_div_pow] at this; simpa using this
  have h2 : 1 ≤ n ||| 1 := by have := Nat.right_le_or (n := n) (m := 1); omega
  rw [blen_half h2, h1]
theorem vput_len (n : Nat) : (vput n).length = (blen (n ||| 1) + 6) / 7 := by
  induction n using Nat.strongRecOn with
  | _ n ih =>
    rw [blen_or]
    by_cases h : n < 128
    · rw [vput_lo h]
      have : blen (n / 2) ≤ 6 := by
        have : ∀ k : Fin 64, blen k.val ≤ 6 := by decide +kernel
        exact this ⟨n / 2, by omega⟩
      simp only [List.length_cons, List.length_nil]; omega
    · rw [vput_hi h, List.length_cons, ih (n / 128) (by omega), blen_or, ← blen_half (n := n) (by omega), blen_shift 7 n (by omega), ← blen_half (n := n / 128) (by omega), show (2 ^ 7 : Nat) = 128 from rfl]
      omega
theorem vput_pos (n : Nat) : 1 ≤ (vput n).length := by
  by_cases h : n < 128
  · rw [vput_lo h]; simp
  · rw [vput_hi h]; simp
theorem vput_one {n : Nat} (h : (vput n).length ≤ 1) : n < 128 := by
  by_cases h2 : n < 128
  · exact h2
  · rw [vput_hi h2, List.length_cons] at h; have := vput_pos (n / 128); omega
theorem blen_le : ∀ (k n : Nat), n < 2 ^ k → blen n ≤ k
  | 0, n, h => by have : n = 0 := by omega
                  subst this; simp [blen]
  | k + 1, n, h => by
    by_cases h0 : n = 0
    · subst h0; simp [blen]
    · rw [blen_half (by omega)]
      have := blen_le k (n / 2) (by rw [Nat.pow_succ] at h; omega)
      omega
theorem or1_lt {n : Nat} (h : n < 18446744073709551616) : n ||| 1 < 18446744073709551616 := Nat.or_lt_two_pow (n := 64) h (by decide)
theorem vput_max {n : Nat} (h : n < 18446744073709551616) : (vput n).length ≤ 10 := by
  rw [vput_len]
  have := blen_le 64 (n ||| 1) (or1_lt h)
  omega
theorem or_u64 {n m : Nat} (h : n < 18446744073709551616) (k : m < 18446744073709551616) : ibits .or .u64 (n : Int) (m : Int) = ((n ||| m : Nat) : Int) := by
  have e1 : (BitVec.ofInt 64 ((n : Nat) : Int)).toNat = n := by rw [BitVec.toNat_ofInt]; omega
  have e2 : (BitVec.ofInt 64 ((m : Nat) : Int)).toNat = m := by rw [BitVec.toNat_ofInt]; omega
  show IntKind.u64.wrap (((BitVec.ofInt 64 ((n : Nat) : Int)) ||| (BitVec.ofInt 64 ((m : Nat) : Int))).toNat : Int) = _
  rw [BitVec.toNat_or, e1, e2]
  have : n ||| m < 18446744073709551616 := Nat.or_lt_two_pow (n := 64) h k
  rw [wru64] <;> omega
theorem size_eq {n : Nat} (h : n < 18446744073709551616) : IntKind.i64.wrap ((IntKind.i64.wrap (IntKind.i64.wrap ((blen (n ||| 1) : Nat) + 7) - 1)).tdiv 7) = ((vput n).length : Int) := by
  have h1 := blen_le 64 (n ||| 1) (or1_lt h)
  rw [vput_len, wr64 (n := ((blen (n ||| 1) : Nat) : Int) + 7) (by omega) (by omega), wr64 (n := ((blen (n ||| 1) : Nat) : Int) + 7 - 1) (by omega) (by omega), Int.tdiv_eq_ediv_of_nonneg (by omega), wr64 (by omega) (by omega)]
  omega
theorem byte_or : ∀ m : Nat, ibits .or .u8 (IntKind.u8.wrap (m : Int)) 128 = (((UInt8.ofNat (m % 128 + 128)).toNat : Nat) : Int) := by
  intro m
  have h : ∀ k : Fin 256, ibits .or .u8 ((k.val : Nat) : Int) 128 = (((UInt8.ofNat (k.val % 128 + 128)).toNat : Nat) : Int) := by decide +kernel
  have e : IntKind.u8.wrap (m : Int) = ((m % 256 : Nat) : Int) := by simp only [IntKind.wrap, IntKind.bits, IntKind.signed]; simp
  rw [e]
  have := h ⟨m % 256, by omega⟩
  simp only at this
  rw [this, show m % 256 % 128 = m % 128 by omega]
theorem byte_of (m : Nat) : IntKind.u8.wrap (m : Int) = (((UInt8.ofNat m).toNat : Nat) : Int) := by
  have e : IntKind.u8.wrap (m : Int) = ((m % 256 : Nat) : Int) := by simp only [IntKind.wrap, IntKind.bits, IntKind.signed]; simp
  rw [e]; simp [UInt8.toNat_ofNat']
theorem pshr7 : 2 ^ min (Int.toNat 7) IntKind.u64.bits = 128 := rfl
theorem len64_pure' {m : Int} {n : Nat} (e : m = n) (h : n < 18446744073709551616) : Pure Try.prog 64 [.int .u64 m] (.int .i64 (blen n)) := e ▸ len64_pure n h
theorem size_pure (n : Nat) (h : n < 18446744073709551616) : Pure Try.prog 59 [.int .u64 (n : Int)] (.int .i64 ((vput n).length : Nat)) := by
  refine Pure.of_tri Try.func59 rfl rfl (ltb rfl) fun H => ?_
  refine Tri.seq ?_
  refine Tri.region ?_
  refine TriL.c1 rfl (op_as (ltb rfl) rfl) ?_
  refine TriL.nil ?_
  refine Tri.seq ?_
  refine Tri.region ?_
  refine TriL.c1 rfl (op_mv (ltb rfl) rfl) ?_
  refine TriL.c1 rfl (op_bin (ltb rfl) rfl rfl rfl) ?_
  refine TriL.c1 rfl (op_call (ltb rfl) fn64 rfl (len64_pure' (or_u64 (m := 1) h (by decide)) (or1_lt h))) ?_
  refine TriL.c1 rfl (op_bin (ltb rfl) rfl rfl rfl) ?_
  refine TriL.c1 rfl (op_bin (ltb rfl) rfl rfl rfl) ?_
  refine TriL.c1 rfl (op_bin (ltb rfl) rfl rfl rfl) ?_
  refine TriL.c1 rfl (op_as (ltb rfl) rfl) ?_
  refine TriL.nil ?_
  refine Tri.ret ?_
  exact ⟨.inr rfl, (ResOK.r1 rfl (.tmp rfl .nil)).cast (congrArg (AV.int .i64) (size_eq h)), rfl⟩
def StVP (H : Hp) (m : Int) (xs : List AV) (k j : Int) : St := [(.h, .hp H), (.s 0, .sv (.v (.int .u64 m))), (.s 3, .sv (.ow 4 xs)), (.s 7, .sv (.v (.int .i64 k))), (.s 8, .sv (.v (.int .i64 j))), (.t 4, .tk false 5 1 xs)]
theorem bsl_one (c : UInt8) : bsl [c] = [.int .u8 c.toNat] := rfl
theorem okEls_one (k : IntKind) (n : Int) : okEls 1 [.int k n] = true := rfl
theorem vput_pureO (n : Nat) (h : n < 18446744073709551616) : PureO Try.prog 43 [.int .u64 (n : Int)] 5 1 (bsl (vput n)) := by
  refine PureO.of_tri Try.func43 rfl rfl (ltb rfl) rfl fun H => ?_
  refine Tri.seq ?_
  refine Tri.region ?_
  refine TriL.c1 rfl (op_as (ltb rfl) rfl) ?_
  refine TriL.nil ?_
  refine Tri.seq ?_
  refine Tri.region ?_
  refine TriL.c2 rfl (op_mk0 (ltb rfl) se22 rfl rfl (by omega) (by decide) (by decide) rfl) ?_
  refine TriL.c1 rfl (op_as (ltb rfl) rfl) ?_
  refine TriL.nil ?_
  refine Tri.seq ?_
  refine Tri.seq ?_
  refine Tri.region ?_
  refine TriL.c1 rfl (op_mv (ltb rfl) rfl) ?_
  refine TriL.c1 rfl (op_call (ltb rfl) fn59 rfl (size_pure n h)) ?_
  refine TriL.c1 rfl (op_bin (ltb rfl) rfl rfl rfl) ?_
  refine TriL.c1 rfl (op_mv (ltb rfl) rfl) ?_
  refine TriL.kept (Kept.keep [.h, .s 0, .s 3, .s 7, .s 8, .t 4] rfl (by decide) (Kept.now ?_))
  refine Tri.blk ?_
  -- LOOP 1: KEEP
  have hz : IntKind.i64.wrap (((vput n).length : Nat) - 1) = (((vput n).length - 1 : Nat) : Int) := by
    have := vput_pos n; have := vput_max h
    rw [wr64] <;> omega
  refine Tri.loop (fun q s => ∃ (m : Nat) (o : List UInt8) (j : Int) (i : Nat), s = StVP H m (bsl o) (IntKind.i64.wrap (((vput n).length : Nat) - 1)) j ∧ j = i ∧ vput n = o ++ vput m ∧ i = o.length ∧ m < 18446744073709551616 ∧ q = (vput m).length) ?_ (n := (vput n).length) ⟨n, [], 0, 0, rfl, rfl, rfl, rfl, h, rfl⟩
  rintro q s ⟨m, o, j, i, rfl, hj, hv, hi, hm, rfl⟩
  have hlen : (vput n).length = o.length + (vput m).length := by rw [hv, List.length_append]
  have hmx := vput_max h
  refine Tri.seq ?_
  refine Tri.region ?_
  refine TriL.c1 rfl (op_bin (ltb rfl) rfl rfl rfl) ?_
  refine TriL.nil ?_
  refine Tri.seq ?_
  refine Tri.cond rfl (fun hc1 => ?_) (fun hc1 => ?_)
  · have hlt : 128 ≤ m := by
      have := of_decide_eq_true hc1
      rw [hz, hj] at this
      have h1 := vput_pos m
      by_cases h2 : m < 128
      · rw [vput_lo h2] at hlen; simp only [List.length_cons, List.length_nil] at hlen; omega
      · omega
    refine Tri.skip ?_
    refine Tri.seq ?_
    refine Tri.blk ?_
    refine Tri.seq ?_
    refine Tri.region ?_
    refine TriL.c1 rfl (op_mv (ltb rfl) rfl) ?_
    refine TriL.c1 rfl (op_mv (ltb rfl) rfl) ?_
    refine TriL.c1 rfl (op_cvi (ltb rfl) un50 un5 rfl) ?_
    refine TriL.c1 rfl (op_bin (ltb rfl) rfl rfl rfl) ?_
    refine TriL.c1 rfl (op_lit («as» := [_]) (ltb rfl) se22 zAe22 rfl rfl rfl (leb rfl)) ?_
    refine TriL.c3 rfl (op_app (ltb rfl) se22 rfl rfl rfl (okEls_one _ _) rfl (by have := bsl_len o; simp only [List.length_cons, List.length_nil]; omega) (by have := bsl_len o; simp only [List.length_cons, List.length_nil]; omega)) ?_
    refine TriL.c1 rfl (op_as (ltb rfl) rfl) ?_
    refine TriL.nil ?_
    refine Tri.region ?_
    refine TriL.c1 rfl (op_mv (ltb rfl) rfl) ?_
    refine TriL.c1 rfl (op_shr (ltb rfl) rfl rfl (by decide)) ?_
    refine TriL.c1 rfl (op_as (ltb rfl) rfl) ?_
    refine TriL.nil ?_
    refine Tri.region ?_
    refine TriL.c1 rfl (op_bin (ltb rfl) rfl rfl rfl) ?_
    refine TriL.c1 rfl (op_mv (ltb rfl) rfl) ?_
    refine TriL.kept (Kept.keep [.h, .s 0, .s 3, .s 7, .s 8, .t 15] rfl (by decide) (Kept.ren 15 4 (by decide) rfl (Kept.now ?_)))
    have hb : bsl o ++ [.int .u8 (ibits .or .u8 (IntKind.u8.wrap (m : Int)) 128)] = bsl (o ++ [UInt8.ofNat (m % 128 + 128)]) := by rw [byte_or, bsl_app]; rfl
    refine ⟨(vput (m / 128)).length, by rw [vput_hi (n := m) (by omega), List.length_cons]; omega, m / 128, o ++ [UInt8.ofNat (m % 128 + 128)], _, i + 1, by rw [← hb]; rfl, ?_, ?_, by simp [hi], by omega, rfl⟩
    · rw [hj, wr64] <;> omega
    · rw [hv, vput_hi (n := m) (by omega)]; simp
  · have hlt : m < 128 := by
      have := of_decide_eq_false hc1
      rw [hz, hj] at this
      exact vput_one (by omega)
    refine Tri.exit ?_
    refine Tri.seq ?_
    refine Tri.region ?_
    refine TriL.c1 rfl (op_mv (ltb rfl) rfl) ?_
    refine TriL.c1 rfl (op_mv (ltb rfl) rfl) ?_
    refine TriL.c1 rfl (op_cvi (ltb rfl) un50 un5 rfl) ?_
    refine TriL.c1 rfl (op_lit («as» := [_]) (ltb rfl) se22 zAe22 rfl rfl rfl (leb rfl)) ?_
    refine TriL.c3 rfl (op_app (ltb rfl) se22 rfl rfl rfl (okEls_one _ _) rfl (by have := bsl_len o; simp only [List.length_cons, List.length_nil]; omega) (by have := bsl_len o; simp only [List.length_cons, List.length_nil]; omega)) ?_
    refine TriL.c1 rfl (op_as (ltb rfl) rfl) ?_
    refine TriL.nil ?_
    refine Tri.ret ?_
    have hb : bsl o ++ [.int .u8 (IntKind.u8.wrap (m : Int))] = bsl (vput n) := by rw [hv, vput_lo hlt, bsl_app, byte_of]; rfl
    rw [← hb]
    exact ⟨.inr rfl, ⟨23, rfl, rfl⟩, rfl⟩
end Go.Proofs.Ytecjdohpfijmpaa.X
