/- math/bits.Len64. -/
import Derived.Test.YtecjdohpfijmpaaE9
set_option linter.unusedVariables false
set_option linter.unusedSimpArgs false
namespace Go.Proofs.Ytecjdohpfijmpaa.X
open Go Go.RowKit Go.Proofs
theorem leaf0 {m : Nat} (h : m < 256) : 0 ≤ IntKind.u8.wrap (m : Int) := by rw [wr8 (by omega) (by omega)]; omega
theorem leaf1 {m : Nat} (h : m < 256) : tab8[(IntKind.u8.wrap (m : Int)).toNat]? = some (UInt8.ofNat (blen m)) := by rw [wr8 (by omega) (by omega), Int.toNat_natCast]; exact tab8_get m h
theorem p32 : 2 ^ min (Int.toNat 32) IntKind.u64.bits = 4294967296 := rfl
theorem p16 : 2 ^ min (Int.toNat 16) IntKind.u64.bits = 65536 := rfl
theorem p8 : 2 ^ min (Int.toNat 8) IntKind.u64.bits = 256 := rfl
theorem leaf2 {n m off : Nat} {o : Int} (ho : o = off) (hm : m < 256) (hb : blen n = blen m + off) (h : off ≤ 56) : IntKind.i64.wrap (o + IntKind.i64.wrap ((UInt8.ofNat (blen m)).toNat : Int)) = (blen n : Int) := by
  have := blen_lt hm
  have e : (UInt8.ofNat (blen m)).toNat = blen m := UInt8.toNat_ofNat_of_lt' (by simp [UInt8.size]; omega)
  rw [e, ho, wr64 (n := (blen m : Int)) (by omega) (by omega), wr64 (by omega) (by omega), hb]; omega
theorem s32 {n : Nat} (h : 4294967296 ≤ n) : blen n = blen (n / 4294967296) + 32 := blen_shift 32 n h
theorem s16 {n : Nat} (h : 65536 ≤ n) : blen n = blen (n / 65536) + 16 := blen_shift 16 n h
theorem s8 {n : Nat} (h : 256 ≤ n) : blen n = blen (n / 256) + 8 := blen_shift 8 n h
theorem leaf3 {n : Nat} (h : 4294967296 ≤ n) : blen n = blen (n / 4294967296) + 32 := s32 h
theorem leaf4 {n : Nat} (h : 4294967296 ≤ n) (k : 65536 ≤ n / 4294967296) : blen n = blen (n / 4294967296 / 65536) + 48 := by rw [s32 h, s16 k]
theorem leaf5 {n : Nat} (h : 4294967296 ≤ n) (k : 65536 ≤ n / 4294967296) (l : 256 ≤ n / 4294967296 / 65536) : blen n = blen (n / 4294967296 / 65536 / 256) + 56 := by rw [s32 h, s16 k, s8 l]
theorem leaf6 {n : Nat} (h : 65536 ≤ n) : blen n = blen (n / 65536) + 16 := s16 h
theorem leaf7 {n : Nat} (h : 65536 ≤ n) (k : 256 ≤ n / 65536) : blen n = blen (n / 65536 / 256) + 24 := by rw [s16 h, s8 k]
theorem leaf8 {n : Nat} (h : 256 ≤ n) : blen n = blen (n / 256) + 8 := s8 h
theorem leaf9 {n : Nat} (h : 4294967296 ≤ n) (k : 256 ≤ n / 4294967296) : blen n = blen (n / 4294967296 / 256) + 40 := by rw [s32 h, s8 k]
theorem len64_pure (n : Nat) (h : n < 18446744073709551616) : Pure Try.prog 64 [.int .u64 (n : Int)] (.int .i64 (blen n)) := by
  refine Pure.of_tri Try.func64 rfl rfl (ltb rfl) fun H => ?_
  refine Tri.seq ?_
  refine Tri.region ?_
  refine TriL.c1 rfl (op_as (ltb rfl) rfl) ?_
  refine TriL.nil ?_
  refine Tri.seq ?_
  refine Tri.seq ?_
  refine Tri.region ?_
  refine TriL.c1 rfl (op_mv (ltb rfl) rfl) ?_
  refine TriL.c1 rfl (op_bin (ltb rfl) rfl rfl rfl) ?_
  refine TriL.nil ?_
  refine Tri.cond rfl (fun hc1 => ?_) (fun hc1 => ?_)
  · refine Tri.seq ?_
    refine Tri.region ?_
    refine TriL.c1 rfl (op_mv (ltb rfl) rfl) ?_
    refine TriL.c1 rfl (op_shr (ltb rfl) rfl rfl (by decide)) ?_
    refine TriL.c1 rfl (op_as (ltb rfl) rfl) ?_
    refine TriL.nil ?_
    refine Tri.region ?_
    refine TriL.c1 rfl (op_as (ltb rfl) rfl) ?_
    refine TriL.nil ?_
    refine Tri.seq ?_
    refine Tri.seq ?_
    refine Tri.region ?_
    refine TriL.c1 rfl (op_mv (ltb rfl) rfl) ?_
    refine TriL.c1 rfl (op_bin (ltb rfl) rfl rfl rfl) ?_
    refine TriL.nil ?_
    refine Tri.cond rfl (fun hc2 => ?_) (fun hc2 => ?_)
    · refine Tri.seq ?_
      refine Tri.region ?_
      refine TriL.c1 rfl (op_mv (ltb rfl) rfl) ?_
      refine TriL.c1 rfl (op_shr (ltb rfl) rfl rfl (by decide)) ?_
      refine TriL.c1 rfl (op_as (ltb rfl) rfl) ?_
      refine TriL.nil ?_
      refine Tri.region ?_
      refine TriL.c1 rfl (op_mv (ltb rfl) rfl) ?_
      refine TriL.c1 rfl (op_bin (ltb rfl) rfl rfl rfl) ?_
      refine TriL.c1 rfl (op_as (ltb rfl) rfl) ?_
      refine TriL.nil ?_
      refine Tri.seq ?_
      refine Tri.seq ?_
      refine Tri.region ?_
      refine TriL.c1 rfl (op_mv (ltb rfl) rfl) ?_
      refine TriL.c1 rfl (op_bin (ltb rfl) rfl rfl rfl) ?_
      refine TriL.nil ?_
      refine Tri.cond rfl (fun hc3 => ?_) (fun hc3 => ?_)
      · refine Tri.seq ?_
        refine Tri.region ?_
        refine TriL.c1 rfl (op_mv (ltb rfl) rfl) ?_
        refine TriL.c1 rfl (op_shr (ltb rfl) rfl rfl (by decide)) ?_
        refine TriL.c1 rfl (op_as (ltb rfl) rfl) ?_
        refine TriL.nil ?_
        refine Tri.region ?_
        refine TriL.c1 rfl (op_mv (ltb rfl) rfl) ?_
        refine TriL.c1 rfl (op_bin (ltb rfl) rfl rfl rfl) ?_
        refine TriL.c1 rfl (op_as (ltb rfl) rfl) ?_
        refine TriL.nil ?_
        refine Tri.seq ?_
        refine Tri.region ?_
        refine TriL.c1 rfl (op_mv (ltb rfl) rfl) ?_
        refine TriL.c1 rfl (op_mv (ltb rfl) rfl) ?_
        refine TriL.c1 rfl (op_cvi (ltb rfl) un50 un5 rfl) ?_
        have q0 : (((4294967296 : Nat) : Int) ≤ ((n : Nat) : Int)) := of_decide_eq_true hc1
        have q1 : (((65536 : Nat) : Int) ≤ ((n / 4294967296 : Nat) : Int)) := of_decide_eq_true hc2
        have q2 : (((256 : Nat) : Int) ≤ ((n / 4294967296 / 65536 : Nat) : Int)) := of_decide_eq_true hc3
        have hm : n / 4294967296 / 65536 / 256 < 256 := by omega
        refine TriL.c1 rfl (op_ixs (ltb rfl) un9 rfl rfl (leaf0 (m := n / 4294967296 / 65536 / 256) hm) (leaf1 (m := n / 4294967296 / 65536 / 256) hm)) ?_
        refine TriL.c1 rfl (op_cvi (ltb rfl) un5 un3 rfl) ?_
        refine TriL.c1 rfl (op_bin (ltb rfl) rfl rfl rfl) ?_
        refine TriL.c1 rfl (op_as (ltb rfl) rfl) ?_
        refine TriL.nil ?_
        refine Tri.ret ?_
        exact ⟨.inr rfl, (ResOK.r1 rfl (.tmp rfl .nil)).cast (res_i64 (leaf2 (n := n) (m := n / 4294967296 / 65536 / 256) (off := 56) (by first | rfl | decide) hm (leaf5 (by omega) (by omega) (by omega)) (by decide))), rfl⟩
      · refine Tri.skip ?_
        refine Tri.seq ?_
        refine Tri.region ?_
        refine TriL.c1 rfl (op_mv (ltb rfl) rfl) ?_
        refine TriL.c1 rfl (op_mv (ltb rfl) rfl) ?_
        refine TriL.c1 rfl (op_cvi (ltb rfl) un50 un5 rfl) ?_
        have q0 : (((4294967296 : Nat) : Int) ≤ ((n : Nat) : Int)) := of_decide_eq_true hc1
        have q1 : (((65536 : Nat) : Int) ≤ ((n / 4294967296 : Nat) : Int)) := of_decide_eq_true hc2
        have q2 : ¬ (((256 : Nat) : Int) ≤ ((n / 4294967296 / 65536 : Nat) : Int)) := of_decide_eq_false hc3
        have hm : n / 4294967296 / 65536 < 256 := by omega
        refine TriL.c1 rfl (op_ixs (ltb rfl) un9 rfl rfl (leaf0 (m := n / 4294967296 / 65536) hm) (leaf1 (m := n / 4294967296 / 65536) hm)) ?_
        refine TriL.c1 rfl (op_cvi (ltb rfl) un5 un3 rfl) ?_
        refine TriL.c1 rfl (op_bin (ltb rfl) rfl rfl rfl) ?_
        refine TriL.c1 rfl (op_as (ltb rfl) rfl) ?_
        refine TriL.nil ?_
        refine Tri.ret ?_
        exact ⟨.inr rfl, (ResOK.r1 rfl (.tmp rfl .nil)).cast (res_i64 (leaf2 (n := n) (m := n / 4294967296 / 65536) (off := 48) (by first | rfl | decide) hm (leaf4 (by omega) (by omega)) (by decide))), rfl⟩
    · refine Tri.skip ?_
      refine Tri.seq ?_
      refine Tri.seq ?_
      refine Tri.region ?_
      refine TriL.c1 rfl (op_mv (ltb rfl) rfl) ?_
      refine TriL.c1 rfl (op_bin (ltb rfl) rfl rfl rfl) ?_
      refine TriL.nil ?_
      refine Tri.cond rfl (fun hc4 => ?_) (fun hc4 => ?_)
      · refine Tri.seq ?_
        refine Tri.region ?_
        refine TriL.c1 rfl (op_mv (ltb rfl) rfl) ?_
        refine TriL.c1 rfl (op_shr (ltb rfl) rfl rfl (by decide)) ?_
        refine TriL.c1 rfl (op_as (ltb rfl) rfl) ?_
        refine TriL.nil ?_
        refine Tri.region ?_
        refine TriL.c1 rfl (op_mv (ltb rfl) rfl) ?_
        refine TriL.c1 rfl (op_bin (ltb rfl) rfl rfl rfl) ?_
        refine TriL.c1 rfl (op_as (ltb rfl) rfl) ?_
        refine TriL.nil ?_
        refine Tri.seq ?_
        refine Tri.region ?_
        refine TriL.c1 rfl (op_mv (ltb rfl) rfl) ?_
        refine TriL.c1 rfl (op_mv (ltb rfl) rfl) ?_
        refine TriL.c1 rfl (op_cvi (ltb rfl) un50 un5 rfl) ?_
        have q0 : (((4294967296 : Nat) : Int) ≤ ((n : Nat) : Int)) := of_decide_eq_true hc1
        have q1 : ¬ (((65536 : Nat) : Int) ≤ ((n / 4294967296 : Nat) : Int)) := of_decide_eq_false hc2
        have q2 : (((256 : Nat) : Int) ≤ ((n / 4294967296 : Nat) : Int)) := of_decide_eq_true hc4
        have hm : n / 4294967296 / 256 < 256 := by omega
        refine TriL.c1 rfl (op_ixs (ltb rfl) un9 rfl rfl (leaf0 (m := n / 4294967296 / 256) hm) (leaf1 (m := n / 4294967296 / 256) hm)) ?_
        refine TriL.c1 rfl (op_cvi (ltb rfl) un5 un3 rfl) ?_
        refine TriL.c1 rfl (op_bin (ltb rfl) rfl rfl rfl) ?_
        refine TriL.c1 rfl (op_as (ltb rfl) rfl) ?_
        refine TriL.nil ?_
        refine Tri.ret ?_
        exact ⟨.inr rfl, (ResOK.r1 rfl (.tmp rfl .nil)).cast (res_i64 (leaf2 (n := n) (m := n / 4294967296 / 256) (off := 40) (by first | rfl | decide) hm (leaf9 (by omega) (by omega)) (by decide))), rfl⟩
      · refine Tri.skip ?_
        refine Tri.seq ?_
        refine Tri.region ?_
        refine TriL.c1 rfl (op_mv (ltb rfl) rfl) ?_
        refine TriL.c1 rfl (op_mv (ltb rfl) rfl) ?_
        refine TriL.c1 rfl (op_cvi (ltb rfl) un50 un5 rfl) ?_
        have q0 : (((4294967296 : Nat) : Int) ≤ ((n : Nat) : Int)) := of_decide_eq_true hc1
        have q1 : ¬ (((65536 : Nat) : Int) ≤ ((n / 4294967296 : Nat) : Int)) := of_decide_eq_false hc2
        have q2 : ¬ (((256 : Nat) : Int) ≤ ((n / 4294967296 : Nat) : Int)) := of_decide_eq_false hc4
        have hm : n / 4294967296 < 256 := by omega
        refine TriL.c1 rfl (op_ixs (ltb rfl) un9 rfl rfl (leaf0 (m := n / 4294967296) hm) (leaf1 (m := n / 4294967296) hm)) ?_
        refine TriL.c1 rfl (op_cvi (ltb rfl) un5 un3 rfl) ?_
        refine TriL.c1 rfl (op_bin (ltb rfl) rfl rfl rfl) ?_
        refine TriL.c1 rfl (op_as (ltb rfl) rfl) ?_
        refine TriL.nil ?_
        refine Tri.ret ?_
        exact ⟨.inr rfl, (ResOK.r1 rfl (.tmp rfl .nil)).cast (res_i64 (leaf2 (n := n) (m := n / 4294967296) (off := 32) (by first | rfl | decide) hm (leaf3 (by omega)) (by decide))), rfl⟩
  · refine Tri.skip ?_
    refine Tri.seq ?_
    refine Tri.seq ?_
    refine Tri.region ?_
    refine TriL.c1 rfl (op_mv (ltb rfl) rfl) ?_
    refine TriL.c1 rfl (op_bin (ltb rfl) rfl rfl rfl) ?_
    refine TriL.nil ?_
    refine Tri.cond rfl (fun hc5 => ?_) (fun hc5 => ?_)
    · refine Tri.seq ?_
      refine Tri.region ?_
      refine TriL.c1 rfl (op_mv (ltb rfl) rfl) ?_
      refine TriL.c1 rfl (op_shr (ltb rfl) rfl rfl (by decide)) ?_
      refine TriL.c1 rfl (op_as (ltb rfl) rfl) ?_
      refine TriL.nil ?_
      refine Tri.region ?_
      refine TriL.c1 rfl (op_mv (ltb rfl) rfl) ?_
      refine TriL.c1 rfl (op_bin (ltb rfl) rfl rfl rfl) ?_
      refine TriL.c1 rfl (op_as (ltb rfl) rfl) ?_
      refine TriL.nil ?_
      refine Tri.seq ?_
      refine Tri.seq ?_
      refine Tri.region ?_
      refine TriL.c1 rfl (op_mv (ltb rfl) rfl) ?_
      refine TriL.c1 rfl (op_bin (ltb rfl) rfl rfl rfl) ?_
      refine TriL.nil ?_
      refine Tri.cond rfl (fun hc6 => ?_) (fun hc6 => ?_)
      · refine Tri.seq ?_
        refine Tri.region ?_
        refine TriL.c1 rfl (op_mv (ltb rfl) rfl) ?_
        refine TriL.c1 rfl (op_shr (ltb rfl) rfl rfl (by decide)) ?_
        refine TriL.c1 rfl (op_as (ltb rfl) rfl) ?_
        refine TriL.nil ?_
        refine Tri.region ?_
        refine TriL.c1 rfl (op_mv (ltb rfl) rfl) ?_
        refine TriL.c1 rfl (op_bin (ltb rfl) rfl rfl rfl) ?_
        refine TriL.c1 rfl (op_as (ltb rfl) rfl) ?_
        refine TriL.nil ?_
        refine Tri.seq ?_
        refine Tri.region ?_
        refine TriL.c1 rfl (op_mv (ltb rfl) rfl) ?_
        refine TriL.c1 rfl (op_mv (ltb rfl) rfl) ?_
        refine TriL.c1 rfl (op_cvi (ltb rfl) un50 un5 rfl) ?_
        have q0 : ¬ (((4294967296 : Nat) : Int) ≤ ((n : Nat) : Int)) := of_decide_eq_false hc1
        have q1 : (((65536 : Nat) : Int) ≤ ((n : Nat) : Int)) := of_decide_eq_true hc5
        have q2 : (((256 : Nat) : Int) ≤ ((n / 65536 : Nat) : Int)) := of_decide_eq_true hc6
        have hm : n / 65536 / 256 < 256 := by omega
        refine TriL.c1 rfl (op_ixs (ltb rfl) un9 rfl rfl (leaf0 (m := n / 65536 / 256) hm) (leaf1 (m := n / 65536 / 256) hm)) ?_
        refine TriL.c1 rfl (op_cvi (ltb rfl) un5 un3 rfl) ?_
        refine TriL.c1 rfl (op_bin (ltb rfl) rfl rfl rfl) ?_
        refine TriL.c1 rfl (op_as (ltb rfl) rfl) ?_
        refine TriL.nil ?_
        refine Tri.ret ?_
        exact ⟨.inr rfl, (ResOK.r1 rfl (.tmp rfl .nil)).cast (res_i64 (leaf2 (n := n) (m := n / 65536 / 256) (off := 24) (by first | rfl | decide) hm (leaf7 (by omega) (by omega)) (by decide))), rfl⟩
      · refine Tri.skip ?_
        refine Tri.seq ?_
        refine Tri.region ?_
        refine TriL.c1 rfl (op_mv (ltb rfl) rfl) ?_
        refine TriL.c1 rfl (op_mv (ltb rfl) rfl) ?_
        refine TriL.c1 rfl (op_cvi (ltb rfl) un50 un5 rfl) ?_
        have q0 : ¬ (((4294967296 : Nat) : Int) ≤ ((n : Nat) : Int)) := of_decide_eq_false hc1
        have q1 : (((65536 : Nat) : Int) ≤ ((n : Nat) : Int)) := of_decide_eq_true hc5
        have q2 : ¬ (((256 : Nat) : Int) ≤ ((n / 65536 : Nat) : Int)) := of_decide_eq_false hc6
        have hm : n / 65536 < 256 := by omega
        refine TriL.c1 rfl (op_ixs (ltb rfl) un9 rfl rfl (leaf0 (m := n / 65536) hm) (leaf1 (m := n / 65536) hm)) ?_
        refine TriL.c1 rfl (op_cvi (ltb rfl) un5 un3 rfl) ?_
        refine TriL.c1 rfl (op_bin (ltb rfl) rfl rfl rfl) ?_
        refine TriL.c1 rfl (op_as (ltb rfl) rfl) ?_
        refine TriL.nil ?_
        refine Tri.ret ?_
        exact ⟨.inr rfl, (ResOK.r1 rfl (.tmp rfl .nil)).cast (res_i64 (leaf2 (n := n) (m := n / 65536) (off := 16) (by first | rfl | decide) hm (leaf6 (by omega)) (by decide))), rfl⟩
    · refine Tri.skip ?_
      refine Tri.seq ?_
      refine Tri.seq ?_
      refine Tri.region ?_
      refine TriL.c1 rfl (op_mv (ltb rfl) rfl) ?_
      refine TriL.c1 rfl (op_bin (ltb rfl) rfl rfl rfl) ?_
      refine TriL.nil ?_
      refine Tri.cond rfl (fun hc7 => ?_) (fun hc7 => ?_)
      · refine Tri.seq ?_
        refine Tri.region ?_
        refine TriL.c1 rfl (op_mv (ltb rfl) rfl) ?_
        refine TriL.c1 rfl (op_shr (ltb rfl) rfl rfl (by decide)) ?_
        refine TriL.c1 rfl (op_as (ltb rfl) rfl) ?_
        refine TriL.nil ?_
        refine Tri.region ?_
        refine TriL.c1 rfl (op_mv (ltb rfl) rfl) ?_
        refine TriL.c1 rfl (op_bin (ltb rfl) rfl rfl rfl) ?_
        refine TriL.c1 rfl (op_as (ltb rfl) rfl) ?_
        refine TriL.nil ?_
        refine Tri.seq ?_
        refine Tri.region ?_
        refine TriL.c1 rfl (op_mv (ltb rfl) rfl) ?_
        refine TriL.c1 rfl (op_mv (ltb rfl) rfl) ?_
        refine TriL.c1 rfl (op_cvi (ltb rfl) un50 un5 rfl) ?_
        have q0 : ¬ (((4294967296 : Nat) : Int) ≤ ((n : Nat) : Int)) := of_decide_eq_false hc1
        have q1 : ¬ (((65536 : Nat) : Int) ≤ ((n : Nat) : Int)) := of_decide_eq_false hc5
        have q2 : (((256 : Nat) : Int) ≤ ((n : Nat) : Int)) := of_decide_eq_true hc7
        have hm : n / 256 < 256 := by omega
        refine TriL.c1 rfl (op_ixs (ltb rfl) un9 rfl rfl (leaf0 (m := n / 256) hm) (leaf1 (m := n / 256) hm)) ?_
        refine TriL.c1 rfl (op_cvi (ltb rfl) un5 un3 rfl) ?_
        refine TriL.c1 rfl (op_bin (ltb rfl) rfl rfl rfl) ?_
        refine TriL.c1 rfl (op_as (ltb rfl) rfl) ?_
        refine TriL.nil ?_
        refine Tri.ret ?_
        exact ⟨.inr rfl, (ResOK.r1 rfl (.tmp rfl .nil)).cast (res_i64 (leaf2 (n := n) (m := n / 256) (off := 8) (by first | rfl | decide) hm (leaf8 (by omega)) (by decide))), rfl⟩
      · refine Tri.skip ?_
        refine Tri.seq ?_
        refine Tri.region ?_
        refine TriL.c1 rfl (op_mv (ltb rfl) rfl) ?_
        refine TriL.c1 rfl (op_mv (ltb rfl) rfl) ?_
        refine TriL.c1 rfl (op_cvi (ltb rfl) un50 un5 rfl) ?_
        have q0 : ¬ (((4294967296 : Nat) : Int) ≤ ((n : Nat) : Int)) := of_decide_eq_false hc1
        have q1 : ¬ (((65536 : Nat) : Int) ≤ ((n : Nat) : Int)) := of_decide_eq_false hc5
        have q2 : ¬ (((256 : Nat) : Int) ≤ ((n : Nat) : Int)) := of_decide_eq_false hc7
        have hm : n < 256 := by omega
        refine TriL.c1 rfl (op_ixs (ltb rfl) un9 rfl rfl (leaf0 (m := n) hm) (leaf1 (m := n) hm)) ?_
        refine TriL.c1 rfl (op_cvi (ltb rfl) un5 un3 rfl) ?_
        refine TriL.c1 rfl (op_bin (ltb rfl) rfl rfl rfl) ?_
        refine TriL.c1 rfl (op_as (ltb rfl) rfl) ?_
        refine TriL.nil ?_
        refine Tri.ret ?_
        exact ⟨.inr rfl, (ResOK.r1 rfl (.tmp rfl .nil)).cast (res_i64 (leaf2 (n := n) (m := n) (off := 0) (by first | rfl | decide) hm (rfl) (by decide))), rfl⟩
end Go.Proofs.Ytecjdohpfijmpaa.X
