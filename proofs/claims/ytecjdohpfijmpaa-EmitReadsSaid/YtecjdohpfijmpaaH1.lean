/- hex, and its reference: what each function answers. -/
import Derived.Test.YtecjdohpfijmpaaHT
set_option linter.unusedVariables false
set_option linter.unusedSimpArgs false
namespace Go.Proofs.Ytecjdohpfijmpaa.X
open Go Go.RowKit Go.Proofs

def hexds : List UInt8 := [48, 49, 50, 51, 52, 53, 54, 55, 56, 57, 97, 98, 99, 100, 101, 102]
/-- a digit -/
def hexd (n : Nat) : UInt8 := hexds.getD (n % 16) 0
theorem digit_pure (c : Nat) : Pure Try.prog 36 [.int .u8 c] (.int .u8 (hexd c).toNat) := by
  have e : (c : Int).tmod 16 = ((c % 16 : Nat) : Int) := by rw [Int.tmod_eq_emod_of_nonneg (by omega)]; omega
  have h0 : 0 ≤ (c : Int).tmod 16 := by rw [e]; omega
  have hc : hexds[((c : Int).tmod 16).toNat]? = some (hexd c) := by
    rw [e, Int.toNat_natCast]
    have : c % 16 < hexds.length := Nat.mod_lt _ (by decide)
    rw [List.getElem?_eq_getElem this, hexd, List.getD_eq_getElem?_getD, List.getElem?_eq_getElem this]; rfl
  refine Pure.of_tri Try.func36 rfl rfl (ltb rfl) fun H => ?_
  refine Tri.seq ?_
  refine Tri.region ?_
  refine TriL.c1 rfl (op_as (ltb rfl) rfl) ?_
  refine TriL.nil ?_
  refine Tri.seq ?_
  refine Tri.region ?_
  refine TriL.c1 rfl (op_mv (ltb rfl) rfl) ?_
  refine TriL.c1 rfl (op_bin (ltb rfl) rfl rfl rfl) ?_
  refine TriL.c1 rfl (op_ixs (ltb rfl) un9 rfl rfl h0 hc) ?_
  refine TriL.c1 rfl (op_as (ltb rfl) rfl) ?_
  refine TriL.nil ?_
  refine Tri.ret ?_
  exact ⟨.inr rfl, ResOK.r1 rfl (.tmp rfl .nil), rfl⟩

/-! ### Numbers -/
theorem wr8 {n : Int} (h0 : 0 ≤ n) (h : n < 256) : IntKind.u8.wrap n = n := by simp only [IntKind.wrap, IntKind.bits, IntKind.signed]; simp; omega
theorem wr64 {n : Int} (h0 : -9223372036854775808 ≤ n) (h : n < 9223372036854775808) : IntKind.i64.wrap n = n := by simp only [IntKind.wrap, IntKind.bits, IntKind.signed]; simp; omega
theorem wr32 {n : Int} (h0 : -2147483648 ≤ n) (h : n < 2147483648) : IntKind.i32.wrap n = n := by simp only [IntKind.wrap, IntKind.bits, IntKind.signed]; simp; omega
theorem digit_pure' {m : Int} (c : Nat) (h : m = c) : Pure Try.prog 36 [.int .u8 m] (.int .u8 (hexd c).toNat) := h ▸ digit_pure c
theorem bsl_get {l : List UInt8} {i : Nat} {c : UInt8} {j : Int} (hj : j = i) (h : l[i]? = some c) : (bsl l)[j.toNat]? = some (.int .u8 (c.toNat : Int)) := by subst hj; simp [bsl, h]
/-- bytes' digits -/
def hexs (l : List UInt8) : List UInt8 := l.flatMap fun c => [hexd (c.toNat / 16), hexd c.toNat]
theorem hexs_take {l : List UInt8} {i : Nat} {c : UInt8} (h : l[i]? = some c) : hexs (l.take (i + 1)) = hexs (l.take i) ++ [hexd (c.toNat / 16), hexd c.toNat] := by
  rw [List.take_add_one, h]; simp [hexs]
theorem hexs_len (l : List UInt8) : (hexs l).length = 2 * l.length := by
  induction l with
  | nil => rfl
  | cons c l ih => simp only [hexs, List.flatMap_cons, List.length_append, List.length_cons, List.length_nil] at ih ⊢; omega
theorem bsl_len (l : List UInt8) : (bsl l).length = l.length := by simp [bsl]
theorem bsl_app (l m : List UInt8) : bsl (l ++ m) = bsl l ++ bsl m := by simp [bsl]

/-! ### hex.Put -/
def St9 (H : Hp) (l : List UInt8) (xs : List AV) (j : Int) : St := [(.h, .hp H), (.s 3, .sv (.ow 9 xs)), (.s 10, .sv (.v (.sl (bsl l)))), (.s 11, .sv (.v (.int .i64 (bsl l).length))), (.s 12, .sv (.v (.int .i64 j))), (.t 9, .tk false 5 1 xs)]
theorem put_pure (l : List UInt8) (hl : l.length ≤ 1073741824) : Pure Try.prog 9 [.sl (bsl l)] (.str (hexs l)) := by
  refine Pure.of_tri Try.func9 rfl rfl (ltb rfl) fun H => ?_
  have hln := bsl_len l
  refine Tri.seq ?_
  refine Tri.region ?_
  refine TriL.c1 rfl (op_as (ltb rfl) rfl) ?_
  refine TriL.nil ?_
  refine Tri.seq ?_
  refine Tri.region ?_
  refine TriL.c1 rfl (op_mv (ltb rfl) rfl) ?_
  refine TriL.c1 rfl (op_lenl (ltb rfl) un22 rfl) ?_
  refine TriL.c1 rfl (op_bin (ltb rfl) rfl rfl rfl) ?_
  have e2 : IntKind.i64.wrap (2 * ((bsl l).length : Int)) = 2 * (l.length : Int) := by rw [hln, wr64] <;> omega
  refine TriL.c2 rfl (op_mk0 (ltb rfl) se22 rfl rfl (by omega) (by omega) (by simp only [maxLen]; omega) rfl) ?_
  refine TriL.c1 rfl (op_as (ltb rfl) rfl) ?_
  refine TriL.nil ?_
  refine Tri.seq ?_
  refine Tri.seq ?_
  refine Tri.region ?_
  refine TriL.c1 rfl (op_mv (ltb rfl) rfl) ?_
  refine TriL.c1 rfl (op_lenl (ltb rfl) un22 rfl) ?_
  refine TriL.c1 rfl (op_mv (ltb rfl) rfl) ?_
  refine TriL.kept (Kept.keep [.h, .s 3, .s 10, .s 11, .s 12, .t 9] rfl (by decide) (Kept.now ?_))
  refine Tri.blk ?_
  refine Tri.loop (fun n s => ∃ (i : Nat) (xs : List AV) (j : Int), s = St9 H l xs j ∧ j = i ∧ xs = bsl (hexs (l.take i)) ∧ i ≤ l.length ∧ n = l.length - i) ?_ (n := l.length) ⟨0, [], 0, rfl, rfl, rfl, by omega, rfl⟩
  rintro n s ⟨i, xs, j, rfl, hj, hxs, hi, rfl⟩
  refine Tri.seq ?_
  refine Tri.region ?_
  refine TriL.c1 rfl (op_bin (ltb rfl) rfl rfl rfl) ?_
  refine TriL.nil ?_
  refine Tri.seq ?_
  refine Tri.cond rfl (fun hc1 => ?_) (fun hc1 => ?_)
  · have hlt : i < l.length := by have := of_decide_eq_true hc1; omega
    obtain ⟨c, hc⟩ : ∃ c, l[i]? = some c := ⟨l[i], List.getElem?_eq_getElem hlt⟩
    have hcb := c.toNat_lt
    have hxl : xs.length = 2 * i := by rw [hxs, bsl_len, hexs_len, List.length_take]; omega
    refine Tri.skip ?_
    refine Tri.seq ?_
    refine Tri.blk ?_
    refine Tri.seq ?_
    refine Tri.region ?_
    refine TriL.c1 rfl (op_iak (ltb rfl) ie22 rfl rfl (by omega) (bsl_get hj hc) rfl) ?_
    refine TriL.c1 rfl (op_ldk (ltb rfl) lk5 rfl rfl) ?_
    refine TriL.c1 rfl (op_as (ltb rfl) rfl) ?_
    refine TriL.nil ?_
    refine Tri.region ?_
    refine TriL.c1 rfl (op_mv (ltb rfl) rfl) ?_
    refine TriL.c1 rfl (op_mv (ltb rfl) rfl) ?_
    refine TriL.c1 rfl (op_bin (ltb rfl) rfl rfl rfl) ?_
    refine TriL.c1 rfl (op_call (ltb rfl) fn36 rfl (digit_pure' (c.toNat / 16) (by rw [Int.tdiv_eq_ediv_of_nonneg (by omega), wr8] <;> omega))) ?_
    refine TriL.c1 rfl (op_mv (ltb rfl) rfl) ?_
    refine TriL.c1 rfl (op_call (ltb rfl) fn36 rfl (digit_pure' c.toNat rfl)) ?_
    refine TriL.c1 rfl (op_lit («as» := [_, _]) (ltb rfl) se22 zAe22 rfl rfl rfl (leb rfl)) ?_
    refine TriL.c3 rfl (op_app (ltb rfl) se22 rfl rfl rfl rfl rfl (by simp only [List.length_cons, List.length_nil]; omega) (by simp only [List.length_cons, List.length_nil]; omega)) ?_
    refine TriL.c1 rfl (op_as (ltb rfl) rfl) ?_
    refine TriL.nil ?_
    refine Tri.region ?_
    refine TriL.c1 rfl (op_bin (ltb rfl) rfl rfl rfl) ?_
    refine TriL.c1 rfl (op_mv (ltb rfl) rfl) ?_
    refine TriL.kept (Kept.keep [.h, .s 3, .s 10, .s 11, .s 12, .t 23] rfl (by decide) (Kept.ren 23 9 (by decide) rfl (Kept.now ?_)))
    refine ⟨l.length - (i + 1), by omega, i + 1, _, _, rfl, ?_, ?_, by omega, rfl⟩
    · rw [wr64] <;> omega
    · rw [hexs_take hc, bsl_app, hxs]; rfl
  · have hge : ¬ i < l.length := by have := of_decide_eq_false hc1; omega
    refine Tri.exit ?_
    refine Tri.seq ?_
    refine Tri.region ?_
    refine TriL.c1 rfl (op_mv (ltb rfl) rfl) ?_
    refine TriL.c1 rfl (op_b2s (l := hexs l) (ltb rfl) un22 unel22 un9 rfl (by rw [hxs, List.take_of_length_le (by omega)]; exact bytesOf_bsl _)) ?_
    refine TriL.c1 rfl (op_as (ltb rfl) rfl) ?_
    refine TriL.nil ?_
    refine Tri.ret ?_
    exact ⟨.inr rfl, ResOK.r1 rfl (.tmp rfl .nil), rfl⟩
end Go.Proofs.Ytecjdohpfijmpaa.X
