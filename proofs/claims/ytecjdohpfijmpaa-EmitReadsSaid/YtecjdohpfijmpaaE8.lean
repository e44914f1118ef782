/- tag.Of. -/
import Derived.Test.YtecjdohpfijmpaaE7
set_option linter.unusedVariables false
set_option linter.unusedSimpArgs false
namespace Go.Proofs.Ytecjdohpfijmpaa.X
open Go Go.RowKit Go.Proofs
theorem wru64 {n : Int} (h0 : 0 ≤ n) (h : n < 18446744073709551616) : IntKind.u64.wrap n = n := by simp only [IntKind.wrap, IntKind.bits, IntKind.signed]; simp; omega
theorem or_low (n w : Nat) (hn : n < 2 ^ 32) (hw : w < 8) : ibits .or .u64 ((8 * n : Nat) : Int) (w : Int) = ((8 * n + w : Nat) : Int) := by
  have e1 : (BitVec.ofInt 64 ((8 * n : Nat) : Int)).toNat = 8 * n := by rw [BitVec.toNat_ofInt]; omega
  have e2 : (BitVec.ofInt 64 ((w : Nat) : Int)).toNat = w := by rw [BitVec.toNat_ofInt]; omega
  show IntKind.u64.wrap (((BitVec.ofInt 64 ((8 * n : Nat) : Int)) ||| (BitVec.ofInt 64 ((w : Nat) : Int))).toNat : Int) = _
  rw [BitVec.toNat_or, e1, e2]
  have e3 : 8 * n ||| w = 8 * n + w := by
    have := Nat.shiftLeft_add_eq_or_of_lt (a := n) (b := w) (i := 3) (by omega)
    rw [Nat.shiftLeft_eq] at this
    rw [show 8 * n = n * 2 ^ 3 by omega]
    exact this.symm
  rw [e3, wru64] <;> omega
/-- what stands ahead of a field -/
def tagnum (n w : Int) : Int := if rightok n w then 8 * n + w else 0
theorem of_pure (n w : Int) : Pure Try.prog 44 [.int .i64 n, .int .i64 w] (.tup [.int .u64 (tagnum n w), .bool (rightok n w)]) := by
  refine Pure.of_tri Try.func44 rfl rfl (ltb rfl) fun H => ?_
  refine Tri.seq ?_
  refine Tri.region ?_
  refine TriL.c1 rfl (op_as (ltb rfl) rfl) ?_
  refine TriL.c1 rfl (op_as (ltb rfl) rfl) ?_
  refine TriL.nil ?_
  refine Tri.seq ?_
  refine Tri.seq ?_
  refine Tri.region ?_
  refine TriL.c1 rfl (op_mv (ltb rfl) rfl) ?_
  refine TriL.c1 rfl (op_mv (ltb rfl) rfl) ?_
  refine TriL.c1 rfl (op_call (ltb rfl) fn41 rfl (right_pure n w)) ?_
  refine TriL.c1 rfl (op_un (ltb rfl) rfl rfl) ?_
  refine TriL.nil ?_
  refine Tri.cond rfl (fun hc1 => ?_) (fun hc1 => ?_)
  · have h1 : rightok n w = false := by simpa using hc1
    refine Tri.seq ?_
    refine Tri.region ?_
    refine TriL.c1 rfl (op_as (ltb rfl) rfl) ?_
    refine TriL.c1 rfl (op_as (ltb rfl) rfl) ?_
    refine TriL.nil ?_
    refine Tri.ret ?_
    exact ⟨.inr rfl, (ResOK.r2 rfl (.tmp rfl (.tmp rfl .nil))).cast (by simp [tagnum, h1]), rfl⟩
  · have h1 : rightok n w = true := by simpa using hc1
    have h2 := of_decide_eq_true h1
    obtain ⟨k, rfl⟩ : ∃ k : Nat, n = k := ⟨n.toNat, by omega⟩
    obtain ⟨v, rfl⟩ : ∃ v : Nat, w = v := ⟨w.toNat, by omega⟩
    refine Tri.skip ?_
    refine Tri.seq ?_
    refine Tri.region ?_
    refine TriL.c1 rfl (op_mv (ltb rfl) rfl) ?_
    refine TriL.c1 rfl (op_cvi (ltb rfl) Try.underlying3 un50 rfl) ?_
    refine TriL.c1 rfl (op_bin (ltb rfl) rfl rfl rfl) ?_
    refine TriL.c1 rfl (op_mv (ltb rfl) rfl) ?_
    refine TriL.c1 rfl (op_cvi (ltb rfl) Try.underlying3 un50 rfl) ?_
    refine TriL.c1 rfl (op_bin (ltb rfl) rfl rfl rfl) ?_
    refine TriL.c1 rfl (op_as (ltb rfl) rfl) ?_
    refine TriL.c1 rfl (op_as (ltb rfl) rfl) ?_
    refine TriL.nil ?_
    refine Tri.ret ?_
    refine ⟨.inr rfl, (ResOK.r2 rfl (.tmp rfl (.tmp rfl .nil))).cast ?_, rfl⟩
    have e1 : IntKind.u64.wrap (k : Int) = k := wru64 (by omega) (by omega)
    have e2 : IntKind.u64.wrap (v : Int) = v := wru64 (by omega) (by omega)
    have e3 : IntKind.u64.wrap (IntKind.u64.wrap (k : Int) * 2 ^ (min (Int.toNat 3) (IntKind.bits .u64))) = ((8 * k : Nat) : Int) := by
      rw [e1, show (min (Int.toNat 3) (IntKind.bits .u64)) = 3 from rfl, wru64] <;> omega
    rw [e3, e2, or_low k v (by omega) (by omega), tagnum, h1]
    simp
end Go.Proofs.Ytecjdohpfijmpaa.X
