/- fix: Put4, Put8. -/
import Derived.Test.YtecjdohpfijmpaaE11
import Derived.Test.YtecjdohpfijmpaaXK
set_option linter.unusedVariables false
set_option linter.unusedSimpArgs false
namespace Go.Proofs.Ytecjdohpfijmpaa.X
open Go Go.RowKit Go.Proofs
theorem ia91 : ia Try.prog 91 = some 8 := by kernel_rfl
/-- the byte k of a number -/
def nb (n k : Nat) : UInt8 := UInt8.ofNat (n / 2 ^ (8 * k))
def wc (n i k : Nat) : AV := .int .u8 (if k < i then ((nb n k).toNat : Int) else 0)
def w8 (n i : Nat) : List AV := [wc n i 0, wc n i 1, wc n i 2, wc n i 3, wc n i 4, wc n i 5, wc n i 6, wc n i 7]
def StW (H : Hp) (n i : Nat) (j : Int) : St := [(.h, .hp H), (.s 0, .sv (.v (.int .u64 (n : Int)))), (.s 2, .sv (.lp 2 0)), (.s 3, .sv (.lp 3 0)), (.s 5, .sv (.v (.int .i64 j))), (.b 2, .bx [.v (.int .u8 0), .v (.int .u8 0), .v (.int .u8 0), .v (.int .u8 0), .v (.int .u8 0), .v (.int .u8 0), .v (.int .u8 0), .v (.int .u8 0)]), (.b 3, .bx [.v (wc n i 0), .v (wc n i 1), .v (wc n i 2), .v (wc n i 3), .v (wc n i 4), .v (wc n i 5), .v (wc n i 6), .v (wc n i 7)])]
theorem w8_set (n i : Nat) (h : i < 8) : setAt [.v (wc n i 0), .v (wc n i 1), .v (wc n i 2), .v (wc n i 3), .v (wc n i 4), .v (wc n i 5), .v (wc n i 6), .v (wc n i 7)] (0 + i) [.v (.int .u8 ((nb n i).toNat : Int))] = [.v (wc n (i + 1) 0), .v (wc n (i + 1) 1), .v (wc n (i + 1) 2), .v (wc n (i + 1) 3), .v (wc n (i + 1) 4), .v (wc n (i + 1) 5), .v (wc n (i + 1) 6), .v (wc n (i + 1) 7)] := by
  have : ∀ j : Fin 8, j.val = i → setAt [.v (wc n j.val 0), .v (wc n j.val 1), .v (wc n j.val 2), .v (wc n j.val 3), .v (wc n j.val 4), .v (wc n j.val 5), .v (wc n j.val 6), .v (wc n j.val 7)] (0 + j.val) [.v (.int .u8 ((nb n j.val).toNat : Int))] = [.v (wc n (j.val + 1) 0), .v (wc n (j.val + 1) 1), .v (wc n (j.val + 1) 2), .v (wc n (j.val + 1) 3), .v (wc n (j.val + 1) 4), .v (wc n (j.val + 1) 5), .v (wc n (j.val + 1) 6), .v (wc n (j.val + 1) 7)] := by
    intro j _
    match j with
    | ⟨0, _⟩ => rfl
    | ⟨1, _⟩ => rfl
    | ⟨2, _⟩ => rfl
    | ⟨3, _⟩ => rfl
    | ⟨4, _⟩ => rfl
    | ⟨5, _⟩ => rfl
    | ⟨6, _⟩ => rfl
    | ⟨7, _⟩ => rfl

  exact this ⟨i, h⟩ rfl
theorem shr_byte (n i : Nat) (h : i < 8) : IntKind.u8.wrap ((n / 2 ^ (min (IntKind.i64.wrap (8 * (i : Int))).toNat IntKind.u64.bits) : Nat) : Int) = ((nb n i).toNat : Int) := by
  rw [wr64 (by omega) (by omega), show (8 * (i : Int)).toNat = 8 * i by omega, show min (8 * i) IntKind.u64.bits = 8 * i from Nat.min_eq_left (by show 8 * i ≤ 64; omega), byte_of]; rfl
theorem w8_set' (n i : Nat) (h : i < 8) : setAt [.v (wc n i 0), .v (wc n i 1), .v (wc n i 2), .v (wc n i 3), .v (wc n i 4), .v (wc n i 5), .v (wc n i 6), .v (wc n i 7)] (0 + ((i : Nat) : Int).toNat) (Sv.v (.int .u8 (IntKind.u8.wrap ((n / 2 ^ (min (IntKind.i64.wrap (8 * (i : Int))).toNat IntKind.u64.bits) : Nat) : Int)))).cells = [.v (wc n (i + 1) 0), .v (wc n (i + 1) 1), .v (wc n (i + 1) 2), .v (wc n (i + 1) 3), .v (wc n (i + 1) 4), .v (wc n (i + 1) 5), .v (wc n (i + 1) 6), .v (wc n (i + 1) 7)] := by
  rw [shr_byte n i h, Int.toNat_natCast]; exact w8_set n i h
/-- the first k bytes of a number -/
def fput (n k : Nat) : List UInt8 := (List.range k).map fun i => nb n i
theorem w8_take (n : Nat) : (w8 n 8).take 4 = bsl (fput n 4) ∧ (w8 n 8).take 8 = bsl (fput n 8) := ⟨rfl, rfl⟩
theorem bytesOf_pure (n : Nat) : Pure Try.prog 63 [.int .u64 (n : Int)] (.agg (w8 n 8)) := by
  refine Pure.of_tri Try.func63 rfl rfl (ltb rfl) fun H => ?_
  refine Tri.seq ?_
  refine Tri.region ?_
  refine TriL.c2 rfl (op_all (ltb rfl) zA91 rfl) ?_
  refine TriL.nil ?_
  refine Tri.seq ?_
  refine Tri.region ?_
  refine TriL.c2 rfl (op_all (ltb rfl) zA91 rfl) ?_
  refine TriL.nil ?_
  refine Tri.seq ?_
  refine Tri.seq ?_
  refine Tri.region ?_
  refine TriL.c1 rfl (op_mv (ltb rfl) rfl) ?_
  refine TriL.kept (Kept.keep [.h, .s 0, .s 2, .s 3, .s 5, .b 2, .b 3] rfl (by decide) (Kept.now ?_))
  refine Tri.blk ?_
  -- LOOP 1: KEEP
  refine Tri.loop (fun q s => ∃ (i : Nat) (j : Int), s = StW H n i j ∧ j = i ∧ i ≤ 8 ∧ q = 8 - i) ?_ (n := 8) ⟨0, 0, rfl, rfl, by omega, rfl⟩
  rintro q s ⟨i, j, rfl, hj, hi, rfl⟩
  refine Tri.seq ?_
  refine Tri.region ?_
  refine TriL.c1 rfl (op_bin (ltb rfl) rfl rfl rfl) ?_
  refine TriL.nil ?_
  refine Tri.seq ?_
  refine Tri.cond rfl (fun hc1 => ?_) (fun hc1 => ?_)
  · have hlt : i < 8 := by have := of_decide_eq_true hc1; omega
    subst hj
    refine Tri.skip ?_
    refine Tri.seq ?_
    refine Tri.blk ?_
    refine Tri.seq ?_
    refine Tri.region ?_
    refine TriL.c1 rfl (op_mv (ltb rfl) rfl) ?_
    refine TriL.c1 rfl (op_as (ltb rfl) rfl) ?_
    refine TriL.nil ?_
    refine Tri.region ?_
    refine TriL.c1 rfl (op_mv (ltb rfl) rfl) ?_
    refine TriL.c1 rfl (op_mv (ltb rfl) rfl) ?_
    refine TriL.c1 rfl (op_mv (ltb rfl) rfl) ?_
    refine TriL.c1 rfl (op_bin (ltb rfl) rfl rfl rfl) ?_
    refine TriL.c1 rfl (op_shr (ltb rfl) rfl rfl (by rw [wr64] <;> omega)) ?_
    refine TriL.c1 rfl (op_cvi (ltb rfl) un50 un5 rfl) ?_
    refine TriL.c1 rfl (op_iaa (ltb rfl) ia91 rfl rfl (by omega) (by show (i : Int) < ((8 : Nat) : Int); omega)) ?_
    refine TriL.c1 rfl (op_stl lk5 rfl rfl rfl rfl rfl (by show 0 + (i : Int).toNat + 1 ≤ 8; omega)) ?_
    refine TriL.nil ?_
    refine Tri.region ?_
    refine TriL.c1 rfl (op_bin (ltb rfl) rfl rfl rfl) ?_
    refine TriL.c1 rfl (op_mv (ltb rfl) rfl) ?_
    rw [w8_set' n i hlt]
    refine TriL.kept (Kept.keep [.h, .s 0, .s 2, .s 3, .s 5, .b 2, .b 3] rfl (by decide) (Kept.now ?_))
    refine ⟨8 - (i + 1), by omega, i + 1, _, rfl, by rw [wr64] <;> omega, by omega, rfl⟩
  · have hge : i = 8 := by have := of_decide_eq_false hc1; omega
    subst hge
    refine Tri.exit ?_
    refine Tri.seq ?_
    refine Tri.region ?_
    refine TriL.c1 rfl (op_ldl (ltb rfl) lk91 rfl rfl rfl) ?_
    refine TriL.c1 rfl (op_stl lk91 rfl rfl rfl rfl rfl (leb rfl)) ?_
    refine TriL.nil ?_
    refine Tri.ret ?_
    exact ⟨.inr rfl, (ResOK.r1 rfl (.cell lk91 rfl rfl rfl rfl .nil)), rfl⟩
theorem bytesOf_pure' {m : Int} {n : Nat} (e : m = n) : Pure Try.prog 63 [.int .u64 m] (.agg (w8 n 8)) := e ▸ bytesOf_pure n
theorem put4_pure (n : Nat) (h : n < 4294967296) : Pure Try.prog 56 [.int .u32 (n : Int)] (.sl (bsl (fput n 4))) := by
  refine Pure.of_tri Try.func56 rfl rfl (ltb rfl) fun H => ?_
  refine Tri.seq ?_
  refine Tri.region ?_
  refine TriL.c1 rfl (op_as (ltb rfl) rfl) ?_
  refine TriL.nil ?_
  refine Tri.seq ?_
  refine Tri.region ?_
  refine TriL.c1 rfl (op_mv (ltb rfl) rfl) ?_
  refine TriL.c1 rfl (op_cvi (ltb rfl) un62 un50 rfl) ?_
  refine TriL.c1 rfl (op_call (ltb rfl) fn63 rfl (bytesOf_pure' (n := n) (wru64 (by omega) (by omega)))) ?_
  refine TriL.c2 rfl (op_all (ltb rfl) zA91 rfl) ?_
  refine TriL.c1 rfl (op_stl lk91 rfl rfl rfl rfl rfl (leb rfl)) ?_
  refine TriL.nil ?_
  refine Tri.seq ?_
  refine Tri.region ?_
  refine TriL.c2 rfl (op_sla (ltb rfl) ia91 (xs := w8 n 8) rfl rfl rfl rfl (by decide) (by decide)) ?_
  refine TriL.c1 rfl (op_as (ltb rfl) rfl) ?_
  refine TriL.nil ?_
  refine Tri.ret ?_
  exact ⟨.inr rfl, (ResOK.r1 rfl (.tmp rfl .nil)), rfl⟩
theorem put8_pure (n : Nat) : Pure Try.prog 57 [.int .u64 (n : Int)] (.sl (bsl (fput n 8))) := by
  refine Pure.of_tri Try.func57 rfl rfl (ltb rfl) fun H => ?_
  refine Tri.seq ?_
  refine Tri.region ?_
  refine TriL.c1 rfl (op_as (ltb rfl) rfl) ?_
  refine TriL.nil ?_
  refine Tri.seq ?_
  refine Tri.region ?_
  refine TriL.c1 rfl (op_mv (ltb rfl) rfl) ?_
  refine TriL.c1 rfl (op_call (ltb rfl) fn63 rfl (bytesOf_pure n)) ?_
  refine TriL.c2 rfl (op_all (ltb rfl) zA91 rfl) ?_
  refine TriL.c1 rfl (op_stl lk91 rfl rfl rfl rfl rfl (leb rfl)) ?_
  refine TriL.nil ?_
  refine Tri.seq ?_
  refine Tri.region ?_
  refine TriL.c2 rfl (op_sla (ltb rfl) ia91 (xs := w8 n 8) (m := 8) rfl rfl rfl rfl (by decide) (by decide)) ?_
  refine TriL.c1 rfl (op_as (ltb rfl) rfl) ?_
  refine TriL.nil ?_
  refine Tri.ret ?_
  exact ⟨.inr rfl, (ResOK.r1 rfl (.tmp rfl .nil)), rfl⟩
end Go.Proofs.Ytecjdohpfijmpaa.X
