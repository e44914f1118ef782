/- What the types and functions of the program are, as the rules ask it. No condition. -/
import Derived.Test.YtecjdohpfijmpaaYB
import Derived.Test.YtecjdohpfijmpaaProg
import Derived.KernelRfl
namespace Go.Proofs.Ytecjdohpfijmpaa.X
open Go Go.Proofs
theorem mixed : Try.prog.follows .mixedOrders = true := by kernel_rfl
theorem fn10 : isFn Try.prog 10 = true := by kernel_rfl
theorem fn11 : isFn Try.prog 11 = true := by kernel_rfl
theorem fn12 : isFn Try.prog 12 = true := by kernel_rfl
theorem fn13 : isFn Try.prog 13 = true := by kernel_rfl
theorem fn14 : isFn Try.prog 14 = true := by kernel_rfl
theorem fn31 : isFn Try.prog 31 = true := by kernel_rfl
theorem fn36 : isFn Try.prog 36 = true := by kernel_rfl
theorem fn37 : isFn Try.prog 37 = true := by kernel_rfl
theorem fn38 : isFn Try.prog 38 = true := by kernel_rfl
theorem fn39 : isFn Try.prog 39 = true := by kernel_rfl
theorem fn40 : isFn Try.prog 40 = true := by kernel_rfl
theorem fn41 : isFn Try.prog 41 = true := by kernel_rfl
theorem fn46 : isFn Try.prog 46 = true := by kernel_rfl
theorem fn58 : isFn Try.prog 58 = true := by kernel_rfl
theorem fn59 : isFn Try.prog 59 = true := by kernel_rfl
theorem fn63 : isFn Try.prog 63 = true := by kernel_rfl
theorem fn64 : isFn Try.prog 64 = true := by kernel_rfl
theorem fn9 : isFn Try.prog 9 = true := by kernel_rfl
theorem fo59_0 : fo Try.prog 59 0 = some 0 := by kernel_rfl
theorem fo59_1 : fo Try.prog 59 1 = some 1 := by kernel_rfl
theorem fo59_2 : fo Try.prog 59 2 = some 2 := by kernel_rfl
theorem ie22 : ie Try.prog 22 = some 1 := by kernel_rfl
theorem ie54 : ie Try.prog 54 = some 1 := by kernel_rfl
theorem lk22 : lk Try.prog 22 = some (false, 1) := by kernel_rfl
theorem lk4 : lk Try.prog 4 = some (false, 1) := by kernel_rfl
theorem lk5 : lk Try.prog 5 = some (false, 1) := by kernel_rfl
theorem lk57 : lk Try.prog 57 = some (false, 1) := by kernel_rfl
theorem lk91 : lk Try.prog 91 = some (true, 8) := by kernel_rfl
theorem se22 : se Try.prog 22 = some (5, 1, 1) := by kernel_rfl
theorem se57 : se Try.prog 57 = some (72, 2, 16) := by kernel_rfl
theorem spl59 : spl Try.prog 59 = some [(0, 1), (1, 1), (2, 1)] := by kernel_rfl
theorem spl72 : spl Try.prog 72 = some [(0, 1), (1, 1)] := by kernel_rfl
theorem un21 : Try.prog.underlying 21 = some (TypeDesc.int IntKind.i32) := Try.underlying21
theorem un22 : Try.prog.underlying 22 = some (TypeDesc.slice 5) := Try.underlying22
theorem un3 : Try.prog.underlying 3 = some (TypeDesc.int IntKind.i64) := Try.underlying3
theorem un4 : Try.prog.underlying 4 = some TypeDesc.bool := Try.underlying4
theorem un5 : Try.prog.underlying 5 = some (TypeDesc.int IntKind.u8) := Try.underlying5
theorem un50 : Try.prog.underlying 50 = some (TypeDesc.int IntKind.u64) := Try.underlying50
theorem un54 : Try.prog.underlying 54 = some (TypeDesc.slice 22) := Try.underlying54
theorem un57 : Try.prog.underlying 57 = some (TypeDesc.slice 72) := Try.underlying57
theorem un62 : Try.prog.underlying 62 = some (TypeDesc.int IntKind.u32) := Try.underlying62
theorem un9 : Try.prog.underlying 9 = some TypeDesc.string := Try.underlying9
theorem unel22 : Try.prog.underlying 5 = some (TypeDesc.int IntKind.u8) := Try.underlying5
theorem zA91 : zeroA Try.prog 91 = some [AV.int IntKind.u8 (0), AV.int IntKind.u8 (0), AV.int IntKind.u8 (0), AV.int IntKind.u8 (0), AV.int IntKind.u8 (0), AV.int IntKind.u8 (0), AV.int IntKind.u8 (0), AV.int IntKind.u8 (0)] := by kernel_rfl
theorem zAe22 : zeroA Try.prog 5 = some [AV.int IntKind.u8 (0)] := by kernel_rfl
theorem zAe57 : zeroA Try.prog 72 = some [AV.int IntKind.i64 (0), AV.int IntKind.i64 (0)] := by kernel_rfl
end Go.Proofs.Ytecjdohpfijmpaa.X
/- hex, and its reference: what each function answers. -/
set_option linter.unusedVariables false
set_option linter.unusedSimpArgs false
namespace Go.Proofs.Ytecjdohpfijmpaa.X
open Go Go.RowKit Go.Proofs

def hexds : List UInt8 := [48, 49, 50, 51, 52, 53, 54, 55, 56, 57, 97, 98, 99, 100, 101, 102]
/-- a digit -/
def hexd (n : Nat) : UInt8 := hexds.getD (n % 16) 0
theorem digit_pure (c : Nat) : Pure Try.prog 36 [.int .u8 c] (.int .u8 (hexd c).toNat) := by
  have e : (c : Int).tmod 16 = ((c % 16 : Nat) : Int) := by rw [Int.tmod_eq_emod_of_nonneg (by omega)]; omega
  have h0 : 0 ≤ (c : Int).tmod 16 := by rw [e]; omega
  have hc : hexds[((c : Int).tmod 16).toNat]? = some (hexd c) := by
    rw [e, Int.toNat_natCast]
    have : c % 16 < hexds.length := Nat.mod_lt _ (by decide)
    rw [List.getElem?_eq_getElem this, hexd, List.getD_eq_getElem?_getD, List.getElem?_eq_getElem this]; rfl
  refine Pure.of_tri Try.func36 rfl rfl (ltb rfl) fun H => ?_
  refine Tri.seq ?_
  refine Tri.region ?_
  refine TriL.c1 rfl (op_as (ltb rfl) rfl) ?_
  refine TriL.nil ?_
  refine Tri.seq ?_
  refine Tri.region ?_
  refine TriL.c1 rfl (op_mv (ltb rfl) rfl) ?_
  refine TriL.c1 rfl (op_bin (ltb rfl) rfl rfl rfl) ?_
  refine TriL.c1 rfl (op_ixs (ltb rfl) un9 rfl rfl h0 hc) ?_
  refine TriL.c1 rfl (op_as (ltb rfl) rfl) ?_
  refine TriL.nil ?_
  refine Tri.ret ?_
  exact ⟨.inr rfl, ResOK.r1 rfl (.tmp rfl .nil), rfl⟩

/-! ### Numbers -/
theorem wr8 {n : Int} (h0 : 0 ≤ n) (h : n < 256) : IntKind.u8.wrap n = n := by simp only [IntKind.wrap, IntKind.bits, IntKind.signed]; simp; omega
theorem wr64 {n : Int} (h0 : -9223372036854775808 ≤ n) (h : n < 9223372036854775808) : IntKind.i64.wrap n = n := by simp only [IntKind.wrap, IntKind.bits, IntKind.signed]; simp; omega
theorem wr32 {n : Int} (h0 : -2147483648 ≤ n) (h : n < 2147483648) : IntKind.i32.wrap n = n := by simp only [IntKind.wrap, IntKind.bits, IntKind.signed]; simp; omega
theorem digit_pure' {m : Int} (c : Nat) (h : m = c) : Pure Try.prog 36 [.int .u8 m] (.int .u8 (hexd c).toNat) := h ▸ digit_pure c
theorem bsl_get {l : List UInt8} {i : Nat} {c : UInt8} {j : Int} (hj : j = i) (h : l[i]? = some c) : (bsl l)[j.toNat]? = some (.int .u8 (c.toNat : Int)) := by subst hj; simp [bsl, h]
/-- bytes' digits -/
def hexs (l : List UInt8) : List UInt8 := l.flatMap fun c => [hexd (c.toNat / 16), hexd c.toNat]
theorem hexs_take {l : List UInt8} {i : Nat} {c : UInt8} (h : l[i]? = some c) : hexs (l.take (i + 1)) = hexs (l.take i) ++ [hexd (c.toNat / 16), hexd c.toNat] := by
  rw [List.take_add_one, h]; simp [hexs]
theorem hexs_len (l : List UInt8) : (hexs l).length = 2 * l.length := by
  induction l with
  | nil => rfl
  | cons c l ih => simp only [hexs, List.flatMap_cons, List.length_append, List.length_cons, List.length_nil] at ih ⊢; omega
theorem bsl_len (l : List UInt8) : (bsl l).length = l.length := by simp [bsl]
theorem bsl_app (l m : List UInt8) : bsl (l ++ m) = bsl l ++ bsl m := by simp [bsl]

/-! ### hex.Put -/
def St9 (H : Hp) (l : List UInt8) (xs : List AV) (j : Int) : St := [(.h, .hp H), (.s 3, .sv (.ow 9 xs)), (.s 10, .sv (.v (.sl (bsl l)))), (.s 11, .sv (.v (.int .i64 (bsl l).length))), (.s 12, .sv (.v (.int .i64 j))), (.t 9, .tk false 5 1 xs)]
theorem put_pure (l : List UInt8) (hl : l.length ≤ 1073741824) : Pure Try.prog 9 [.sl (bsl l)] (.str (hexs l)) := by
  refine Pure.of_tri Try.func9 rfl rfl (ltb rfl) fun H => ?_
  have hln := bsl_len l
  refine Tri.seq ?_
  refine Tri.region ?_
  refine TriL.c1 rfl (op_as (ltb rfl) rfl) ?_
  refine TriL.nil ?_
  refine Tri.seq ?_
  refine Tri.region ?_
  refine TriL.c1 rfl (op_mv (ltb rfl) rfl) ?_
  refine TriL.c1 rfl (op_lenl (ltb rfl) un22 rfl) ?_
  refine TriL.c1 rfl (op_bin (ltb rfl) rfl rfl rfl) ?_
  have e2 : IntKind.i64.wrap (2 * ((bsl l).length : Int)) = 2 * (l.length : Int) := by rw [hln, wr64] <;> omega
  refine TriL.c2 rfl (op_mk0 (ltb rfl) se22 rfl rfl (by omega) (by omega) (by simp only [maxLen]; omega) rfl) ?_
  refine TriL.c1 rfl (op_as (ltb rfl) rfl) ?_
  refine TriL.nil ?_
  refine Tri.seq ?_
  refine Tri.seq ?_
  refine Tri.region ?_
  refine TriL.c1 rfl (op_mv (ltb rfl) rfl) ?_
  refine TriL.c1 rfl (op_lenl (ltb rfl) un22 rfl) ?_
  refine TriL.c1 rfl (op_mv (ltb rfl) rfl) ?_
  refine TriL.kept (Kept.keep [.h, .s 3, .s 10, .s 11, .s 12, .t 9] rfl (by decide) (Kept.now ?_))
  refine Tri.blk ?_
  refine Tri.loop (fun n s => ∃ (i : Nat) (xs : List AV) (j : Int), s = St9 H l xs j ∧ j = i ∧ xs = bsl (hexs (l.take i)) ∧ i ≤ l.length ∧ n = l.length - i) ?_ (n := l.length) ⟨0, [], 0, rfl, rfl, rfl, by omega, rfl⟩
  rintro n s ⟨i, xs, j, rfl, hj, hxs, hi, rfl⟩
  refine Tri.seq ?_
  refine Tri.region ?_
  refine TriL.c1 rfl (op_bin (ltb rfl) rfl rfl rfl) ?_
  refine TriL.nil ?_
  refine Tri.seq ?_
  refine Tri.cond rfl (fun hc1 => ?_) (fun hc1 => ?_)
  · have hlt : i < l.length := by have := of_decide_eq_true hc1; omega
    obtain ⟨c, hc⟩ : ∃ c, l[i]? = some c := ⟨l[i], List.getElem?_eq_getElem hlt⟩
    have hcb := c.toNat_lt
    have hxl : xs.length = 2 * i := by rw [hxs, bsl_len, hexs_len, List.length_take]; omega
    refine Tri.skip ?_
    refine Tri.seq ?_
    refine Tri.blk ?_
    refine Tri.seq ?_
    refine Tri.region ?_
    refine TriL.c1 rfl (op_iak (ltb rfl) ie22 rfl rfl (by omega) (bsl_get hj hc) rfl) ?_
    refine TriL.c1 rfl (op_ldk (ltb rfl) lk5 rfl rfl) ?_
    refine TriL.c1 rfl (op_as (ltb rfl) rfl) ?_
    refine TriL.nil ?_
    refine Tri.region ?_
    refine TriL.c1 rfl (op_mv (ltb rfl) rfl) ?_
    refine TriL.c1 rfl (op_mv (ltb rfl) rfl) ?_
    refine TriL.c1 rfl (op_bin (ltb rfl) rfl rfl rfl) ?_
    refine TriL.c1 rfl (op_call (ltb rfl) fn36 rfl (digit_pure' (c.toNat / 16) (by rw [Int.tdiv_eq_ediv_of_nonneg (by omega), wr8] <;> omega))) ?_
    refine TriL.c1 rfl (op_mv (ltb rfl) rfl) ?_
    refine TriL.c1 rfl (op_call (ltb rfl) fn36 rfl (digit_pure' c.toNat rfl)) ?_
    refine TriL.c1 rfl (op_lit («as» := [_, _]) (ltb rfl) se22 zAe22 rfl rfl rfl (leb rfl)) ?_
    refine TriL.c3 rfl (op_app (ltb rfl) se22 rfl rfl rfl rfl rfl (by simp only [List.length_cons, List.length_nil]; omega) (by simp only [List.length_cons, List.length_nil]; omega)) ?_
    refine TriL.c1 rfl (op_as (ltb rfl) rfl) ?_
    refine TriL.nil ?_
    refine Tri.region ?_
    refine TriL.c1 rfl (op_bin (ltb rfl) rfl rfl rfl) ?_
    refine TriL.c1 rfl (op_mv (ltb rfl) rfl) ?_
    refine TriL.kept (Kept.keep [.h, .s 3, .s 10, .s 11, .s 12, .t 23] rfl (by decide) (Kept.ren 23 9 (by decide) rfl (Kept.now ?_)))
    refine ⟨l.length - (i + 1), by omega, i + 1, _, _, rfl, ?_, ?_, by omega, rfl⟩
    · rw [wr64] <;> omega
    · rw [hexs_take hc, bsl_app, hxs]; rfl
  · have hge : ¬ i < l.length := by have := of_decide_eq_false hc1; omega
    refine Tri.exit ?_
    refine Tri.seq ?_
    refine Tri.region ?_
    refine TriL.c1 rfl (op_mv (ltb rfl) rfl) ?_
    refine TriL.c1 rfl (op_b2s (l := hexs l) (ltb rfl) un22 unel22 un9 rfl (by rw [hxs, List.take_of_length_le (by omega)]; exact bytesOf_bsl _)) ?_
    refine TriL.c1 rfl (op_as (ltb rfl) rfl) ?_
    refine TriL.nil ?_
    refine Tri.ret ?_
    exact ⟨.inr rfl, ResOK.r1 rfl (.tmp rfl .nil), rfl⟩
end Go.Proofs.Ytecjdohpfijmpaa.X
/- hex, and its reference: the small functions. -/
set_option linter.unusedVariables false
set_option linter.unusedSimpArgs false
namespace Go.Proofs.Ytecjdohpfijmpaa.X
open Go Go.RowKit Go.Proofs
/-- is it a digit? -/
def hexok (c : Int) : Bool := decide ((48 ≤ c ∧ c ≤ 57) ∨ (97 ≤ c ∧ c ≤ 102))
/-- a digit's number -/
def hexval (c : Int) : Int := if 48 ≤ c ∧ c ≤ 57 then c - 48 else if 97 ≤ c ∧ c ≤ 102 then c - 87 else 0
theorem hexval_lt (c : Int) : 0 ≤ hexval c ∧ hexval c < 16 := by unfold hexval; (repeat' split) <;> omega
theorem res_tup2 {x y : Int} {b c : Bool} (h : x = y) (k : b = c) : AV.tup [.int .u8 x, .bool b] = .tup [.int .u8 y, .bool c] := by rw [h, k]
theorem res_i64 {x y : Int} (h : x = y) : AV.int .i64 x = .int .i64 y := by rw [h]
theorem res_u8 {x y : Int} (h : x = y) : AV.int .u8 x = .int .u8 y := by rw [h]
theorem res_bool {x y : Bool} (h : x = y) : AV.bool x = .bool y := by rw [h]
theorem value_pure (c : Int) (h0 : 0 ≤ c) (h1 : c < 2147483648) : Pure Try.prog 37 [.int .i32 c] (.tup [.int .u8 (hexval c), .bool (hexok c)]) := by
  refine Pure.of_tri Try.func37 rfl rfl (ltb rfl) fun H => ?_
  refine Tri.seq ?_
  refine Tri.region ?_
  refine TriL.c1 rfl (op_as (ltb rfl) rfl) ?_
  refine TriL.c1 rfl (op_as (ltb rfl) rfl) ?_
  refine TriL.nil ?_
  refine Tri.seq ?_
  refine Tri.blk ?_   -- 0
  refine Tri.seq ?_
  refine Tri.region ?_
  refine TriL.c1 rfl (op_mv (ltb rfl) rfl) ?_
  refine TriL.c1 rfl (op_bin (ltb rfl) rfl rfl rfl) ?_
  refine TriL.c1 rfl (op_mv (ltb rfl) rfl) ?_
  refine TriL.split (d := 7) rfl (fun hg1 => ?_) (fun hg1 => ?_)
  · refine TriL.g1 rfl (ltb rfl) rfl hg1 (op_mv (ltb rfl) rfl) ?_
    refine TriL.g1 rfl (ltb rfl) rfl hg1 (op_bin (ltb rfl) rfl rfl rfl) ?_
    refine TriL.c1 rfl (op_pickt (ltb rfl) rfl hg1 rfl) ?_
    refine TriL.c1 rfl (op_as (ltb rfl) rfl) ?_
    refine TriL.nil ?_
    refine Tri.cond rfl (fun hc2 => ?_) (fun hc2 => ?_)
    · refine Tri.seq ?_
      refine Tri.region ?_
      refine TriL.c1 rfl (op_mv (ltb rfl) rfl) ?_
      refine TriL.c1 rfl (op_bin (ltb rfl) rfl rfl rfl) ?_
      refine TriL.c1 rfl (op_cvi (ltb rfl) un21 un5 rfl) ?_
      refine TriL.c1 rfl (op_as (ltb rfl) rfl) ?_
      refine TriL.c1 rfl (op_as (ltb rfl) rfl) ?_
      refine TriL.nil ?_
      refine Tri.ret ?_
      exact ⟨.inr rfl, (ResOK.r2 rfl (.tmp rfl (.tmp rfl .nil))).cast (by exact res_tup2 (by (try simp only [decide_eq_true_eq, decide_eq_false_iff_not] at *); (try simp (disch := omega) only [wr8, wr32, wr64]); unfold hexval; (repeat' split) <;> omega) (by (try simp only [decide_eq_true_eq, decide_eq_false_iff_not] at *); first | exact (decide_eq_true (by omega)).symm | exact (decide_eq_false (by omega)).symm)), rfl⟩
    · refine Tri.seq ?_
      refine Tri.region ?_
      refine TriL.c1 rfl (op_mv (ltb rfl) rfl) ?_
      refine TriL.c1 rfl (op_bin (ltb rfl) rfl rfl rfl) ?_
      refine TriL.c1 rfl (op_mv (ltb rfl) rfl) ?_
      refine TriL.split (d := 17) rfl (fun hg3 => ?_) (fun hg3 => ?_)
      · refine TriL.g1 rfl (ltb rfl) rfl hg3 (op_mv (ltb rfl) rfl) ?_
        refine TriL.g1 rfl (ltb rfl) rfl hg3 (op_bin (ltb rfl) rfl rfl rfl) ?_
        refine TriL.c1 rfl (op_pickt (ltb rfl) rfl hg3 rfl) ?_
        refine TriL.c1 rfl (op_as (ltb rfl) rfl) ?_
        refine TriL.nil ?_
        refine Tri.cond rfl (fun hc4 => ?_) (fun hc4 => ?_)
        · refine Tri.seq ?_
          refine Tri.region ?_
          refine TriL.c1 rfl (op_mv (ltb rfl) rfl) ?_
          refine TriL.c1 rfl (op_bin (ltb rfl) rfl rfl rfl) ?_
          refine TriL.c1 rfl (op_cvi (ltb rfl) un21 un5 rfl) ?_
          refine TriL.c1 rfl (op_bin (ltb rfl) rfl rfl rfl) ?_
          refine TriL.c1 rfl (op_as (ltb rfl) rfl) ?_
          refine TriL.c1 rfl (op_as (ltb rfl) rfl) ?_
          refine TriL.nil ?_
          refine Tri.ret ?_
          exact ⟨.inr rfl, (ResOK.r2 rfl (.tmp rfl (.tmp rfl .nil))).cast (by exact res_tup2 (by (try simp only [decide_eq_true_eq, decide_eq_false_iff_not] at *); (try simp (disch := omega) only [wr8, wr32, wr64]); unfold hexval; (repeat' split) <;> omega) (by (try simp only [decide_eq_true_eq, decide_eq_false_iff_not] at *); first | exact (decide_eq_true (by omega)).symm | exact (decide_eq_false (by omega)).symm)), rfl⟩
        · refine Tri.skip ?_
          refine Tri.seq ?_
          refine Tri.region ?_
          refine TriL.c1 rfl (op_as (ltb rfl) rfl) ?_
          refine TriL.c1 rfl (op_as (ltb rfl) rfl) ?_
          refine TriL.nil ?_
          refine Tri.ret ?_
          exact ⟨.inr rfl, (ResOK.r2 rfl (.tmp rfl (.tmp rfl .nil))).cast (by exact res_tup2 (by (try simp only [decide_eq_true_eq, decide_eq_false_iff_not] at *); (try simp (disch := omega) only [wr8, wr32, wr64]); unfold hexval; (repeat' split) <;> omega) (by (try simp only [decide_eq_true_eq, decide_eq_false_iff_not] at *); first | exact (decide_eq_true (by omega)).symm | exact (decide_eq_false (by omega)).symm)), rfl⟩
      · refine TriL.skip rfl rfl (ltb rfl) rfl hg3 ?_
        refine TriL.skip rfl rfl (ltb rfl) rfl hg3 ?_
        refine TriL.c1 rfl (op_pickf (ltb rfl) rfl hg3 rfl) ?_
        refine TriL.c1 rfl (op_as (ltb rfl) rfl) ?_
        refine TriL.nil ?_
        refine Tri.condF rfl rfl ?_
        refine Tri.skip ?_
        refine Tri.seq ?_
        refine Tri.region ?_
        refine TriL.c1 rfl (op_as (ltb rfl) rfl) ?_
        refine TriL.c1 rfl (op_as (ltb rfl) rfl) ?_
        refine TriL.nil ?_
        refine Tri.ret ?_
        exact ⟨.inr rfl, (ResOK.r2 rfl (.tmp rfl (.tmp rfl .nil))).cast (by exact res_tup2 (by (try simp only [decide_eq_true_eq, decide_eq_false_iff_not] at *); (try simp (disch := omega) only [wr8, wr32, wr64]); unfold hexval; (repeat' split) <;> omega) (by (try simp only [decide_eq_true_eq, decide_eq_false_iff_not] at *); first | exact (decide_eq_true (by omega)).symm | exact (decide_eq_false (by omega)).symm)), rfl⟩
  · refine TriL.skip rfl rfl (ltb rfl) rfl hg1 ?_
    refine TriL.skip rfl rfl (ltb rfl) rfl hg1 ?_
    refine TriL.c1 rfl (op_pickf (ltb rfl) rfl hg1 rfl) ?_
    refine TriL.c1 rfl (op_as (ltb rfl) rfl) ?_
    refine TriL.nil ?_
    refine Tri.condF rfl rfl ?_
    refine Tri.seq ?_
    refine Tri.region ?_
    refine TriL.c1 rfl (op_mv (ltb rfl) rfl) ?_
    refine TriL.c1 rfl (op_bin (ltb rfl) rfl rfl rfl) ?_
    refine TriL.c1 rfl (op_mv (ltb rfl) rfl) ?_
    refine TriL.split (d := 17) rfl (fun hg5 => ?_) (fun hg5 => ?_)
    · refine TriL.g1 rfl (ltb rfl) rfl hg5 (op_mv (ltb rfl) rfl) ?_
      refine TriL.g1 rfl (ltb rfl) rfl hg5 (op_bin (ltb rfl) rfl rfl rfl) ?_
      refine TriL.c1 rfl (op_pickt (ltb rfl) rfl hg5 rfl) ?_
      refine TriL.c1 rfl (op_as (ltb rfl) rfl) ?_
      refine TriL.nil ?_
      refine Tri.cond rfl (fun hc6 => ?_) (fun hc6 => ?_)
      · refine Tri.seq ?_
        refine Tri.region ?_
        refine TriL.c1 rfl (op_mv (ltb rfl) rfl) ?_
        refine TriL.c1 rfl (op_bin (ltb rfl) rfl rfl rfl) ?_
        refine TriL.c1 rfl (op_cvi (ltb rfl) un21 un5 rfl) ?_
        refine TriL.c1 rfl (op_bin (ltb rfl) rfl rfl rfl) ?_
        refine TriL.c1 rfl (op_as (ltb rfl) rfl) ?_
        refine TriL.c1 rfl (op_as (ltb rfl) rfl) ?_
        refine TriL.nil ?_
        refine Tri.ret ?_
        exact ⟨.inr rfl, (ResOK.r2 rfl (.tmp rfl (.tmp rfl .nil))).cast (by exact res_tup2 (by (try simp only [decide_eq_true_eq, decide_eq_false_iff_not] at *); (try simp (disch := omega) only [wr8, wr32, wr64]); unfold hexval; (repeat' split) <;> omega) (by (try simp only [decide_eq_true_eq, decide_eq_false_iff_not] at *); first | exact (decide_eq_true (by omega)).symm | exact (decide_eq_false (by omega)).symm)), rfl⟩
      · refine Tri.skip ?_
        refine Tri.seq ?_
        refine Tri.region ?_
        refine TriL.c1 rfl (op_as (ltb rfl) rfl) ?_
        refine TriL.c1 rfl (op_as (ltb rfl) rfl) ?_
        refine TriL.nil ?_
        refine Tri.ret ?_
        exact ⟨.inr rfl, (ResOK.r2 rfl (.tmp rfl (.tmp rfl .nil))).cast (by exact res_tup2 (by (try simp only [decide_eq_true_eq, decide_eq_false_iff_not] at *); (try simp (disch := omega) only [wr8, wr32, wr64]); unfold hexval; (repeat' split) <;> omega) (by (try simp only [decide_eq_true_eq, decide_eq_false_iff_not] at *); first | exact (decide_eq_true (by omega)).symm | exact (decide_eq_false (by omega)).symm)), rfl⟩
    · refine TriL.skip rfl rfl (ltb rfl) rfl hg5 ?_
      refine TriL.skip rfl rfl (ltb rfl) rfl hg5 ?_
      refine TriL.c1 rfl (op_pickf (ltb rfl) rfl hg5 rfl) ?_
      refine TriL.c1 rfl (op_as (ltb rfl) rfl) ?_
      refine TriL.nil ?_
      refine Tri.condF rfl rfl ?_
      refine Tri.skip ?_
      refine Tri.seq ?_
      refine Tri.region ?_
      refine TriL.c1 rfl (op_as (ltb rfl) rfl) ?_
      refine TriL.c1 rfl (op_as (ltb rfl) rfl) ?_
      refine TriL.nil ?_
      refine Tri.ret ?_
      exact ⟨.inr rfl, (ResOK.r2 rfl (.tmp rfl (.tmp rfl .nil))).cast (by exact res_tup2 (by (try simp only [decide_eq_true_eq, decide_eq_false_iff_not] at *); (try simp (disch := omega) only [wr8, wr32, wr64]); unfold hexval; (repeat' split) <;> omega) (by (try simp only [decide_eq_true_eq, decide_eq_false_iff_not] at *); first | exact (decide_eq_true (by omega)).symm | exact (decide_eq_false (by omega)).symm)), rfl⟩
def refval (c : Int) : Int := if 48 ≤ c ∧ c ≤ 57 then c - 48 else if 97 ≤ c ∧ c ≤ 102 then c - 87 else -1
theorem refvalue_pure (c : Int) (h0 : 0 ≤ c) (h1 : c < 256) : Pure Try.prog 39 [.int .u8 c] (.int .i64 (refval c)) := by
  refine Pure.of_tri Try.func39 rfl rfl (ltb rfl) fun H => ?_
  refine Tri.seq ?_
  refine Tri.region ?_
  refine TriL.c1 rfl (op_as (ltb rfl) rfl) ?_
  refine TriL.nil ?_
  refine Tri.seq ?_
  refine Tri.seq ?_
  refine Tri.region ?_
  refine TriL.c1 rfl (op_mv (ltb rfl) rfl) ?_
  refine TriL.c1 rfl (op_bin (ltb rfl) rfl rfl rfl) ?_
  refine TriL.c1 rfl (op_mv (ltb rfl) rfl) ?_
  refine TriL.split (d := 5) rfl (fun hg1 => ?_) (fun hg1 => ?_)
  · refine TriL.g1 rfl (ltb rfl) rfl hg1 (op_mv (ltb rfl) rfl) ?_
    refine TriL.g1 rfl (ltb rfl) rfl hg1 (op_bin (ltb rfl) rfl rfl rfl) ?_
    refine TriL.c1 rfl (op_pickt (ltb rfl) rfl hg1 rfl) ?_
    refine TriL.nil ?_
    refine Tri.cond rfl (fun hc2 => ?_) (fun hc2 => ?_)
    · refine Tri.seq ?_
      refine Tri.region ?_
      refine TriL.c1 rfl (op_mv (ltb rfl) rfl) ?_
      refine TriL.c1 rfl (op_bin (ltb rfl) rfl rfl rfl) ?_
      refine TriL.c1 rfl (op_cvi (ltb rfl) un5 un3 rfl) ?_
      refine TriL.c1 rfl (op_as (ltb rfl) rfl) ?_
      refine TriL.nil ?_
      refine Tri.ret ?_
      exact ⟨.inr rfl, (ResOK.r1 rfl (.tmp rfl .nil)).cast (by refine res_i64 ?_; (try simp only [decide_eq_true_eq, decide_eq_false_iff_not] at *); (try simp (disch := omega) only [wr8, wr32, wr64]); unfold refval; (repeat' split) <;> omega), rfl⟩
    · refine Tri.skip ?_
      refine Tri.seq ?_
      refine Tri.seq ?_
      refine Tri.region ?_
      refine TriL.c1 rfl (op_mv (ltb rfl) rfl) ?_
      refine TriL.c1 rfl (op_bin (ltb rfl) rfl rfl rfl) ?_
      refine TriL.c1 rfl (op_mv (ltb rfl) rfl) ?_
      refine TriL.split (d := 14) rfl (fun hg3 => ?_) (fun hg3 => ?_)
      · refine TriL.g1 rfl (ltb rfl) rfl hg3 (op_mv (ltb rfl) rfl) ?_
        refine TriL.g1 rfl (ltb rfl) rfl hg3 (op_bin (ltb rfl) rfl rfl rfl) ?_
        refine TriL.c1 rfl (op_pickt (ltb rfl) rfl hg3 rfl) ?_
        refine TriL.nil ?_
        refine Tri.cond rfl (fun hc4 => ?_) (fun hc4 => ?_)
        · refine Tri.seq ?_
          refine Tri.region ?_
          refine TriL.c1 rfl (op_mv (ltb rfl) rfl) ?_
          refine TriL.c1 rfl (op_bin (ltb rfl) rfl rfl rfl) ?_
          refine TriL.c1 rfl (op_cvi (ltb rfl) un5 un3 rfl) ?_
          refine TriL.c1 rfl (op_bin (ltb rfl) rfl rfl rfl) ?_
          refine TriL.c1 rfl (op_as (ltb rfl) rfl) ?_
          refine TriL.nil ?_
          refine Tri.ret ?_
          exact ⟨.inr rfl, (ResOK.r1 rfl (.tmp rfl .nil)).cast (by refine res_i64 ?_; (try simp only [decide_eq_true_eq, decide_eq_false_iff_not] at *); (try simp (disch := omega) only [wr8, wr32, wr64]); unfold refval; (repeat' split) <;> omega), rfl⟩
        · refine Tri.skip ?_
          refine Tri.seq ?_
          refine Tri.region ?_
          refine TriL.c1 rfl (op_as (ltb rfl) rfl) ?_
          refine TriL.nil ?_
          refine Tri.ret ?_
          exact ⟨.inr rfl, (ResOK.r1 rfl (.tmp rfl .nil)).cast (by refine res_i64 ?_; (try simp only [decide_eq_true_eq, decide_eq_false_iff_not] at *); (try simp (disch := omega) only [wr8, wr32, wr64]); unfold refval; (repeat' split) <;> omega), rfl⟩
      · refine TriL.skip rfl rfl (ltb rfl) rfl hg3 ?_
        refine TriL.skip rfl rfl (ltb rfl) rfl hg3 ?_
        refine TriL.c1 rfl (op_pickf (ltb rfl) rfl hg3 rfl) ?_
        refine TriL.nil ?_
        refine Tri.condF rfl rfl ?_
        refine Tri.skip ?_
        refine Tri.seq ?_
        refine Tri.region ?_
        refine TriL.c1 rfl (op_as (ltb rfl) rfl) ?_
        refine TriL.nil ?_
        refine Tri.ret ?_
        exact ⟨.inr rfl, (ResOK.r1 rfl (.tmp rfl .nil)).cast (by refine res_i64 ?_; (try simp only [decide_eq_true_eq, decide_eq_false_iff_not] at *); (try simp (disch := omega) only [wr8, wr32, wr64]); unfold refval; (repeat' split) <;> omega), rfl⟩
  · refine TriL.skip rfl rfl (ltb rfl) rfl hg1 ?_
    refine TriL.skip rfl rfl (ltb rfl) rfl hg1 ?_
    refine TriL.c1 rfl (op_pickf (ltb rfl) rfl hg1 rfl) ?_
    refine TriL.nil ?_
    refine Tri.condF rfl rfl ?_
    refine Tri.skip ?_
    refine Tri.seq ?_
    refine Tri.seq ?_
    refine Tri.region ?_
    refine TriL.c1 rfl (op_mv (ltb rfl) rfl) ?_
    refine TriL.c1 rfl (op_bin (ltb rfl) rfl rfl rfl) ?_
    refine TriL.c1 rfl (op_mv (ltb rfl) rfl) ?_
    refine TriL.split (d := 14) rfl (fun hg5 => ?_) (fun hg5 => ?_)
    · refine TriL.g1 rfl (ltb rfl) rfl hg5 (op_mv (ltb rfl) rfl) ?_
      refine TriL.g1 rfl (ltb rfl) rfl hg5 (op_bin (ltb rfl) rfl rfl rfl) ?_
      refine TriL.c1 rfl (op_pickt (ltb rfl) rfl hg5 rfl) ?_
      refine TriL.nil ?_
      refine Tri.cond rfl (fun hc6 => ?_) (fun hc6 => ?_)
      · refine Tri.seq ?_
        refine Tri.region ?_
        refine TriL.c1 rfl (op_mv (ltb rfl) rfl) ?_
        refine TriL.c1 rfl (op_bin (ltb rfl) rfl rfl rfl) ?_
        refine TriL.c1 rfl (op_cvi (ltb rfl) un5 un3 rfl) ?_
        refine TriL.c1 rfl (op_bin (ltb rfl) rfl rfl rfl) ?_
        refine TriL.c1 rfl (op_as (ltb rfl) rfl) ?_
        refine TriL.nil ?_
        refine Tri.ret ?_
        exact ⟨.inr rfl, (ResOK.r1 rfl (.tmp rfl .nil)).cast (by refine res_i64 ?_; (try simp only [decide_eq_true_eq, decide_eq_false_iff_not] at *); (try simp (disch := omega) only [wr8, wr32, wr64]); unfold refval; (repeat' split) <;> omega), rfl⟩
      · refine Tri.skip ?_
        refine Tri.seq ?_
        refine Tri.region ?_
        refine TriL.c1 rfl (op_as (ltb rfl) rfl) ?_
        refine TriL.nil ?_
        refine Tri.ret ?_
        exact ⟨.inr rfl, (ResOK.r1 rfl (.tmp rfl .nil)).cast (by refine res_i64 ?_; (try simp only [decide_eq_true_eq, decide_eq_false_iff_not] at *); (try simp (disch := omega) only [wr8, wr32, wr64]); unfold refval; (repeat' split) <;> omega), rfl⟩
    · refine TriL.skip rfl rfl (ltb rfl) rfl hg5 ?_
      refine TriL.skip rfl rfl (ltb rfl) rfl hg5 ?_
      refine TriL.c1 rfl (op_pickf (ltb rfl) rfl hg5 rfl) ?_
      refine TriL.nil ?_
      refine Tri.condF rfl rfl ?_
      refine Tri.skip ?_
      refine Tri.seq ?_
      refine Tri.region ?_
      refine TriL.c1 rfl (op_as (ltb rfl) rfl) ?_
      refine TriL.nil ?_
      refine Tri.ret ?_
      exact ⟨.inr rfl, (ResOK.r1 rfl (.tmp rfl .nil)).cast (by refine res_i64 ?_; (try simp only [decide_eq_true_eq, decide_eq_false_iff_not] at *); (try simp (disch := omega) only [wr8, wr32, wr64]); unfold refval; (repeat' split) <;> omega), rfl⟩
theorem hexd_num {n : Nat} (h : n < 16) : ((hexd n).toNat : Int) = if (n : Int) < 10 then 48 + (n : Int) else 87 + (n : Int) := by
  have : ∀ m : Fin 16, ((hexd m.val).toNat : Int) = if (m.val : Int) < 10 then 48 + (m.val : Int) else 87 + (m.val : Int) := by decide
  exact this ⟨n, h⟩
theorem refdigit_pure {m : Int} (n : Nat) (e : m = n) (h : n < 16) : Pure Try.prog 38 [.int .i64 m] (.int .u8 (hexd n).toNat) := by
  subst e
  refine Pure.of_tri Try.func38 rfl rfl (ltb rfl) fun H => ?_
  refine Tri.seq ?_
  refine Tri.region ?_
  refine TriL.c1 rfl (op_as (ltb rfl) rfl) ?_
  refine TriL.nil ?_
  refine Tri.seq ?_
  refine Tri.seq ?_
  refine Tri.region ?_
  refine TriL.c1 rfl (op_mv (ltb rfl) rfl) ?_
  refine TriL.c1 rfl (op_bin (ltb rfl) rfl rfl rfl) ?_
  refine TriL.nil ?_
  refine Tri.cond rfl (fun hc1 => ?_) (fun hc1 => ?_)
  · refine Tri.seq ?_
    refine Tri.region ?_
    refine TriL.c1 rfl (op_mv (ltb rfl) rfl) ?_
    refine TriL.c1 rfl (op_bin (ltb rfl) rfl rfl rfl) ?_
    refine TriL.c1 rfl (op_cvi (ltb rfl) un3 un5 rfl) ?_
    refine TriL.c1 rfl (op_as (ltb rfl) rfl) ?_
    refine TriL.nil ?_
    refine Tri.ret ?_
    exact ⟨.inr rfl, (ResOK.r1 rfl (.tmp rfl .nil)).cast (by rw [hexd_num h]; refine res_u8 ?_; (try simp only [decide_eq_true_eq, decide_eq_false_iff_not] at *); (try simp (disch := omega) only [wr8, wr32, wr64]); split <;> omega), rfl⟩
  · refine Tri.skip ?_
    refine Tri.seq ?_
    refine Tri.region ?_
    refine TriL.c1 rfl (op_mv (ltb rfl) rfl) ?_
    refine TriL.c1 rfl (op_bin (ltb rfl) rfl rfl rfl) ?_
    refine TriL.c1 rfl (op_bin (ltb rfl) rfl rfl rfl) ?_
    refine TriL.c1 rfl (op_cvi (ltb rfl) un3 un5 rfl) ?_
    refine TriL.c1 rfl (op_as (ltb rfl) rfl) ?_
    refine TriL.nil ?_
    refine Tri.ret ?_
    exact ⟨.inr rfl, (ResOK.r1 rfl (.tmp rfl .nil)).cast (by rw [hexd_num h]; refine res_u8 ?_; (try simp only [decide_eq_true_eq, decide_eq_false_iff_not] at *); (try simp (disch := omega) only [wr8, wr32, wr64]); split <;> omega), rfl⟩
theorem bytes_pure (l m : List UInt8) : Pure Try.prog 13 [.sl (bsl l), .sl (bsl m)] (.bool (l == m)) := by
  refine Pure.of_tri Try.func13 rfl rfl (ltb rfl) fun H => ?_
  refine Tri.seq ?_
  refine Tri.region ?_
  refine TriL.c1 rfl (op_as (ltb rfl) rfl) ?_
  refine TriL.nil ?_
  refine Tri.seq ?_
  refine Tri.region ?_
  refine TriL.c1 rfl (op_mv (ltb rfl) rfl) ?_
  refine TriL.c1 rfl (op_b2s (ltb rfl) un22 unel22 un9 rfl (bytesOf_bsl _)) ?_
  refine TriL.c1 rfl (op_mv (ltb rfl) rfl) ?_
  refine TriL.c1 rfl (op_b2s (ltb rfl) un22 unel22 un9 rfl (bytesOf_bsl _)) ?_
  refine TriL.c1 rfl (op_bin (ltb rfl) rfl rfl rfl) ?_
  refine TriL.c1 rfl (op_as (ltb rfl) rfl) ?_
  refine TriL.nil ?_
  refine Tri.ret ?_
  exact ⟨.inr rfl, (ResOK.r1 rfl (.tmp rfl .nil)).cast (by rfl), rfl⟩
theorem live_pure : Pure Try.prog 10 [] (.bool true) := by
  refine Pure.of_tri Try.func10 rfl rfl (Nat.zero_le _) fun H => ?_
  refine Tri.seq ?_
  refine Tri.region ?_
  refine TriL.c1 rfl (op_as (ltb rfl) rfl) ?_
  refine TriL.nil ?_
  refine Tri.seq ?_
  refine Tri.region ?_
  refine TriL.c1 rfl (op_lit («as» := [_, _]) (ltb rfl) se22 zAe22 rfl rfl rfl (leb rfl)) ?_
  refine TriL.c1 rfl (op_call (ltb rfl) fn9 rfl (put_pure [1, 255] (by decide))) ?_
  refine TriL.c1 rfl (op_bin (ltb rfl) rfl rfl rfl) ?_
  refine TriL.c1 rfl (op_as (ltb rfl) rfl) ?_
  refine TriL.nil ?_
  refine Tri.ret ?_
  exact ⟨.inr rfl, (ResOK.r1 rfl (.tmp rfl .nil)).cast (by exact res_bool (by decide)), rfl⟩
end Go.Proofs.Ytecjdohpfijmpaa.X
/- hex's reference Put, and both Gets. -/
set_option linter.unusedVariables false
set_option linter.unusedSimpArgs false
namespace Go.Proofs.Ytecjdohpfijmpaa.X
open Go Go.RowKit Go.Proofs

/-! ### ecdysisref08.Put -/
def St12 (H : Hp) (l : List UInt8) (xs : List AV) (j : Int) : St := [(.h, .hp H), (.s 0, .sv (.v (.sl (bsl l)))), (.s 3, .sv (.ow 5 xs)), (.s 4, .sv (.v (.int .i64 j))), (.t 5, .tk false 5 1 xs)]
theorem refput_pure (l : List UInt8) (hl : l.length ≤ 1073741824) : Pure Try.prog 12 [.sl (bsl l)] (.str (hexs l)) := by
  refine Pure.of_tri Try.func12 rfl rfl (ltb rfl) fun H => ?_
  have hln := bsl_len l
  refine Tri.seq ?_
  refine Tri.region ?_
  refine TriL.c1 rfl (op_as (ltb rfl) rfl) ?_
  refine TriL.nil ?_
  refine Tri.seq ?_
  refine Tri.region ?_
  refine TriL.c2 rfl (op_litt («as» := []) (ltb rfl) se22 zAe22 rfl rfl rfl (leb rfl) rfl) ?_
  refine TriL.c1 rfl (op_as (ltb rfl) rfl) ?_
  refine TriL.nil ?_
  refine Tri.seq ?_
  refine Tri.seq ?_
  refine Tri.region ?_
  refine TriL.c1 rfl (op_as (ltb rfl) rfl) ?_
  refine TriL.kept (Kept.keep [.h, .s 0, .s 3, .s 4, .t 5] rfl (by decide) (Kept.now ?_))
  refine Tri.blk ?_
  refine Tri.loop (fun n s => ∃ (i : Nat) (xs : List AV) (j : Int), s = St12 H l xs j ∧ j = i ∧ xs = bsl (hexs (l.take i)) ∧ i ≤ l.length ∧ n = l.length - i) ?_ (n := l.length) ⟨0, [], 0, rfl, rfl, rfl, by omega, rfl⟩
  rintro n s ⟨i, xs, j, rfl, hj, hxs, hi, rfl⟩
  refine Tri.seq ?_
  refine Tri.seq ?_
  refine Tri.region ?_
  refine TriL.c1 rfl (op_mv (ltb rfl) rfl) ?_
  refine TriL.c1 rfl (op_mv (ltb rfl) rfl) ?_
  refine TriL.c1 rfl (op_lenl (ltb rfl) un22 rfl) ?_
  refine TriL.c1 rfl (op_bin (ltb rfl) rfl rfl rfl) ?_
  refine TriL.nil ?_
  refine Tri.cond rfl (fun hc1 => ?_) (fun hc1 => ?_)
  · have hlt : i < l.length := by have := of_decide_eq_true hc1; omega
    obtain ⟨c, hc⟩ : ∃ c, l[i]? = some c := ⟨l[i], List.getElem?_eq_getElem hlt⟩
    have hcb := c.toNat_lt
    have hxl : xs.length = 2 * i := by rw [hxs, bsl_len, hexs_len, List.length_take]; omega
    have hcv : IntKind.i64.wrap (c.toNat : Int) = c.toNat := wr64 (by omega) (by omega)
    refine Tri.skip ?_
    refine Tri.seq ?_
    refine Tri.blk ?_
    refine Tri.drawn mixed rfl ?_
    refine TriD.c1 rfl (op_mv (ltb rfl) rfl) ?_
    refine TriD.c1 rfl (op_mv (ltb rfl) rfl) ?_
    refine TriD.c1 rfl (op_mv (ltb rfl) rfl) ?_
    refine TriD.c1 rfl (op_iak (ltb rfl) ie22 rfl rfl (by omega) (bsl_get hj hc) rfl) ?_
    refine TriD.c1 rfl (op_ldk (ltb rfl) lk5 rfl rfl) ?_
    refine TriD.c1 rfl (op_cvi (ltb rfl) un5 un3 rfl) ?_
    refine TriD.c1 rfl (op_bin (ltb rfl) rfl rfl rfl) ?_
    refine TriD.c1 rfl (op_call (ltb rfl) fn38 rfl (refdigit_pure (c.toNat / 16) (by rw [hcv, Int.tdiv_eq_ediv_of_nonneg (by omega), wr64] <;> omega) (by omega))) ?_
    refine TriD.c1 rfl (op_mv (ltb rfl) rfl) ?_
    refine TriD.c1 rfl (op_mv (ltb rfl) rfl) ?_
    refine TriD.c1 rfl (op_iak (ltb rfl) ie22 rfl rfl (by omega) (bsl_get hj hc) rfl) ?_
    refine TriD.c1 rfl (op_ldk (ltb rfl) lk5 rfl rfl) ?_
    refine TriD.c1 rfl (op_cvi (ltb rfl) un5 un3 rfl) ?_
    refine TriD.c1 rfl (op_bin (ltb rfl) rfl rfl rfl) ?_
    refine TriD.c1 rfl (op_call (ltb rfl) fn38 rfl (refdigit_pure (c.toNat % 16) (by rw [hcv, Int.tmod_eq_emod_of_nonneg (by omega)]; omega) (by omega))) ?_
    refine TriD.c1 rfl (op_lit («as» := [_, _]) (ltb rfl) se22 zAe22 rfl rfl rfl (leb rfl)) ?_
    refine TriD.c3 rfl (op_app (ltb rfl) se22 rfl rfl rfl rfl rfl (by simp only [List.length_cons, List.length_nil]; omega) (by simp only [List.length_cons, List.length_nil]; omega)) ?_
    refine TriD.c1 rfl (op_as (ltb rfl) rfl) ?_
    refine TriD.nil (by kernel_rfl) (Kept.now ?_)
    refine Tri.region ?_
    refine TriL.c1 rfl (op_mv (ltb rfl) rfl) ?_
    refine TriL.c1 rfl (op_bin (ltb rfl) rfl rfl rfl) ?_
    refine TriL.c1 rfl (op_as (ltb rfl) rfl) ?_
    refine TriL.kept (Kept.keep [.h, .s 0, .s 3, .s 4, .t 28] rfl (by decide) (Kept.ren 28 5 (by decide) rfl (Kept.now ?_)))
    refine ⟨l.length - (i + 1), by omega, i + 1, _, _, rfl, ?_, ?_, by omega, rfl⟩
    · rw [wr64] <;> omega
    · have em : hexd (c.toNat % 16) = hexd c.toNat := by simp [hexd]
      rw [hexs_take hc, bsl_app, hxs, ← em]; rfl
  · have hge : ¬ i < l.length := by have := of_decide_eq_false hc1; omega
    refine Tri.exit ?_
    refine Tri.seq ?_
    refine Tri.region ?_
    refine TriL.c1 rfl (op_mv (ltb rfl) rfl) ?_
    refine TriL.c1 rfl (op_b2s (l := hexs l) (ltb rfl) un22 unel22 un9 rfl (by rw [hxs, List.take_of_length_le (by omega)]; exact bytesOf_bsl _)) ?_
    refine TriL.c1 rfl (op_as (ltb rfl) rfl) ?_
    refine TriL.nil ?_
    refine Tri.ret ?_
    exact ⟨.inr rfl, ResOK.r1 rfl (.tmp rfl .nil), rfl⟩

/-! ### ecdysisref08.Get -/
def okb (c : UInt8) : Bool := hexok (c.toNat : Int)
def vb (c : UInt8) : Int := hexval (c.toNat : Int)
/-- pairs of digits -/
def pairs : List UInt8 → List Int
  | a :: b :: l => (16 * vb a + vb b) :: pairs l
  | _ => []
theorem pairs_take : ∀ (m : Nat) {l : List UInt8} {a b : UInt8}, l[2 * m]? = some a → l[2 * m + 1]? = some b → pairs (l.take (2 * m + 2)) = pairs (l.take (2 * m)) ++ [16 * vb a + vb b]
  | 0, l, a, b, ha, hb => by
    match l with
    | x :: y :: l => simp at ha hb; subst ha; subst hb; simp [pairs]
    | [x] => simp at hb
    | [] => simp at ha
  | m + 1, l, a, b, ha, hb => by
    match l with
    | x :: y :: l =>
      have h1 : l[2 * m]? = some a := by simpa [show 2 * (m + 1) = 2 * m + 2 by omega] using ha
      have h2 : l[2 * m + 1]? = some b := by simpa [show 2 * (m + 1) = 2 * m + 2 by omega] using hb
      have := pairs_take m h1 h2
      simp only [show 2 * (m + 1) + 2 = (2 * m + 2) + 1 + 1 by omega, show 2 * (m + 1) = 2 * m + 1 + 1 by omega, List.take_succ_cons, pairs, this, List.cons_append]
    | [x] => simp at hb
    | [] => simp at ha
/-- a text's bytes, or none -/
def gets (l : List UInt8) : List Int × Bool := if l.length % 2 = 0 ∧ l.all okb = true then (pairs l, true) else ([], false)
def usl (l : List Int) : List AV := l.map (AV.int .u8)
theorem gets_odd {l : List UInt8} (h : l.length % 2 = 1) : gets l = ([], false) := by unfold gets; rw [if_neg]; omega
theorem gets_no {l : List UInt8} {i : Nat} {c : UInt8} (h : l[i]? = some c) (hc : okb c = false) : gets l = ([], false) := by
  unfold gets; rw [if_neg]; rintro ⟨_, h2⟩
  rw [List.all_eq_true] at h2
  rw [h2 c (List.mem_of_getElem? h)] at hc; cases hc
theorem refval_ok {c : UInt8} (h : okb c = true) : refval (c.toNat : Int) = vb c := by
  have := of_decide_eq_true h
  unfold vb refval hexval; (repeat' split) <;> omega
theorem refval_no {c : UInt8} (h : okb c = false) : refval (c.toNat : Int) = -1 := by
  have := of_decide_eq_false h
  unfold refval; (repeat' split) <;> omega
theorem vb_lt (c : UInt8) : 0 ≤ vb c ∧ vb c < 16 := hexval_lt _
def St14 (H : Hp) (l : List UInt8) (xs : List AV) (j : Int) : St := [(.h, .hp H), (.s 0, .sv (.v (.str l))), (.s 4, .sv (.ow 12 xs)), (.s 5, .sv (.v (.int .i64 j))), (.t 12, .tk false 5 1 xs)]
end Go.Proofs.Ytecjdohpfijmpaa.X
/- hex: both Gets. -/
set_option linter.unusedVariables false
set_option linter.unusedSimpArgs false
namespace Go.Proofs.Ytecjdohpfijmpaa.X
open Go Go.RowKit Go.Proofs

theorem refget_pure (l : List UInt8) (hl : l.length ≤ 1073741824) : Pure Try.prog 14 [.str l] (.tup [.sl (usl (gets l).1), .bool (gets l).2]) := by
  refine Pure.of_tri Try.func14 rfl rfl (ltb rfl) fun H => ?_
  refine Tri.seq ?_
  refine Tri.region ?_
  refine TriL.c1 rfl (op_as (ltb rfl) rfl) ?_
  refine TriL.c1 rfl (op_as (ltb rfl) rfl) ?_
  refine TriL.nil ?_
  refine Tri.seq ?_
  refine Tri.seq ?_
  refine Tri.region ?_
  refine TriL.c1 rfl (op_mv (ltb rfl) rfl) ?_
  refine TriL.c1 rfl (op_lens (ltb rfl) un9 rfl) ?_
  refine TriL.c1 rfl (op_bin (ltb rfl) rfl rfl rfl) ?_
  refine TriL.c1 rfl (op_bin (ltb rfl) rfl rfl rfl) ?_
  refine TriL.nil ?_
  have et : (l.length : Int).tmod 2 = ((l.length % 2 : Nat) : Int) := by rw [Int.tmod_eq_emod_of_nonneg (by omega)]; omega
  refine Tri.cond rfl (fun hc1 => ?_) (fun hc1 => ?_)
  · refine Tri.seq ?_
    refine Tri.region ?_
    refine TriL.c1 rfl (op_as (ltb rfl) rfl) ?_
    refine TriL.c1 rfl (op_as (ltb rfl) rfl) ?_
    refine TriL.nil ?_
    refine Tri.ret ?_
    have ho : gets l = ([], false) := gets_odd (by rw [et] at hc1; have := eq_of_beq hc1; omega)
    exact ⟨.inr rfl, (ResOK.r2 rfl (.tmp rfl (.tmp rfl .nil))).cast (by rw [ho]; rfl), rfl⟩
  have he : l.length % 2 = 0 := by rw [et] at hc1; have := ne_of_beq_false hc1; omega
  refine Tri.skip ?_
  refine Tri.seq ?_
  refine Tri.region ?_
  refine TriL.c2 rfl (op_litt («as» := []) (ltb rfl) se22 zAe22 rfl rfl rfl (leb rfl) rfl) ?_
  refine TriL.c1 rfl (op_as (ltb rfl) rfl) ?_
  refine TriL.nil ?_
  refine Tri.seq ?_
  refine Tri.seq ?_
  refine Tri.region ?_
  refine TriL.c1 rfl (op_as (ltb rfl) rfl) ?_
  refine TriL.kept (Kept.keep [.h, .s 0, .s 4, .s 5, .t 12] rfl (by decide) (Kept.now ?_))
  refine Tri.blk ?_
  refine Tri.loop (fun n s => ∃ (m : Nat) (xs : List AV) (j : Int), s = St14 H l xs j ∧ j = 2 * (m : Int) ∧ xs = usl (pairs (l.take (2 * m))) ∧ (l.take (2 * m)).all okb = true ∧ 2 * m ≤ l.length ∧ xs.length = m ∧ n = l.length - 2 * m) ?_ (n := l.length) ⟨0, [], 0, rfl, rfl, rfl, rfl, by omega, rfl, rfl⟩
  rintro n s ⟨m, xs, j, rfl, hj, hxs, hok, hm, hxl, rfl⟩
  refine Tri.seq ?_
  refine Tri.seq ?_
  refine Tri.region ?_
  refine TriL.c1 rfl (op_mv (ltb rfl) rfl) ?_
  refine TriL.c1 rfl (op_mv (ltb rfl) rfl) ?_
  refine TriL.c1 rfl (op_lens (ltb rfl) un9 rfl) ?_
  refine TriL.c1 rfl (op_bin (ltb rfl) rfl rfl rfl) ?_
  refine TriL.nil ?_
  refine Tri.cond rfl (fun hc2 => ?_) (fun hc2 => ?_)
  · have hlt : 2 * m + 1 < l.length := by have := of_decide_eq_true hc2; omega
    obtain ⟨a, ha⟩ : ∃ c, l[2 * m]? = some c := ⟨l[2 * m], List.getElem?_eq_getElem (by omega)⟩
    obtain ⟨b, hb⟩ : ∃ c, l[2 * m + 1]? = some c := ⟨l[2 * m + 1], List.getElem?_eq_getElem hlt⟩
    have hab := a.toNat_lt
    have hbb := b.toNat_lt
    have e1 : IntKind.i64.wrap (j + 1) = j + 1 := wr64 (by omega) (by omega)
    refine Tri.skip ?_
    refine Tri.seq ?_
    refine Tri.blk ?_
    refine Tri.seq ?_
    refine Tri.drawn mixed rfl ?_
    refine TriD.c1 rfl (op_mv (ltb rfl) rfl) ?_
    refine TriD.c1 rfl (op_mv (ltb rfl) rfl) ?_
    refine TriD.c1 rfl (op_ixs (c := a) (ltb rfl) un9 rfl rfl (by omega) (by rw [show j.toNat = 2 * m by omega]; exact ha)) ?_
    refine TriD.c1 rfl (op_call (ltb rfl) fn39 rfl (refvalue_pure _ (by omega) (by omega))) ?_
    refine TriD.c1 rfl (op_mv (ltb rfl) rfl) ?_
    refine TriD.c1 rfl (op_mv (ltb rfl) rfl) ?_
    refine TriD.c1 rfl (op_bin (ltb rfl) rfl rfl rfl) ?_
    refine TriD.c1 rfl (op_ixs (c := b) (ltb rfl) un9 rfl rfl (by omega) (by rw [show (IntKind.i64.wrap (j + 1)).toNat = 2 * m + 1 by omega]; exact hb)) ?_
    refine TriD.c1 rfl (op_call (ltb rfl) fn39 rfl (refvalue_pure _ (by omega) (by omega))) ?_
    refine TriD.c1 rfl (op_as (ltb rfl) rfl) ?_
    refine TriD.c1 rfl (op_as (ltb rfl) rfl) ?_
    refine TriD.nil (by kernel_rfl) (Kept.now ?_)
    refine Tri.seq ?_
    refine Tri.seq ?_
    refine Tri.region ?_
    refine TriL.c1 rfl (op_mv (ltb rfl) rfl) ?_
    refine TriL.c1 rfl (op_bin (ltb rfl) rfl rfl rfl) ?_
    refine TriL.c1 rfl (op_mv (ltb rfl) rfl) ?_
    refine TriL.split (d := 30) rfl (fun hg3 => ?_) (fun hg3 => ?_)
    · have hoa : okb a = false := by
        cases h : okb a with
        | false => rfl
        | true => rw [refval_ok h] at hg3; have := of_decide_eq_true hg3; have := vb_lt a; omega
      refine TriL.skip rfl rfl (ltb rfl) rfl hg3 ?_
      refine TriL.skip rfl rfl (ltb rfl) rfl hg3 ?_
      refine TriL.c1 rfl (op_pickt (ltb rfl) rfl hg3 rfl) ?_
      refine TriL.nil ?_
      refine Tri.condT rfl rfl ?_
      refine Tri.seq ?_
      refine Tri.region ?_
      refine TriL.c1 rfl (op_as (ltb rfl) rfl) ?_
      refine TriL.c1 rfl (op_as (ltb rfl) rfl) ?_
      refine TriL.nil ?_
      refine Tri.ret ?_
      exact ⟨.inr rfl, (ResOK.r2 rfl (.tmp rfl (.tmp rfl .nil))).cast (by rw [gets_no ha hoa]; rfl), rfl⟩
    · have hoa : okb a = true := by
        cases h : okb a with
        | true => rfl
        | false => rw [refval_no h] at hg3; exact absurd hg3 (by decide)
      refine TriL.g1 rfl (ltb rfl) rfl hg3 (op_mv (ltb rfl) rfl) ?_
      refine TriL.g1 rfl (ltb rfl) rfl hg3 (op_bin (ltb rfl) rfl rfl rfl) ?_
      refine TriL.c1 rfl (op_pickf (ltb rfl) rfl hg3 rfl) ?_
      refine TriL.nil ?_
      refine Tri.cond rfl (fun hc4 => ?_) (fun hc4 => ?_)
      · have hob : okb b = false := by
          cases h : okb b with
          | false => rfl
          | true => rw [refval_ok h] at hc4; have := of_decide_eq_true hc4; have := vb_lt b; omega
        refine Tri.seq ?_
        refine Tri.region ?_
        refine TriL.c1 rfl (op_as (ltb rfl) rfl) ?_
        refine TriL.c1 rfl (op_as (ltb rfl) rfl) ?_
        refine TriL.nil ?_
        refine Tri.ret ?_
        exact ⟨.inr rfl, (ResOK.r2 rfl (.tmp rfl (.tmp rfl .nil))).cast (by rw [gets_no hb hob]; rfl), rfl⟩
      · have hob : okb b = true := by
          cases h : okb b with
          | true => rfl
          | false => rw [refval_no h] at hc4; exact absurd hc4 (by decide)
        have hva := vb_lt a
        have hvb := vb_lt b
        refine Tri.skip ?_
        refine Tri.region ?_
        refine TriL.c1 rfl (op_mv (ltb rfl) rfl) ?_
        refine TriL.c1 rfl (op_mv (ltb rfl) rfl) ?_
        refine TriL.c1 rfl (op_bin (ltb rfl) rfl rfl rfl) ?_
        refine TriL.c1 rfl (op_mv (ltb rfl) rfl) ?_
        refine TriL.c1 rfl (op_bin (ltb rfl) rfl rfl rfl) ?_
        refine TriL.c1 rfl (op_cvi (ltb rfl) un3 un5 rfl) ?_
        refine TriL.c1 rfl (op_lit («as» := [_]) (ltb rfl) se22 zAe22 rfl rfl rfl (leb rfl)) ?_
        refine TriL.c3 rfl (op_app (ltb rfl) se22 rfl rfl rfl rfl rfl (by simp only [List.length_cons, List.length_nil]; omega) (by simp only [List.length_cons, List.length_nil]; omega)) ?_
        refine TriL.c1 rfl (op_as (ltb rfl) rfl) ?_
        refine TriL.nil ?_
        refine Tri.region ?_
        refine TriL.c1 rfl (op_mv (ltb rfl) rfl) ?_
        refine TriL.c1 rfl (op_bin (ltb rfl) rfl rfl rfl) ?_
        refine TriL.c1 rfl (op_as (ltb rfl) rfl) ?_
        refine TriL.kept (Kept.keep [.h, .s 0, .s 4, .s 5, .t 41] rfl (by decide) (Kept.ren 41 12 (by decide) rfl (Kept.now ?_)))
        refine ⟨l.length - 2 * (m + 1), by omega, m + 1, _, _, rfl, ?_, ?_, ?_, by omega, ?_, rfl⟩
        · rw [wr64] <;> omega
        · rw [show 2 * (m + 1) = 2 * m + 2 by omega, pairs_take m ha hb, hxs, refval_ok hoa, refval_ok hob]
          have e2 : IntKind.i64.wrap (16 * vb a) = 16 * vb a := wr64 (by omega) (by omega)
          have e3 : IntKind.i64.wrap (16 * vb a + vb b) = 16 * vb a + vb b := wr64 (by omega) (by omega)
          have e4 : IntKind.u8.wrap (16 * vb a + vb b) = 16 * vb a + vb b := wr8 (by omega) (by omega)
          rw [e2, e3, e4, usl, usl, List.map_append]; rfl
        · rw [show 2 * (m + 1) = 2 * m + 1 + 1 by omega, List.take_add_one, List.take_add_one, ha, hb]
          simp only [List.all_append, hok]; simp [hoa, hob]
        · simp [hxl]
  · have hge : 2 * m = l.length := by have := of_decide_eq_false hc2; omega
    refine Tri.exit ?_
    refine Tri.seq ?_
    refine Tri.region ?_
    refine TriL.c1 rfl (op_mv (ltb rfl) rfl) ?_
    refine TriL.c1 rfl (op_as (ltb rfl) rfl) ?_
    refine TriL.c1 rfl (op_as (ltb rfl) rfl) ?_
    refine TriL.nil ?_
    refine Tri.ret ?_
    rw [hge, List.take_length] at hxs hok
    exact ⟨.inr rfl, (ResOK.r2 rfl (.tmp rfl (.tmp rfl .nil))).cast (by unfold gets; rw [if_pos ⟨he, hok⟩, hxs]), rfl⟩
end Go.Proofs.Ytecjdohpfijmpaa.X
/- hex.Get: a text's bytes, rune by rune. -/
set_option linter.unusedVariables false
set_option linter.unusedSimpArgs false
namespace Go.Proofs.Ytecjdohpfijmpaa.X
open Go Go.RowKit Go.Proofs

/-! ### Runes -/
theorem get_at {l : List UInt8} {p : Nat} {c : UInt8} (h : l[p]? = some c) : (⟨l.toArray⟩ : ByteArray).get! (p + 0) = c := by
  show (l.toArray)[p + 0]! = c
  rw [Nat.add_zero, getElem!_def]
  simp [h]
theorem dec_lo {l : List UInt8} {p : Nat} {c : UInt8} (h : l[p]? = some c) (hc : c.toNat < 128) : dec l p = (c.toNat, 1) := by
  unfold dec Utf8.decode
  simp only [get_at h]
  rw [if_pos hc]
theorem dec_hi {l : List UInt8} {p : Nat} {c : UInt8} (h : l[p]? = some c) (hc : ¬ c.toNat < 128) : 128 ≤ (dec l p).1 ∧ (dec l p).1 < 2147483648 := by
  unfold dec Utf8.decode
  simp only [get_at h]
  rw [if_neg hc]
  have hv := c.toNat_lt
  (repeat' split) <;> simp only [Utf8.runeError, Bool.and_eq_true, decide_eq_true_eq, ge_iff_le] at * <;> omega

/-! ### Boxes whose cells no test sees -/
theorem keepSvs_v {cs : List Comp} : ∀ (l : List AV), keepSvs cs (l.map .v) = some (l.map .v)
  | [] => rfl
  | a :: l => by simp only [List.map_cons, keepSvs, keepSv, keepSvs_v l]
def rebox (k : Nat) (cells : List Sv) : St → St
  | [] => []
  | (c, v) :: s => (c, if c = .b k then .bx cells else v) :: rebox k cells s
theorem keep_box {cs : List Comp} {s : St} {k : Nat} {cells : List Sv} (hb : get s (.b k) = some (.bx cells)) (hc : keepSvs cs cells = some cells) : ∀ {l : List Comp} {r : St}, keep cs ((.b k, .bx []) :: s) l = some r → keep cs s l = some (rebox k cells r)
  | [], r, h => by cases h; rfl
  | c :: l, r, h => by
    simp only [keep] at h
    split at h
    · rename_i v hv
      split at h
      · rename_i v' r' hv' hr'
        cases h
        have ih := keep_box hb hc hr'
        by_cases e : c = .b k
        · subst e
          simp only [keep, hb, keepCV, hc, ih, rebox, if_true, Option.map_some]
        · have hv2 : get s c = some v := by
            simp only [get] at hv
            rw [if_neg (fun e' => e e'.symm)] at hv; exact hv
          simp only [keep, hv2, hv', ih, rebox, if_neg e]
      · cases h
    · cases h
theorem Kept.keepb {s r : St} {Q : St → Prop} (cs : List Comp) (k : Nat) {cells : List Sv} (hb : get s (.b k) = some (.bx cells)) (hc : keepSvs cs cells = some cells) (hk : X.keep cs ((.b k, .bx []) :: s) cs = some r) (hh : Comp.h ∈ cs) (h : Kept (rebox k cells r) Q) : Kept s Q :=
  Kept.keep cs (keep_box hb hc hk) hh h
theorem getD_mid {a r : List Int} {x : Int} {m : Nat} (h : a.length = m) : (a ++ x :: r).getD m 0 = x := by subst h; simp [List.getD_eq_getElem?_getD]
theorem set_mid {a r : List Int} {x y : Int} {m : Nat} (h : a.length = m) : (a ++ x :: r).set m y = a ++ y :: r := by subst h; simp
theorem rep_flat {α : Type} (x : α) : ∀ n, (List.replicate n [x]).flatten = List.replicate n x
  | 0 => rfl
  | n + 1 => by simp [List.replicate_succ, rep_flat x n]

/-! ### The bytes, as they are made -/
theorem setAt_one {cs : List Sv} {o : Nat} {y : Sv} (h : o < cs.length) : setAt cs o [y] = cs.set o y := by
  unfold setAt
  rw [List.set_eq_take_append_cons_drop, if_pos h]; simp
def put1 (cs : List Int) (p : Nat) (v : Int) : List Int := cs.set (p / 2) (IntKind.u8.wrap (IntKind.u8.wrap (cs.getD (p / 2) 0 * 16) + v))
def outS (l : List UInt8) : Nat → List Int
  | 0 => List.replicate (l.length / 2) 0
  | p + 1 => put1 (outS l p) p (vb (l.getD p 0))
theorem outS_len (l : List UInt8) : ∀ p, (outS l p).length = l.length / 2
  | 0 => by simp [outS]
  | p + 1 => by simp [outS, put1, outS_len l p]
theorem pairs_len : ∀ (m : Nat) (l : List UInt8), 2 * m ≤ l.length → (pairs (l.take (2 * m))).length = m
  | 0, l, _ => by simp [pairs]
  | m + 1, l, h => by
    match l, h with
    | x :: y :: l, h =>
      simp only [show 2 * (m + 1) = 2 * m + 1 + 1 by omega, List.take_succ_cons, pairs, List.length_cons]
      rw [pairs_len m l (by simp at h; omega)]
    | [x], h => simp at h; omega
    | [], h => simp at h
theorem outS_pairs (l : List UInt8) : ∀ m, 2 * m ≤ l.length → outS l (2 * m) = pairs (l.take (2 * m)) ++ List.replicate (l.length / 2 - m) 0
  | 0, _ => by simp [outS, pairs]
  | m + 1, h => by
    have ih := outS_pairs l m (by omega)
    have hpl := pairs_len m l (by omega)
    have ha : l[2 * m]? = some l[2 * m] := List.getElem?_eq_getElem (by omega)
    have hb : l[2 * m + 1]? = some l[2 * m + 1] := List.getElem?_eq_getElem (by omega)
    have hva := vb_lt l[2 * m]
    have hvb := vb_lt l[2 * m + 1]
    have da : l.getD (2 * m) 0 = l[2 * m] := by rw [List.getD_eq_getElem?_getD, ha]; rfl
    have db : l.getD (2 * m + 1) 0 = l[2 * m + 1] := by rw [List.getD_eq_getElem?_getD, hb]; rfl
    obtain ⟨k, hk⟩ : ∃ k, l.length / 2 - m = k + 1 := ⟨l.length / 2 - m - 1, by omega⟩
    have w0 : IntKind.u8.wrap (IntKind.u8.wrap (0 * 16) + vb l[2 * m]) = vb l[2 * m] := by rw [wr8 (n := 0 * 16), wr8] <;> omega
    have w1 : IntKind.u8.wrap (IntKind.u8.wrap (vb l[2 * m] * 16) + vb l[2 * m + 1]) = 16 * vb l[2 * m] + vb l[2 * m + 1] := by
      rw [wr8 (n := vb l[2 * m] * 16) (by omega) (by omega), wr8] <;> omega
    have s1 : outS l (2 * m + 1) = pairs (l.take (2 * m)) ++ vb l[2 * m] :: List.replicate k 0 := by
      show put1 (outS l (2 * m)) (2 * m) (vb (l.getD (2 * m) 0)) = _
      rw [ih, da, hk, List.replicate_succ, put1, show 2 * m / 2 = m by omega, getD_mid hpl, w0, set_mid hpl]
    show put1 (outS l (2 * m + 1)) (2 * m + 1) (vb (l.getD (2 * m + 1) 0)) = _
    rw [s1, db, put1, show (2 * m + 1) / 2 = m by omega, getD_mid hpl, w1, set_mid hpl,
      show 2 * (m + 1) = 2 * m + 2 by omega, pairs_take m ha hb, show l.length / 2 - (m + 1) = k by omega, List.append_assoc]
    rfl
theorem outS_all {l : List UInt8} (he : l.length % 2 = 0) : outS l l.length = pairs l := by
  have := outS_pairs l (l.length / 2) (by omega)
  rw [show 2 * (l.length / 2) = l.length by omega, List.take_length, Nat.sub_self] at this
  simpa using this
theorem usl_flat (cs : List Int) : (usl cs).flatMap AV.cells = usl cs := by
  induction cs with
  | nil => rfl
  | cons c cs ih => simp only [usl, List.map_cons, List.flatMap_cons] at ih ⊢; rw [ih]; rfl
/-- No slot but such a one, and no box, has the slice over box k. -/
def frzP (k n : Nat) : St → Prop
  | [] => True
  | (_, v) :: s => (∀ m, v = .sv (.mv k m) → m = n) ∧ (∀ l, v = .bx l → ∀ m, Sv.mv k m ∉ l) ∧ frzP k n s
theorem frzP_get {k n : Nat} : ∀ {s : St}, frzP k n s → ∀ c v, get s c = some v → (∀ m, v = .sv (.mv k m) → m = n) ∧ (∀ l, v = .bx l → ∀ m, Sv.mv k m ∉ l)
  | [], _, c, v, h => by cases h
  | (d, u) :: s, hp, c, v, h => by
    simp only [get] at h
    split at h
    · cases h; exact ⟨hp.1, hp.2.1⟩
    · exact frzP_get hp.2.2 c v h
theorem Kept.frzp {s : St} {Q : St → Prop} (k : Nat) (xs : List AV) (esz : Nat) (hk : get s (.b k) = some (.bx ((xs.flatMap AV.cells).map .v))) (hes : ∀ e ∈ xs, e.cells.length = esz) (hp : frzP k xs.length s) (h : Kept (X.frz k xs s) Q) : Kept s Q :=
  Kept.frz k xs esz hk hes (fun n x e m he => (frzP_get hp _ _ e).1 m (by rw [he])) (fun j l e m => (frzP_get hp _ _ e).2 l rfl m) h

def St11 (H : Hp) (l : List UInt8) (n : Nat) (cells : List Sv) (p : Nat) : St := [(.h, .hp H), (.s 4, .sv (.mv 16 n)), (.s 18, .sv (.lp 18 0)), (.b 16, .bx cells), (.b 18, .it l p)]
theorem get_pure (l : List UInt8) (hl : l.length ≤ 1073741824) : Pure Try.prog 11 [.str l] (.tup [.sl (usl (gets l).1), .bool (gets l).2]) := by
  refine Pure.of_tri Try.func11 rfl rfl (ltb rfl) fun H => ?_
  refine Tri.seq ?_
  refine Tri.region ?_
  refine TriL.c1 rfl (op_as (ltb rfl) rfl) ?_
  refine TriL.c1 rfl (op_as (ltb rfl) rfl) ?_
  refine TriL.nil ?_
  refine Tri.seq ?_
  refine Tri.seq ?_
  refine Tri.region ?_
  refine TriL.c1 rfl (op_mv (ltb rfl) rfl) ?_
  refine TriL.c1 rfl (op_lens (ltb rfl) un9 rfl) ?_
  refine TriL.c1 rfl (op_bin (ltb rfl) rfl rfl rfl) ?_
  refine TriL.c1 rfl (op_bin (ltb rfl) rfl rfl rfl) ?_
  refine TriL.nil ?_
  have et : (l.length : Int).tmod 2 = ((l.length % 2 : Nat) : Int) := by rw [Int.tmod_eq_emod_of_nonneg (by omega)]; omega
  refine Tri.cond rfl (fun hc1 => ?_) (fun hc1 => ?_)
  · refine Tri.seq ?_
    refine Tri.region ?_
    refine TriL.c1 rfl (op_as (ltb rfl) rfl) ?_
    refine TriL.c1 rfl (op_as (ltb rfl) rfl) ?_
    refine TriL.nil ?_
    refine Tri.ret ?_
    have ho : gets l = ([], false) := gets_odd (by
      rw [et] at hc1
      have h2 : (((l.length % 2 : Nat) : Int) == 0) = false := by simpa using hc1
      have := ne_of_beq_false h2; omega)
    exact ⟨.inr rfl, (ResOK.r2 rfl (.tmp rfl (.tmp rfl .nil))).cast (by rw [ho]; rfl), rfl⟩
  have he : l.length % 2 = 0 := by
    rw [et] at hc1
    have h2 : (((l.length % 2 : Nat) : Int) == 0) = true := by simpa using hc1
    have := eq_of_beq h2; omega
  refine Tri.skip ?_
  refine Tri.seq ?_
  refine Tri.region ?_
  refine TriL.c1 rfl (op_mv (ltb rfl) rfl) ?_
  refine TriL.c1 rfl (op_lens (ltb rfl) un9 rfl) ?_
  refine TriL.c1 rfl (op_bin (ltb rfl) rfl rfl rfl) ?_
  have eq2 : IntKind.i64.wrap ((l.length : Int).tdiv 2) = ((l.length / 2 : Nat) : Int) := by rw [Int.tdiv_eq_ediv_of_nonneg (by omega), wr64] <;> omega
  refine TriL.c2 rfl (op_mkv (ltb rfl) se22 zAe22 rfl rfl (by omega) (by omega) (by simp only [maxLen]; omega) rfl) ?_
  refine TriL.c1 rfl (op_as (ltb rfl) rfl) ?_
  refine TriL.nil ?_
  refine Tri.seq ?_
  refine Tri.seq ?_
  refine Tri.region ?_
  refine TriL.c1 rfl (op_mv (ltb rfl) rfl) ?_
  refine TriL.c2 rfl (op_rng (ltb rfl) un9 rfl rfl) ?_
  refine TriL.kept (Kept.keepb [.h, .s 4, .s 18, .b 16, .b 18] 16 rfl (keepSvs_v _) rfl (by decide) (Kept.now ?_))
  refine Tri.blk ?_
  refine Tri.loop (fun n s => ∃ (p : Nat) (cells : List Sv) (k : Nat), s = St11 H l k cells p ∧ k = l.length / 2 ∧ cells = (usl (outS l p)).map .v ∧ (l.take p).all okb = true ∧ p ≤ l.length ∧ n = l.length - p) ?_ (n := l.length) ⟨0, _, _, rfl, ?_, ?_, rfl, by omega, rfl⟩
  case refine_2 => rw [eq2]; rfl
  case refine_3 =>
    rw [eq2, Int.toNat_natCast]
    simp only [outS, usl, List.map_replicate]
    rw [rep_flat, List.map_replicate]
  rintro n s ⟨p, cells, k, rfl, hk, hcells, hok, hp, rfl⟩
  have hol := outS_len l p
  have hcl : cells.length = l.length / 2 := by rw [hcells]; simp [usl, hol]
  by_cases hlt : p < l.length
  · obtain ⟨c, hc⟩ : ∃ c, l[p]? = some c := ⟨l[p], List.getElem?_eq_getElem hlt⟩
    have hcb := c.toNat_lt
    have hr : 0 ≤ ((dec l p).1 : Int) ∧ ((dec l p).1 : Int) < 2147483648 := by
      by_cases h8 : c.toNat < 128
      · rw [dec_lo hc h8]; simp only; omega
      · have := dec_hi hc h8; omega
    have hrok : hexok ((dec l p).1 : Int) = okb c := by
      by_cases h8 : c.toNat < 128
      · rw [dec_lo hc h8]; rfl
      · have := dec_hi hc h8
        unfold okb hexok
        rw [decide_eq_false (by omega), decide_eq_false (by omega)]
    refine Tri.seq ?_
    refine Tri.region ?_
    refine TriL.c2 rfl (op_nxt1 (ltb rfl) rfl rfl hlt) ?_
    refine TriL.c1 rfl (op_ext (ltb rfl) rfl rfl) ?_
    refine TriL.nil ?_
    refine Tri.seq ?_
    refine Tri.condT rfl rfl ?_
    refine Tri.skip ?_
    refine Tri.blk ?_
    refine Tri.seq ?_
    refine Tri.region ?_
    refine TriL.c1 rfl (op_ext (ltb rfl) rfl rfl) ?_
    refine TriL.c1 rfl (op_ext (ltb rfl) rfl rfl) ?_
    refine TriL.c1 rfl (op_as (ltb rfl) rfl) ?_
    refine TriL.c1 rfl (op_as (ltb rfl) rfl) ?_
    refine TriL.nil ?_
    refine Tri.seq ?_
    refine Tri.region ?_
    refine TriL.c1 rfl (op_mv (ltb rfl) rfl) ?_
    refine TriL.c1 rfl (op_call (ltb rfl) fn37 rfl (value_pure _ hr.1 hr.2)) ?_
    refine TriL.c1 rfl (op_mv (ltb rfl) rfl) ?_
    refine TriL.c1 rfl (op_ext (ltb rfl) rfl rfl) ?_
    refine TriL.c1 rfl (op_ext (ltb rfl) rfl rfl) ?_
    refine TriL.c1 rfl (op_as (ltb rfl) rfl) ?_
    refine TriL.c1 rfl (op_as (ltb rfl) rfl) ?_
    refine TriL.nil ?_
    refine Tri.seq ?_
    refine Tri.seq ?_
    refine Tri.region ?_
    refine TriL.c1 rfl (op_mv (ltb rfl) rfl) ?_
    refine TriL.c1 rfl (op_un (ltb rfl) rfl rfl) ?_
    refine TriL.nil ?_
    refine Tri.cond rfl (fun hc3 => ?_) (fun hc3 => ?_)
    · refine Tri.seq ?_
      refine Tri.region ?_
      refine TriL.c1 rfl (op_as (ltb rfl) rfl) ?_
      refine TriL.c1 rfl (op_as (ltb rfl) rfl) ?_
      refine TriL.nil ?_
      refine Tri.ret ?_
      have hno : okb c = false := by rw [hrok] at hc3; simpa using hc3
      exact ⟨.inr rfl, (ResOK.r2 rfl (.tmp rfl (.tmp rfl .nil))).cast (by rw [gets_no hc hno]; rfl), rfl⟩
    · have hyes : okb c = true := by rw [hrok] at hc3; simpa using hc3
      have h8 : c.toNat < 128 := by have := of_decide_eq_true hyes; omega
      have hdec := dec_lo hc h8
      have eqp : IntKind.i64.wrap ((p : Int).tdiv 2) = ((p / 2 : Nat) : Int) := by rw [Int.tdiv_eq_ediv_of_nonneg (by omega), wr64] <;> omega
      have hp2 : p / 2 < l.length / 2 := by omega
      have hget : cells[p / 2]? = some (.v (.int .u8 ((outS l p).getD (p / 2) 0))) := by
        rw [hcells]; simp only [usl, List.getElem?_map, List.getElem?_eq_getElem (show p / 2 < (outS l p).length by omega), List.getD_eq_getElem?_getD]; rfl
      refine Tri.skip ?_
      refine Tri.region ?_
      refine TriL.c1 rfl (op_mv (ltb rfl) rfl) ?_
      refine TriL.c1 rfl (op_mv (ltb rfl) rfl) ?_
      refine TriL.c1 rfl (op_bin (ltb rfl) rfl rfl rfl) ?_
      refine TriL.c1 rfl (op_mv (ltb rfl) rfl) ?_
      refine TriL.c1 rfl (op_mv (ltb rfl) rfl) ?_
      refine TriL.c1 rfl (op_bin (ltb rfl) rfl rfl rfl) ?_
      refine TriL.c1 rfl (op_ial (ltb rfl) ie22 rfl rfl (by omega) (by omega)) ?_
      refine TriL.c1 rfl (op_ldl (z := .v (.int .u8 ((outS l p).getD (p / 2) 0))) (ltb rfl) lk5 rfl rfl (by simp only [ldc, eqp, Int.toNat_natCast, Nat.mul_one, List.getElem?_drop, Nat.add_zero]; exact hget)) ?_
      refine TriL.c1 rfl (op_bin (ltb rfl) rfl rfl rfl) ?_
      refine TriL.c1 rfl (op_mv (ltb rfl) rfl) ?_
      refine TriL.c1 rfl (op_bin (ltb rfl) rfl rfl rfl) ?_
      refine TriL.c1 rfl (op_ial (ltb rfl) ie22 rfl rfl (by omega) (by omega)) ?_
      refine TriL.c1 rfl (op_stl lk5 rfl rfl rfl rfl rfl (by omega)) ?_
      have hset : setAt cells ((IntKind.i64.wrap ((p : Int).tdiv 2)).toNat * 1) [.v (.int .u8 (IntKind.u8.wrap (IntKind.u8.wrap ((outS l p).getD (p / 2) 0 * 16) + hexval ((dec l p).1 : Int))))] = (usl (outS l (p + 1))).map Sv.v := by
        rw [eqp, Int.toNat_natCast, Nat.mul_one, setAt_one (by omega), hcells, hdec]
        show _ = (usl (put1 (outS l p) p (vb (l.getD p 0)))).map Sv.v
        rw [List.getD_eq_getElem?_getD (l := l), hc]
        simp only [put1, usl, List.map_set, Option.getD_some]
        rfl
      refine TriL.kept (Kept.keepb [.h, .s 4, .s 18, .b 16, .b 18] 16 rfl (hset.symm ▸ keepSvs_v _) rfl (by decide) (Kept.now ?_))
      refine ⟨l.length - (p + 1), by omega, p + 1, _, _, (?_ : _ = St11 H l k _ (p + 1)), hk, hset, ?_, by omega, rfl⟩
      · have hd2 : (dec l p).2 = 1 := by rw [hdec]
        rw [← hd2]; rfl
      · rw [List.take_add_one, hc]; simp [hok, hyes]
  · have hge : p = l.length := by omega
    refine Tri.seq ?_
    refine Tri.region ?_
    refine TriL.c1 rfl (op_nxt0 (ltb rfl) rfl rfl (by omega)) ?_
    refine TriL.c1 rfl (op_ext (ltb rfl) rfl rfl) ?_
    refine TriL.nil ?_
    refine Tri.seq ?_
    refine Tri.condF rfl rfl ?_
    refine Tri.exit ?_
    refine Tri.seq ?_
    refine Tri.region ?_
    refine TriL.c1 rfl (op_mv (ltb rfl) rfl) ?_
    refine TriL.c1 rfl (op_as (ltb rfl) rfl) ?_
    refine TriL.c1 rfl (op_as (ltb rfl) rfl) ?_
    refine TriL.kept (Kept.keepb [.h, .s 2, .s 3, .b 16] 16 rfl (hcells.symm ▸ keepSvs_v _) rfl (by decide) (Kept.frzp 16 (usl (outS l p)) 1 ?_ ?_ ?_ (Kept.now ?_)))
    · rw [usl_flat, ← hcells]; rfl
    · intro e hx; simp only [usl, List.mem_map] at hx; obtain ⟨_, _, rfl⟩ := hx; rfl
    · show frzP 16 _ [(.h, .hp H), (.s 2, .sv (.mv 16 k)), (.s 3, .sv (.v (.bool true))), (.b 16, .bx cells)]
      refine And.intro (fun m e => by cases e) (And.intro (fun l e => by cases e) (And.intro (fun m e => ?_) (And.intro (fun l e => by cases e) (And.intro (fun m e => by cases e) (And.intro (fun l e => by cases e) (And.intro (fun m e => by cases e) (And.intro (fun l e m hm => ?_) trivial)))))))
      · cases e; rw [hk]; simp [usl, hol]
      · cases e; rw [hcells] at hm; simp at hm
    refine Tri.ret ?_
    rw [hge, List.take_length] at hok
    refine ⟨.inr rfl, (ResOK.r2 rfl (.tmp rfl (.tmp rfl .nil))).cast ?_, rfl⟩
    unfold gets; rw [if_pos ⟨he, hok⟩, hge, outS_all he]
end Go.Proofs.Ytecjdohpfijmpaa.X
/- The laws of hex: each answers true. -/
set_option linter.unusedVariables false
set_option linter.unusedSimpArgs false
namespace Go.Proofs.Ytecjdohpfijmpaa.X
open Go Go.RowKit Go.Proofs

theorem okEls_bsl : ∀ l : List UInt8, okEls 1 (bsl l) = true
  | [] => rfl
  | c :: l => by
    have := okEls_bsl l
    simp only [okEls, bsl, List.map_cons, List.all_cons, Bool.and_eq_true] at this ⊢
    exact ⟨⟨rfl, trivial⟩, this⟩
theorem hexs_app (a b : List UInt8) : hexs (a ++ b) = hexs a ++ hexs b := by simp [hexs]
theorem putab (a b : List UInt8) (h : a.length + b.length ≤ 1073741824) : Pure Try.prog 9 [.sl ((([] : List AV) ++ bsl a) ++ bsl b)] (.str (hexs (a ++ b))) := by
  rw [List.nil_append, ← bsl_app]; exact put_pure _ (by simpa using h)
theorem joins_pure (a b : List UInt8) (h : a.length + b.length ≤ 268435456) : Pure Try.prog 3 [.sl (bsl a), .sl (bsl b)] (.bool true) := by
  have hla := bsl_len a
  have hlb := bsl_len b
  have hxa := hexs_len a
  have hxb := hexs_len b
  have hxab := hexs_len (a ++ b)
  have h18 : (hexs (a ++ b) == hexs a ++ hexs b) = true := by rw [hexs_app]; exact beq_self_eq_true _
  have h29 : (((hexs (a ++ b)).length : Int) == IntKind.i64.wrap (IntKind.i64.wrap (2 * ((bsl a).length : Int)) + IntKind.i64.wrap (2 * ((bsl b).length : Int)))) = true := by
    rw [hxab, hla, hlb, List.length_append]
    rw [wr64 (n := 2 * (a.length : Int)) (by omega) (by omega), wr64 (n := 2 * (b.length : Int)) (by omega) (by omega), wr64 (by omega) (by omega)]
    apply beq_iff_eq.2; omega
  refine Pure.of_tri Try.func3 rfl rfl (ltb rfl) fun H => ?_
  refine Tri.seq ?_
  refine Tri.region ?_
  refine TriL.c1 rfl (op_as (ltb rfl) rfl) ?_
  refine TriL.nil ?_
  refine Tri.seq ?_
  refine Tri.region ?_
  refine TriL.c2 rfl (op_litt («as» := []) (ltb rfl) se22 zAe22 rfl rfl rfl (leb rfl) rfl) ?_
  refine TriL.c1 rfl (op_mv (ltb rfl) rfl) ?_
  refine TriL.c3 rfl (op_app (ltb rfl) se22 rfl rfl rfl (okEls_bsl a) rfl (by simp only [List.length_nil]; omega) (by simp only [List.length_nil]; omega)) ?_
  refine TriL.c1 rfl (op_mv (ltb rfl) rfl) ?_
  refine TriL.c3 rfl (op_app (ltb rfl) se22 rfl rfl rfl (okEls_bsl b) rfl (by simp only [List.length_nil, List.nil_append]; omega) (by simp only [List.length_nil, List.nil_append]; omega)) ?_
  refine TriL.c1 rfl (op_call (ltb rfl) fn9 rfl (putab a b (by omega))) ?_
  refine TriL.c1 rfl (op_as (ltb rfl) rfl) ?_
  refine TriL.nil ?_
  refine Tri.seq ?_
  refine Tri.region ?_
  refine TriL.c1 rfl (op_mv (ltb rfl) rfl) ?_
  refine TriL.c1 rfl (op_mv (ltb rfl) rfl) ?_
  refine TriL.c1 rfl (op_call (ltb rfl) fn9 rfl (put_pure a (by omega))) ?_
  refine TriL.c1 rfl (op_mv (ltb rfl) rfl) ?_
  refine TriL.c1 rfl (op_call (ltb rfl) fn9 rfl (put_pure b (by omega))) ?_
  refine TriL.c1 rfl (op_cat (ltb rfl) rfl rfl (by omega)) ?_
  refine TriL.c1 rfl (op_bin (ltb rfl) rfl rfl rfl) ?_
  refine TriL.c1 rfl (op_mv (ltb rfl) rfl) ?_
  refine TriL.g1 rfl (ltb rfl) rfl h18 (op_mv (ltb rfl) rfl) ?_
  refine TriL.g1 rfl (ltb rfl) rfl h18 (op_lens (ltb rfl) un9 rfl) ?_
  refine TriL.g1 rfl (ltb rfl) rfl h18 (op_mv (ltb rfl) rfl) ?_
  refine TriL.g1 rfl (ltb rfl) rfl h18 (op_lenl (ltb rfl) un22 rfl) ?_
  refine TriL.g1 rfl (ltb rfl) rfl h18 (op_bin (ltb rfl) rfl rfl rfl) ?_
  refine TriL.g1 rfl (ltb rfl) rfl h18 (op_mv (ltb rfl) rfl) ?_
  refine TriL.g1 rfl (ltb rfl) rfl h18 (op_lenl (ltb rfl) un22 rfl) ?_
  refine TriL.g1 rfl (ltb rfl) rfl h18 (op_bin (ltb rfl) rfl rfl rfl) ?_
  refine TriL.g1 rfl (ltb rfl) rfl h18 (op_bin (ltb rfl) rfl rfl rfl) ?_
  refine TriL.g1 rfl (ltb rfl) rfl h18 (op_bin (ltb rfl) rfl rfl rfl) ?_
  refine TriL.c1 rfl (op_pickt (ltb rfl) rfl h18 rfl) ?_
  refine TriL.c1 rfl (op_mv (ltb rfl) rfl) ?_
  refine TriL.g1 rfl (ltb rfl) rfl h29 (op_call (ltb rfl) fn10 rfl live_pure) ?_
  refine TriL.c1 rfl (op_pickt (ltb rfl) rfl h29 rfl) ?_
  refine TriL.c1 rfl (op_as (ltb rfl) rfl) ?_
  refine TriL.nil ?_
  refine Tri.ret ?_
  exact ⟨.inr rfl, ResOK.r1 rfl (.tmp rfl .nil), rfl⟩

/-! ### What is put is got -/
theorem okb_hexd (n : Nat) : okb (hexd n) = true := by
  have : ∀ m : Fin 16, okb (hexds.getD m.val 0) = true := by decide
  exact this ⟨n % 16, Nat.mod_lt _ (by decide)⟩
theorem vb_hexd (n : Nat) : vb (hexd n) = (n % 16 : Nat) := by
  have : ∀ m : Fin 16, vb (hexds.getD m.val 0) = (m.val : Nat) := by decide
  exact this ⟨n % 16, Nat.mod_lt _ (by decide)⟩
theorem all_hexs : ∀ l : List UInt8, (hexs l).all okb = true
  | [] => rfl
  | c :: l => by
    have := all_hexs l
    simp only [hexs, List.flatMap_cons, List.all_append, List.all_cons, List.all_nil, okb_hexd, Bool.and_self, Bool.true_and] at this ⊢
    exact this
theorem pairs_hexs : ∀ l : List UInt8, pairs (hexs l) = l.map fun c => (c.toNat : Int)
  | [] => rfl
  | c :: l => by
    have := pairs_hexs l
    have hc := c.toNat_lt
    simp only [hexs, List.flatMap_cons, List.cons_append, List.nil_append, pairs, vb_hexd, List.map_cons] at this ⊢
    rw [this]
    congr 1
    omega
theorem gets_hexs (l : List UInt8) : gets (hexs l) = (l.map fun c => (c.toNat : Int), true) := by
  unfold gets
  rw [if_pos ⟨by rw [hexs_len]; omega, all_hexs l⟩, pairs_hexs]
theorem usl_bsl (l : List UInt8) : usl (l.map fun c => (c.toNat : Int)) = bsl l := by simp [usl, bsl]
theorem getput (l : List UInt8) (h : l.length ≤ 268435456) : Pure Try.prog 11 [.str (hexs l)] (.tup [.sl (bsl l), .bool true]) := by
  have := get_pure (hexs l) (by rw [hexs_len]; omega)
  rw [gets_hexs, usl_bsl] at this; exact this
theorem puts_pure (l : List UInt8) (h : l.length ≤ 268435456) : Pure Try.prog 4 [.sl (bsl l)] (.bool true) := by
  have h15 : (hexs l == hexs l) = true := beq_self_eq_true _
  have h22 : (l == l) = true := beq_self_eq_true _
  refine Pure.of_tri Try.func4 rfl rfl (ltb rfl) fun H => ?_
  refine Tri.seq ?_
  refine Tri.region ?_
  refine TriL.c1 rfl (op_as (ltb rfl) rfl) ?_
  refine TriL.nil ?_
  refine Tri.seq ?_
  refine Tri.region ?_
  refine TriL.c1 rfl (op_mv (ltb rfl) rfl) ?_
  refine TriL.c1 rfl (op_call (ltb rfl) fn9 rfl (put_pure l (by omega))) ?_
  refine TriL.c1 rfl (op_call (ltb rfl) fn11 rfl (getput l h)) ?_
  refine TriL.c1 rfl (op_mv (ltb rfl) rfl) ?_
  refine TriL.c1 rfl (op_ext (ltb rfl) rfl rfl) ?_
  refine TriL.c1 rfl (op_ext (ltb rfl) rfl rfl) ?_
  refine TriL.c1 rfl (op_as (ltb rfl) rfl) ?_
  refine TriL.c1 rfl (op_as (ltb rfl) rfl) ?_
  refine TriL.nil ?_
  refine Tri.seq ?_
  refine Tri.region ?_
  refine TriL.c1 rfl (op_mv (ltb rfl) rfl) ?_
  refine TriL.c1 rfl (op_call (ltb rfl) fn9 rfl (put_pure l (by omega))) ?_
  refine TriL.c1 rfl (op_mv (ltb rfl) rfl) ?_
  refine TriL.c1 rfl (op_call (ltb rfl) fn12 rfl (refput_pure l (by omega))) ?_
  refine TriL.c1 rfl (op_bin (ltb rfl) rfl rfl rfl) ?_
  refine TriL.c1 rfl (op_mv (ltb rfl) rfl) ?_
  refine TriL.g1 rfl (ltb rfl) rfl h15 (op_mv (ltb rfl) rfl) ?_
  refine TriL.c1 rfl (op_pickt (ltb rfl) rfl h15 rfl) ?_
  refine TriL.c1 rfl (op_mv (ltb rfl) rfl) ?_
  refine TriL.g1 rfl (ltb rfl) rfl rfl (op_mv (ltb rfl) rfl) ?_
  refine TriL.g1 rfl (ltb rfl) rfl rfl (op_mv (ltb rfl) rfl) ?_
  refine TriL.g1 rfl (ltb rfl) rfl rfl (op_call (ltb rfl) fn13 rfl (bytes_pure l l)) ?_
  refine TriL.c1 rfl (op_pickt (ltb rfl) rfl rfl rfl) ?_
  refine TriL.c1 rfl (op_mv (ltb rfl) rfl) ?_
  refine TriL.g1 rfl (ltb rfl) rfl h22 (op_call (ltb rfl) fn10 rfl live_pure) ?_
  refine TriL.c1 rfl (op_pickt (ltb rfl) rfl h22 rfl) ?_
  refine TriL.c1 rfl (op_as (ltb rfl) rfl) ?_
  refine TriL.nil ?_
  refine Tri.ret ?_
  exact ⟨.inr rfl, ResOK.r1 rfl (.tmp rfl .nil), rfl⟩
theorem bytesOfInts : ∀ xs : List Int, (∀ x ∈ xs, 0 ≤ x ∧ x < 256) → ∃ m : List UInt8, usl xs = bsl m
  | [], _ => ⟨[], rfl⟩
  | x :: xs, h => by
    obtain ⟨m, hm⟩ := bytesOfInts xs (fun y hy => h y (List.mem_cons_of_mem _ hy))
    have hx := h x List.mem_cons_self
    refine ⟨UInt8.ofNat x.toNat :: m, ?_⟩
    have e : ((UInt8.ofNat x.toNat).toNat : Int) = x := by rw [UInt8.toNat_ofNat_of_lt' (by simp [UInt8.size]; omega)]; omega
    simp only [usl, bsl, List.map_cons, e] at hm ⊢
    rw [hm]
theorem pairs_lt : ∀ l : List UInt8, ∀ x ∈ pairs l, 0 ≤ x ∧ x < 256
  | a :: b :: l, x, h => by
    rcases List.mem_cons.1 h with rfl | h
    · have := vb_lt a; have := vb_lt b; omega
    · exact pairs_lt l x h
  | [_], x, h => by cases h
  | [], x, h => by cases h
theorem gets_bytes (l : List UInt8) : ∃ m : List UInt8, usl (gets l).1 = bsl m := by
  unfold gets
  split
  · exact bytesOfInts _ (pairs_lt l)
  · exact ⟨[], rfl⟩
theorem gets_pure (l : List UInt8) (h : l.length ≤ 1073741824) : Pure Try.prog 5 [.str l] (.bool true) := by
  obtain ⟨m, hm⟩ := gets_bytes l
  have h1 := get_pure l h
  have h2 := refget_pure l h
  rw [hm] at h1 h2
  have h19 : (m == m) = true := beq_self_eq_true _
  have h23 : ((gets l).2 == (gets l).2) = true := beq_self_eq_true _
  refine Pure.of_tri Try.func5 rfl rfl (ltb rfl) fun H => ?_
  refine Tri.seq ?_
  refine Tri.region ?_
  refine TriL.c1 rfl (op_as (ltb rfl) rfl) ?_
  refine TriL.nil ?_
  refine Tri.seq ?_
  refine Tri.region ?_
  refine TriL.c1 rfl (op_mv (ltb rfl) rfl) ?_
  refine TriL.c1 rfl (op_call (ltb rfl) fn11 rfl h1) ?_
  refine TriL.c1 rfl (op_mv (ltb rfl) rfl) ?_
  refine TriL.c1 rfl (op_ext (ltb rfl) rfl rfl) ?_
  refine TriL.c1 rfl (op_ext (ltb rfl) rfl rfl) ?_
  refine TriL.c1 rfl (op_as (ltb rfl) rfl) ?_
  refine TriL.c1 rfl (op_as (ltb rfl) rfl) ?_
  refine TriL.nil ?_
  refine Tri.seq ?_
  refine Tri.region ?_
  refine TriL.c1 rfl (op_mv (ltb rfl) rfl) ?_
  refine TriL.c1 rfl (op_call (ltb rfl) fn14 rfl h2) ?_
  refine TriL.c1 rfl (op_mv (ltb rfl) rfl) ?_
  refine TriL.c1 rfl (op_ext (ltb rfl) rfl rfl) ?_
  refine TriL.c1 rfl (op_ext (ltb rfl) rfl rfl) ?_
  refine TriL.c1 rfl (op_as (ltb rfl) rfl) ?_
  refine TriL.c1 rfl (op_as (ltb rfl) rfl) ?_
  refine TriL.nil ?_
  refine Tri.seq ?_
  refine Tri.region ?_
  refine TriL.c1 rfl (op_mv (ltb rfl) rfl) ?_
  refine TriL.c1 rfl (op_mv (ltb rfl) rfl) ?_
  refine TriL.c1 rfl (op_call (ltb rfl) fn13 rfl (bytes_pure m m)) ?_
  refine TriL.c1 rfl (op_mv (ltb rfl) rfl) ?_
  refine TriL.g1 rfl (ltb rfl) rfl h19 (op_mv (ltb rfl) rfl) ?_
  refine TriL.g1 rfl (ltb rfl) rfl h19 (op_mv (ltb rfl) rfl) ?_
  refine TriL.g1 rfl (ltb rfl) rfl h19 (op_eqb (ltb rfl) un4 rfl rfl) ?_
  refine TriL.c1 rfl (op_pickt (ltb rfl) rfl h19 rfl) ?_
  refine TriL.c1 rfl (op_mv (ltb rfl) rfl) ?_
  refine TriL.g1 rfl (ltb rfl) rfl h23 (op_call (ltb rfl) fn10 rfl live_pure) ?_
  refine TriL.c1 rfl (op_pickt (ltb rfl) rfl h23 rfl) ?_
  refine TriL.c1 rfl (op_as (ltb rfl) rfl) ?_
  refine TriL.nil ?_
  refine Tri.ret ?_
  exact ⟨.inr rfl, ResOK.r1 rfl (.tmp rfl .nil), rfl⟩
end Go.Proofs.Ytecjdohpfijmpaa.X
