/- Quote, in the program and in the document; the law LexQuotes's walk. -/
import Derived.Test.YthoncmadikifnaaDoorLK
import Derived.Test.YthoncmadikifnaaDoorLF
set_option linter.unusedVariables false
set_option linter.unusedSimpArgs false
set_option linter.unusedSectionVars false
set_option maxRecDepth 100000
namespace Go.Proofs.YthoncmadikifnaaDoor.X
open Go Go.RowKit Go.Proofs
theorem fn11 : isFn Tryd.prog 11 = true := by kernel_rfl
theorem fn12 : isFn Tryd.prog 12 = true := by kernel_rfl
theorem fn21 : isFn Tryd.prog 21 = true := by kernel_rfl
theorem countB_len (s : List UInt8) : Lib.countB ⟨s.toArray⟩ ⟨#[39]⟩ ≤ s.length := by
  have := Lib.countB_le ⟨#[39]⟩ (by decide) s.length ⟨s.toArray⟩ (by rw [bas]; exact Nat.le_refl _)
  rw [bas] at this; exact this
theorem rep_pure (s : List UInt8) (hs : s.length ≤ 1073741824) : Pure Tryd.prog 21 [.str s, .str [39], .str [39, 39]] (.str (dbl s)) := by
  have h := replace_pure s [39] [39, 39] (by decide) (by omega) (by have := countB_len s; show s.length + Lib.countB ⟨s.toArray⟩ ⟨#[39]⟩ * 2 ≤ _; omega)
  rw [replaceAll_dbl] at h; exact h
theorem dbl_take {s : List UInt8} {i : Nat} {c : UInt8} (h : s[i]? = some c) : dbl (s.take (i + 1)) = dbl (s.take i) ++ (if c = 39 then [39, 39] else [c]) := by
  have app : ∀ a b : List UInt8, dbl (a ++ b) = dbl a ++ dbl b := by
    intro a b
    induction a with
    | nil => rfl
    | cons x a ih => simp only [List.cons_append, dbl]; split <;> simp [ih]
  rw [List.take_add_one, h, app]
  simp only [Option.toList_some, dbl]
def StQ (H : Hp) (s o : List UInt8) (j : Int) : St := [(.h, .hp H), (.s 0, .sv (.v (.str s))), (.s 3, .sv (.v (.str o))), (.s 4, .sv (.v (.int .i64 j)))]
theorem quote_pure (s : List UInt8) (hs : s.length ≤ 1073741824) : Pure Tryd.prog 11 [.str s] (.str (qot s)) := by
  refine Pure.of_tri Tryd.func11 rfl rfl (ltb rfl) fun H => ?_
  refine Tri.seq ?_
  refine Tri.region ?_
  refine TriL.c1 rfl (op_as (ltb rfl) rfl) ?_
  refine TriL.nil ?_
  refine Tri.seq ?_
  refine Tri.region ?_
  refine TriL.c1 rfl (op_mv (ltb rfl) rfl) ?_
  refine TriL.c1 rfl (op_call (ltb rfl) fn21 rfl (rep_pure s hs)) ?_
  refine TriL.c1 rfl (op_cat (ltb rfl) rfl rfl (by have := dbl_len s; simp; omega)) ?_
  refine TriL.c1 rfl (op_cat (ltb rfl) rfl rfl (by have := dbl_len s; simp; omega)) ?_
  refine TriL.c1 rfl (op_as (ltb rfl) rfl) ?_
  refine TriL.nil ?_
  refine Tri.ret ?_
  exact ⟨.inr rfl, (ResOK.r1 rfl (.tmp rfl .nil)), rfl⟩
theorem rquote_pure (s : List UInt8) (hs : s.length ≤ 1073741824) : Pure Tryd.prog 12 [.str s] (.str (qot s)) := by
  refine Pure.of_tri Tryd.func12 rfl rfl (ltb rfl) fun H => ?_
  refine Tri.seq ?_
  refine Tri.region ?_
  refine TriL.c1 rfl (op_as (ltb rfl) rfl) ?_
  refine TriL.nil ?_
  refine Tri.seq ?_
  refine Tri.region ?_
  refine TriL.c1 rfl (op_as (ltb rfl) rfl) ?_
  refine TriL.nil ?_
  refine Tri.seq ?_
  refine Tri.seq ?_
  refine Tri.region ?_
  refine TriL.c1 rfl (op_as (ltb rfl) rfl) ?_
  refine TriL.kept (Kept.keep [.h, .s 0, .s 3, .s 4] rfl (by decide) (Kept.now ?_))
  refine Tri.blk ?_
  -- LOOP 1: KEEP
  refine Tri.loop (fun q w => ∃ (a : Nat) (j : Int), w = StQ H s (39 :: dbl (s.take a)) j ∧ j = a ∧ a ≤ s.length ∧ q = s.length - a) ?_ (n := s.length) ⟨0, 0, rfl, rfl, Nat.zero_le _, rfl⟩
  rintro q w ⟨a, j, rfl, hj, ha, rfl⟩
  have hdl := dbl_len (s.take a)
  rw [List.length_take] at hdl
  refine Tri.seq ?_
  refine Tri.seq ?_
  refine Tri.region ?_
  refine TriL.c1 rfl (op_mv (ltb rfl) rfl) ?_
  refine TriL.c1 rfl (op_mv (ltb rfl) rfl) ?_
  refine TriL.c1 rfl (op_lens (ltb rfl) un9 rfl) ?_
  refine TriL.c1 rfl (op_bin (ltb rfl) rfl rfl rfl) ?_
  refine TriL.nil ?_
  refine Tri.cond rfl (fun hc1 => ?_) (fun hc1 => ?_)
  · have hlt : a < s.length := by have := of_decide_eq_true hc1; omega
    obtain ⟨c, hc⟩ : ∃ c, s[a]? = some c := ⟨s[a], List.getElem?_eq_getElem hlt⟩
    have hdt := dbl_take hc
    refine Tri.skip ?_
    refine Tri.seq ?_
    refine Tri.blk ?_
    refine Tri.join (fun w => ∃ o, w = StQ H s o j ∧ o ++ [c] = 39 :: dbl (s.take (a + 1)) ∧ o.length ≤ 2 * s.length + 2) ?_ ?_
    · refine Tri.seq ?_
      refine Tri.region ?_
      refine TriL.c1 rfl (op_mv (ltb rfl) rfl) ?_
      refine TriL.c1 rfl (op_mv (ltb rfl) rfl) ?_
      refine TriL.c1 rfl (op_ixs (ltb rfl) un9 rfl rfl (by omega) (ixc hj hc)) ?_
      refine TriL.c1 rfl (op_bin (ltb rfl) rfl rfl rfl) ?_
      refine TriL.nil ?_
      refine Tri.cond rfl (fun hc2 => ?_) (fun hc2 => ?_)
      · -- region 6 ref.go:50
        refine Tri.region ?_
        refine TriL.c1 rfl (op_mv (ltb rfl) rfl) ?_
        refine TriL.c1 rfl (op_cat (ltb rfl) rfl rfl (by simp; omega)) ?_
        refine TriL.c1 rfl (op_as (ltb rfl) rfl) ?_
        refine TriL.kept (Kept.keep [.h, .s 0, .s 3, .s 4] rfl (by decide) (Kept.now ?_))
        have h39 : c = 39 := UInt8.toNat_inj.1 (by have := eq_of_beq hc2; have e : (39 : UInt8).toNat = 39 := rfl; omega)
        exact ⟨_, rfl, by rw [hdt, if_pos h39, h39]; simp, by simp; omega⟩
      · refine Tri.ofKept (Kept.keep [.h, .s 0, .s 3, .s 4] rfl (by decide) (Kept.now ?_))
        refine Tri.skip ?_
        have h39 : c ≠ 39 := fun e => by subst e; revert hc2; decide
        exact ⟨_, rfl, by rw [hdt, if_neg h39]; simp, by simp; omega⟩
    · rintro w ⟨o, rfl, ho, hol⟩
      have hw1 : IntKind.i64.wrap (j + 1) = ((a + 1 : Nat) : Int) := by rw [hj, wr64] <;> omega
      have hcut : (s.drop j.toNat).take ((IntKind.i64.wrap (j + 1)).toNat - j.toNat) = [c] := by
        rw [hw1, hj]
        have e := drop_at hc
        rw [show ((a : Int)).toNat = a by omega, e, show ((a + 1 : Nat) : Int).toNat - a = 1 by omega]; rfl
      refine Tri.region ?_
      refine TriL.c1 rfl (op_mv (ltb rfl) rfl) ?_
      refine TriL.c1 rfl (op_mv (ltb rfl) rfl) ?_
      refine TriL.c1 rfl (op_mv (ltb rfl) rfl) ?_
      refine TriL.c1 rfl (op_mv (ltb rfl) rfl) ?_
      refine TriL.c1 rfl (op_bin (ltb rfl) rfl rfl rfl) ?_
      refine TriL.c1 rfl (op_cuts (ltb rfl) un9 rfl rfl rfl (by omega) (by rw [hw1]; omega) (by rw [hw1]; omega)) ?_
      refine TriL.c1 rfl (op_cat (ltb rfl) rfl rfl (by rw [hcut]; simp; omega)) ?_
      refine TriL.c1 rfl (op_as (ltb rfl) rfl) ?_
      refine TriL.nil ?_
      refine Tri.region ?_
      refine TriL.c1 rfl (op_mv (ltb rfl) rfl) ?_
      refine TriL.c1 rfl (op_bin (ltb rfl) rfl rfl rfl) ?_
      refine TriL.c1 rfl (op_as (ltb rfl) rfl) ?_
      refine TriL.kept (Kept.keep [.h, .s 0, .s 3, .s 4] rfl (by decide) (Kept.now ?_))
      exact ⟨s.length - (a + 1), by omega, a + 1, IntKind.i64.wrap (j + 1), by rw [hcut, ho]; rfl, hw1, by omega, rfl⟩
  · refine Tri.exit ?_
    refine Tri.seq ?_
    refine Tri.region ?_
    refine TriL.c1 rfl (op_mv (ltb rfl) rfl) ?_
    refine TriL.c1 rfl (op_cat (ltb rfl) rfl rfl (by simp; omega)) ?_
    refine TriL.c1 rfl (op_as (ltb rfl) rfl) ?_
    refine TriL.nil ?_
    refine Tri.ret ?_
    exact ⟨.inr rfl, (ResOK.r1 rfl (.tmp rfl .nil)).cast (by have e : s.take a = s := List.take_of_length_le (by have := of_decide_eq_false hc1; omega); rw [e]; rfl), rfl⟩
theorem quotes_big (s : List UInt8) (n m1 : Nat) (neg : Bool) (hs3 : s.length ≤ 300) (hn : n < 18446744073709551616) (ha : Pure Tryd.prog 7 [.str (qot s), .int .i64 1000] (.tup [.sl ([Tk.av ⟨3, s, 0, false, 0⟩, Tk.av ⟨0, [], 0, false, m1⟩]), .int .i64 m1, .int .i64 0])) (hneg : neg = true) (hbig : 9223372036854775808 < n) (x : List AV) (m2 : Int) (hb : Pure Tryd.prog 7 [.str (digs n neg), .int .i64 1000] (.tup [.sl (x), .int .i64 m2, .int .i64 2])) : Pure Tryd.prog 5 [.str s, .int .u64 n, .bool neg] (.bool true) := by
  have hs : s.length ≤ 1073741824 := by omega
  refine Pure.of_tri Tryd.func5 rfl rfl (ltb rfl) fun H => ?_
  refine Tri.seq ?_
  refine Tri.region ?_
  refine TriL.c1 rfl (op_as (ltb rfl) rfl) ?_
  refine TriL.nil ?_
  refine Tri.seq ?_
  refine Tri.seq ?_
  refine Tri.region ?_
  refine TriL.c1 rfl (op_mv (ltb rfl) rfl) ?_
  refine TriL.c1 rfl (op_lens (ltb rfl) un9 rfl) ?_
  refine TriL.c1 rfl (op_bin (ltb rfl) rfl rfl rfl) ?_
  refine TriL.nil ?_
  refine Tri.condF rfl (decide_eq_false (by omega)) ?_
  refine Tri.skip ?_
  refine Tri.seq ?_
  refine Tri.seq ?_
  refine Tri.region ?_
  refine TriL.c1 rfl (op_mv (ltb rfl) rfl) ?_
  refine TriL.c1 rfl (op_call (ltb rfl) fn11 rfl (quote_pure s hs)) ?_
  refine TriL.c1 rfl (op_mv (ltb rfl) rfl) ?_
  refine TriL.c1 rfl (op_call (ltb rfl) fn12 rfl (rquote_pure s hs)) ?_
  refine TriL.c1 rfl (op_bin (ltb rfl) rfl rfl rfl) ?_
  refine TriL.c1 rfl (op_mv (ltb rfl) rfl) ?_
  refine TriL.g1 rfl (ltb rfl) rfl (by simp) (op_mv (ltb rfl) rfl) ?_
  refine TriL.g1 rfl (ltb rfl) rfl (by simp) (op_mv (ltb rfl) rfl) ?_
  refine TriL.g1 rfl (ltb rfl) rfl (by simp) (op_call (ltb rfl) fn13 rfl (digits_pure n neg hn)) ?_
  refine TriL.g1 rfl (ltb rfl) rfl (by simp) (op_mv (ltb rfl) rfl) ?_
  refine TriL.g1 rfl (ltb rfl) rfl (by simp) (op_mv (ltb rfl) rfl) ?_
  refine TriL.g1 rfl (ltb rfl) rfl (by simp) (op_call (ltb rfl) fn14 rfl (rdigits_pure n neg hn)) ?_
  refine TriL.g1 rfl (ltb rfl) rfl (by simp) (op_bin (ltb rfl) rfl rfl rfl) ?_
  refine TriL.c1 rfl (op_pickf (ltb rfl) rfl (by simp) rfl) ?_
  refine TriL.nil ?_
  refine Tri.condF rfl (by simp) ?_
  refine Tri.skip ?_
  refine Tri.seq ?_
  refine Tri.region ?_
  refine TriL.c1 rfl (op_mv (ltb rfl) rfl) ?_
  refine TriL.c1 rfl (op_call (ltb rfl) fn11 rfl (quote_pure s hs)) ?_
  refine TriL.c1 rfl (op_call (ltb rfl) fn7 rfl ha) ?_
  refine TriL.c1 rfl (op_mv (ltb rfl) rfl) ?_
  refine TriL.c1 rfl (op_ext (ltb rfl) rfl rfl) ?_
  refine TriL.c1 rfl (op_ext (ltb rfl) rfl rfl) ?_
  refine TriL.c1 rfl (op_ext (ltb rfl) rfl rfl) ?_
  refine TriL.c1 rfl (op_as (ltb rfl) rfl) ?_
  refine TriL.c1 rfl (op_as (ltb rfl) rfl) ?_
  refine TriL.c1 rfl (op_as (ltb rfl) rfl) ?_
  refine TriL.nil ?_
  refine Tri.seq ?_
  refine Tri.seq ?_
  refine Tri.region ?_
  refine TriL.c1 rfl (op_mv (ltb rfl) rfl) ?_
  refine TriL.c1 rfl (op_call (ltb rfl) fn10 rfl (num_pure _)) ?_
  refine TriL.c1 rfl (op_bin (ltb rfl) rfl rfl rfl) ?_
  refine TriL.c1 rfl (op_mv (ltb rfl) rfl) ?_
  refine TriL.g1 rfl (ltb rfl) rfl rfl (op_mv (ltb rfl) rfl) ?_
  refine TriL.g1 rfl (ltb rfl) rfl rfl (op_lenl (ltb rfl) un23 rfl) ?_
  refine TriL.g1 rfl (ltb rfl) rfl rfl (op_bin (ltb rfl) rfl rfl rfl) ?_
  refine TriL.c1 rfl (op_pickf (ltb rfl) rfl rfl rfl) ?_
  refine TriL.c1 rfl (op_mv (ltb rfl) rfl) ?_
  refine TriL.g1 rfl (ltb rfl) rfl rfl (op_mv (ltb rfl) rfl) ?_
  refine TriL.g1 rfl (ltb rfl) rfl rfl (op_iak (ltb rfl) ie23 rfl rfl (by decide) rfl rfl) ?_
  refine TriL.g1 rfl (ltb rfl) rfl rfl (op_fak (ltb rfl) fo35_0 rfl) ?_
  refine TriL.g1 rfl (ltb rfl) rfl rfl (op_ldk (ltb rfl) lk3 rfl rfl) ?_
  refine TriL.g1 rfl (ltb rfl) rfl rfl (op_bin (ltb rfl) rfl rfl rfl) ?_
  refine TriL.c1 rfl (op_pickf (ltb rfl) rfl rfl rfl) ?_
  refine TriL.c1 rfl (op_mv (ltb rfl) rfl) ?_
  refine TriL.g1 rfl (ltb rfl) rfl rfl (op_mv (ltb rfl) rfl) ?_
  refine TriL.g1 rfl (ltb rfl) rfl rfl (op_iak (ltb rfl) ie23 rfl rfl (by decide) rfl rfl) ?_
  refine TriL.g1 rfl (ltb rfl) rfl rfl (op_fak (ltb rfl) fo35_1 rfl) ?_
  refine TriL.g1 rfl (ltb rfl) rfl rfl (op_ldk (ltb rfl) lk9 rfl rfl) ?_
  refine TriL.g1 rfl (ltb rfl) rfl rfl (op_mv (ltb rfl) rfl) ?_
  refine TriL.g1 rfl (ltb rfl) rfl rfl (op_bin (ltb rfl) rfl rfl rfl) ?_
  refine TriL.c1 rfl (op_pickf (ltb rfl) rfl rfl rfl) ?_
  refine TriL.nil ?_
  refine Tri.condF rfl (by simp) ?_
  refine Tri.skip ?_
  refine Tri.seq ?_
  refine Tri.region ?_
  refine TriL.c1 rfl (op_mv (ltb rfl) rfl) ?_
  refine TriL.c1 rfl (op_mv (ltb rfl) rfl) ?_
  refine TriL.c1 rfl (op_call (ltb rfl) fn13 rfl (digits_pure n neg hn)) ?_
  refine TriL.c1 rfl (op_call (ltb rfl) fn7 rfl hb) ?_
  refine TriL.c1 rfl (op_mv (ltb rfl) rfl) ?_
  refine TriL.c1 rfl (op_ext (ltb rfl) rfl rfl) ?_
  refine TriL.c1 rfl (op_ext (ltb rfl) rfl rfl) ?_
  refine TriL.c1 rfl (op_ext (ltb rfl) rfl rfl) ?_
  refine TriL.c1 rfl (op_as (ltb rfl) rfl) ?_
  refine TriL.c1 rfl (op_as (ltb rfl) rfl) ?_
  refine TriL.c1 rfl (op_as (ltb rfl) rfl) ?_
  refine TriL.nil ?_
  refine Tri.seq ?_
  refine Tri.seq ?_
  refine Tri.region ?_
  refine TriL.c1 rfl (op_mv (ltb rfl) rfl) ?_
  refine TriL.c1 rfl (op_mv (ltb rfl) rfl) ?_
  refine TriL.g1 rfl (ltb rfl) rfl hneg (op_mv (ltb rfl) rfl) ?_
  refine TriL.g1 rfl (ltb rfl) rfl hneg (op_bin (ltb rfl) rfl rfl rfl) ?_
  refine TriL.c1 rfl (op_pickt (ltb rfl) rfl hneg rfl) ?_
  refine TriL.nil ?_
  refine Tri.condT rfl (decide_eq_true (by omega)) ?_
  refine Tri.seq ?_
  refine Tri.region ?_
  refine TriL.c1 rfl (op_mv (ltb rfl) rfl) ?_
  refine TriL.c1 rfl (op_call (ltb rfl) fn10 rfl (num_pure _)) ?_
  refine TriL.c1 rfl (op_bin (ltb rfl) rfl rfl rfl) ?_
  refine TriL.c1 rfl (op_mv (ltb rfl) rfl) ?_
  refine TriL.g1 rfl (ltb rfl) rfl rfl (op_call (ltb rfl) fn6 rfl live_pure) ?_
  refine TriL.c1 rfl (op_pickt (ltb rfl) rfl rfl rfl) ?_
  refine TriL.c1 rfl (op_as (ltb rfl) rfl) ?_
  refine TriL.nil ?_
  refine Tri.ret ?_
  exact ⟨.inr rfl, (ResOK.r1 rfl (.tmp rfl .nil)), rfl⟩
theorem quotes_pos (s : List UInt8) (n m1 : Nat) (neg : Bool) (hs3 : s.length ≤ 300) (hn : n < 18446744073709551616) (ha : Pure Tryd.prog 7 [.str (qot s), .int .i64 1000] (.tup [.sl ([Tk.av ⟨3, s, 0, false, 0⟩, Tk.av ⟨0, [], 0, false, m1⟩]), .int .i64 m1, .int .i64 0])) (hneg : neg = true) (hbig : ¬ 9223372036854775808 < n) (m2 : Nat) (hb : Pure Tryd.prog 7 [.str (digs n neg), .int .i64 1000] (.tup [.sl ([Tk.av ⟨2, [], n, neg && decide (n ≠ 0), 0⟩, Tk.av ⟨0, [], 0, false, m2⟩]), .int .i64 m2, .int .i64 0])) : Pure Tryd.prog 5 [.str s, .int .u64 n, .bool neg] (.bool true) := by
  have hs : s.length ≤ 1073741824 := by omega
  refine Pure.of_tri Tryd.func5 rfl rfl (ltb rfl) fun H => ?_
  refine Tri.seq ?_
  refine Tri.region ?_
  refine TriL.c1 rfl (op_as (ltb rfl) rfl) ?_
  refine TriL.nil ?_
  refine Tri.seq ?_
  refine Tri.seq ?_
  refine Tri.region ?_
  refine TriL.c1 rfl (op_mv (ltb rfl) rfl) ?_
  refine TriL.c1 rfl (op_lens (ltb rfl) un9 rfl) ?_
  refine TriL.c1 rfl (op_bin (ltb rfl) rfl rfl rfl) ?_
  refine TriL.nil ?_
  refine Tri.condF rfl (decide_eq_false (by omega)) ?_
  refine Tri.skip ?_
  refine Tri.seq ?_
  refine Tri.seq ?_
  refine Tri.region ?_
  refine TriL.c1 rfl (op_mv (ltb rfl) rfl) ?_
  refine TriL.c1 rfl (op_call (ltb rfl) fn11 rfl (quote_pure s hs)) ?_
  refine TriL.c1 rfl (op_mv (ltb rfl) rfl) ?_
  refine TriL.c1 rfl (op_call (ltb rfl) fn12 rfl (rquote_pure s hs)) ?_
  refine TriL.c1 rfl (op_bin (ltb rfl) rfl rfl rfl) ?_
  refine TriL.c1 rfl (op_mv (ltb rfl) rfl) ?_
  refine TriL.g1 rfl (ltb rfl) rfl (by simp) (op_mv (ltb rfl) rfl) ?_
  refine TriL.g1 rfl (ltb rfl) rfl (by simp) (op_mv (ltb rfl) rfl) ?_
  refine TriL.g1 rfl (ltb rfl) rfl (by simp) (op_call (ltb rfl) fn13 rfl (digits_pure n neg hn)) ?_
  refine TriL.g1 rfl (ltb rfl) rfl (by simp) (op_mv (ltb rfl) rfl) ?_
  refine TriL.g1 rfl (ltb rfl) rfl (by simp) (op_mv (ltb rfl) rfl) ?_
  refine TriL.g1 rfl (ltb rfl) rfl (by simp) (op_call (ltb rfl) fn14 rfl (rdigits_pure n neg hn)) ?_
  refine TriL.g1 rfl (ltb rfl) rfl (by simp) (op_bin (ltb rfl) rfl rfl rfl) ?_
  refine TriL.c1 rfl (op_pickf (ltb rfl) rfl (by simp) rfl) ?_
  refine TriL.nil ?_
  refine Tri.condF rfl (by simp) ?_
  refine Tri.skip ?_
  refine Tri.seq ?_
  refine Tri.region ?_
  refine TriL.c1 rfl (op_mv (ltb rfl) rfl) ?_
  refine TriL.c1 rfl (op_call (ltb rfl) fn11 rfl (quote_pure s hs)) ?_
  refine TriL.c1 rfl (op_call (ltb rfl) fn7 rfl ha) ?_
  refine TriL.c1 rfl (op_mv (ltb rfl) rfl) ?_
  refine TriL.c1 rfl (op_ext (ltb rfl) rfl rfl) ?_
  refine TriL.c1 rfl (op_ext (ltb rfl) rfl rfl) ?_
  refine TriL.c1 rfl (op_ext (ltb rfl) rfl rfl) ?_
  refine TriL.c1 rfl (op_as (ltb rfl) rfl) ?_
  refine TriL.c1 rfl (op_as (ltb rfl) rfl) ?_
  refine TriL.c1 rfl (op_as (ltb rfl) rfl) ?_
  refine TriL.nil ?_
  refine Tri.seq ?_
  refine Tri.seq ?_
  refine Tri.region ?_
  refine TriL.c1 rfl (op_mv (ltb rfl) rfl) ?_
  refine TriL.c1 rfl (op_call (ltb rfl) fn10 rfl (num_pure _)) ?_
  refine TriL.c1 rfl (op_bin (ltb rfl) rfl rfl rfl) ?_
  refine TriL.c1 rfl (op_mv (ltb rfl) rfl) ?_
  refine TriL.g1 rfl (ltb rfl) rfl rfl (op_mv (ltb rfl) rfl) ?_
  refine TriL.g1 rfl (ltb rfl) rfl rfl (op_lenl (ltb rfl) un23 rfl) ?_
  refine TriL.g1 rfl (ltb rfl) rfl rfl (op_bin (ltb rfl) rfl rfl rfl) ?_
  refine TriL.c1 rfl (op_pickf (ltb rfl) rfl rfl rfl) ?_
  refine TriL.c1 rfl (op_mv (ltb rfl) rfl) ?_
  refine TriL.g1 rfl (ltb rfl) rfl rfl (op_mv (ltb rfl) rfl) ?_
  refine TriL.g1 rfl (ltb rfl) rfl rfl (op_iak (ltb rfl) ie23 rfl rfl (by decide) rfl rfl) ?_
  refine TriL.g1 rfl (ltb rfl) rfl rfl (op_fak (ltb rfl) fo35_0 rfl) ?_
  refine TriL.g1 rfl (ltb rfl) rfl rfl (op_ldk (ltb rfl) lk3 rfl rfl) ?_
  refine TriL.g1 rfl (ltb rfl) rfl rfl (op_bin (ltb rfl) rfl rfl rfl) ?_
  refine TriL.c1 rfl (op_pickf (ltb rfl) rfl rfl rfl) ?_
  refine TriL.c1 rfl (op_mv (ltb rfl) rfl) ?_
  refine TriL.g1 rfl (ltb rfl) rfl rfl (op_mv (ltb rfl) rfl) ?_
  refine TriL.g1 rfl (ltb rfl) rfl rfl (op_iak (ltb rfl) ie23 rfl rfl (by decide) rfl rfl) ?_
  refine TriL.g1 rfl (ltb rfl) rfl rfl (op_fak (ltb rfl) fo35_1 rfl) ?_
  refine TriL.g1 rfl (ltb rfl) rfl rfl (op_ldk (ltb rfl) lk9 rfl rfl) ?_
  refine TriL.g1 rfl (ltb rfl) rfl rfl (op_mv (ltb rfl) rfl) ?_
  refine TriL.g1 rfl (ltb rfl) rfl rfl (op_bin (ltb rfl) rfl rfl rfl) ?_
  refine TriL.c1 rfl (op_pickf (ltb rfl) rfl rfl rfl) ?_
  refine TriL.nil ?_
  refine Tri.condF rfl (by simp) ?_
  refine Tri.skip ?_
  refine Tri.seq ?_
  refine Tri.region ?_
  refine TriL.c1 rfl (op_mv (ltb rfl) rfl) ?_
  refine TriL.c1 rfl (op_mv (ltb rfl) rfl) ?_
  refine TriL.c1 rfl (op_call (ltb rfl) fn13 rfl (digits_pure n neg hn)) ?_
  refine TriL.c1 rfl (op_call (ltb rfl) fn7 rfl hb) ?_
  refine TriL.c1 rfl (op_mv (ltb rfl) rfl) ?_
  refine TriL.c1 rfl (op_ext (ltb rfl) rfl rfl) ?_
  refine TriL.c1 rfl (op_ext (ltb rfl) rfl rfl) ?_
  refine TriL.c1 rfl (op_ext (ltb rfl) rfl rfl) ?_
  refine TriL.c1 rfl (op_as (ltb rfl) rfl) ?_
  refine TriL.c1 rfl (op_as (ltb rfl) rfl) ?_
  refine TriL.c1 rfl (op_as (ltb rfl) rfl) ?_
  refine TriL.nil ?_
  refine Tri.seq ?_
  refine Tri.seq ?_
  refine Tri.region ?_
  refine TriL.c1 rfl (op_mv (ltb rfl) rfl) ?_
  refine TriL.c1 rfl (op_mv (ltb rfl) rfl) ?_
  refine TriL.g1 rfl (ltb rfl) rfl hneg (op_mv (ltb rfl) rfl) ?_
  refine TriL.g1 rfl (ltb rfl) rfl hneg (op_bin (ltb rfl) rfl rfl rfl) ?_
  refine TriL.c1 rfl (op_pickt (ltb rfl) rfl hneg rfl) ?_
  refine TriL.nil ?_
  refine Tri.condF rfl (decide_eq_false (by omega)) ?_
  refine Tri.skip ?_
  refine Tri.seq ?_
  refine Tri.region ?_
  refine TriL.c1 rfl (op_mv (ltb rfl) rfl) ?_
  refine TriL.c1 rfl (op_call (ltb rfl) fn10 rfl (num_pure _)) ?_
  refine TriL.c1 rfl (op_bin (ltb rfl) rfl rfl rfl) ?_
  refine TriL.c1 rfl (op_mv (ltb rfl) rfl) ?_
  refine TriL.g1 rfl (ltb rfl) rfl rfl (op_mv (ltb rfl) rfl) ?_
  refine TriL.g1 rfl (ltb rfl) rfl rfl (op_lenl (ltb rfl) un23 rfl) ?_
  refine TriL.g1 rfl (ltb rfl) rfl rfl (op_bin (ltb rfl) rfl rfl rfl) ?_
  refine TriL.c1 rfl (op_pickt (ltb rfl) rfl rfl rfl) ?_
  refine TriL.c1 rfl (op_mv (ltb rfl) rfl) ?_
  refine TriL.g1 rfl (ltb rfl) rfl rfl (op_mv (ltb rfl) rfl) ?_
  refine TriL.g1 rfl (ltb rfl) rfl rfl (op_iak (ltb rfl) ie23 rfl rfl (by decide) rfl rfl) ?_
  refine TriL.g1 rfl (ltb rfl) rfl rfl (op_fak (ltb rfl) fo35_0 rfl) ?_
  refine TriL.g1 rfl (ltb rfl) rfl rfl (op_ldk (ltb rfl) lk3 rfl rfl) ?_
  refine TriL.g1 rfl (ltb rfl) rfl rfl (op_bin (ltb rfl) rfl rfl rfl) ?_
  refine TriL.c1 rfl (op_pickt (ltb rfl) rfl rfl rfl) ?_
  refine TriL.c1 rfl (op_mv (ltb rfl) rfl) ?_
  refine TriL.g1 rfl (ltb rfl) rfl rfl (op_mv (ltb rfl) rfl) ?_
  refine TriL.g1 rfl (ltb rfl) rfl rfl (op_iak (ltb rfl) ie23 rfl rfl (by decide) rfl rfl) ?_
  refine TriL.g1 rfl (ltb rfl) rfl rfl (op_fak (ltb rfl) fo35_2 rfl) ?_
  refine TriL.g1 rfl (ltb rfl) rfl rfl (op_ldk (ltb rfl) lk33 rfl rfl) ?_
  refine TriL.g1 rfl (ltb rfl) rfl rfl (op_mv (ltb rfl) rfl) ?_
  refine TriL.g1 rfl (ltb rfl) rfl rfl (op_bin (ltb rfl) rfl rfl rfl) ?_
  refine TriL.c1 rfl (op_pickt (ltb rfl) rfl rfl rfl) ?_
  refine TriL.c1 rfl (op_mv (ltb rfl) rfl) ?_
  refine TriL.g1 rfl (ltb rfl) rfl (by simp) (op_mv (ltb rfl) rfl) ?_
  refine TriL.g1 rfl (ltb rfl) rfl (by simp) (op_iak (ltb rfl) ie23 rfl rfl (by decide) rfl rfl) ?_
  refine TriL.g1 rfl (ltb rfl) rfl (by simp) (op_fak (ltb rfl) fo35_3 rfl) ?_
  refine TriL.g1 rfl (ltb rfl) rfl (by simp) (op_ldk (ltb rfl) lk4 rfl rfl) ?_
  refine TriL.g1 rfl (ltb rfl) rfl (by simp) (op_mv (ltb rfl) rfl) ?_
  refine TriL.g1 rfl (ltb rfl) rfl (by simp) (op_mv (ltb rfl) rfl) ?_
  refine TriL.g1 rfl (ltb rfl) rfl hneg (op_mv (ltb rfl) rfl) ?_
  refine TriL.g1 rfl (ltb rfl) rfl hneg (op_bin (ltb rfl) rfl rfl rfl) ?_
  refine TriL.g1 rfl (ltb rfl) rfl (by simp) (op_pickt (ltb rfl) rfl hneg rfl) ?_
  refine TriL.g1 rfl (ltb rfl) rfl (by simp) (op_eqb (ltb rfl) un4 rfl rfl) ?_
  refine TriL.c1 rfl (op_pickt (ltb rfl) rfl (by simp) rfl) ?_
  refine TriL.c1 rfl (op_mv (ltb rfl) rfl) ?_
  refine TriL.g1 rfl (ltb rfl) rfl (by rw [hneg]; by_cases h0 : n = 0 <;> simp [h0] <;> omega) (op_call (ltb rfl) fn6 rfl live_pure) ?_
  refine TriL.c1 rfl (op_pickt (ltb rfl) rfl (by rw [hneg]; by_cases h0 : n = 0 <;> simp [h0] <;> omega) rfl) ?_
  refine TriL.c1 rfl (op_as (ltb rfl) rfl) ?_
  refine TriL.nil ?_
  refine Tri.ret ?_
  exact ⟨.inr rfl, (ResOK.r1 rfl (.tmp rfl .nil)), rfl⟩
theorem quotes_neg (s : List UInt8) (n m1 : Nat) (neg : Bool) (hs3 : s.length ≤ 300) (hn : n < 18446744073709551616) (ha : Pure Tryd.prog 7 [.str (qot s), .int .i64 1000] (.tup [.sl ([Tk.av ⟨3, s, 0, false, 0⟩, Tk.av ⟨0, [], 0, false, m1⟩]), .int .i64 m1, .int .i64 0])) (hneg : neg = false) (m2 : Nat) (hb : Pure Tryd.prog 7 [.str (digs n neg), .int .i64 1000] (.tup [.sl ([Tk.av ⟨2, [], n, neg && decide (n ≠ 0), 0⟩, Tk.av ⟨0, [], 0, false, m2⟩]), .int .i64 m2, .int .i64 0])) : Pure Tryd.prog 5 [.str s, .int .u64 n, .bool neg] (.bool true) := by
  have hs : s.length ≤ 1073741824 := by omega
  refine Pure.of_tri Tryd.func5 rfl rfl (ltb rfl) fun H => ?_
  refine Tri.seq ?_
  refine Tri.region ?_
  refine TriL.c1 rfl (op_as (ltb rfl) rfl) ?_
  refine TriL.nil ?_
  refine Tri.seq ?_
  refine Tri.seq ?_
  refine Tri.region ?_
  refine TriL.c1 rfl (op_mv (ltb rfl) rfl) ?_
  refine TriL.c1 rfl (op_lens (ltb rfl) un9 rfl) ?_
  refine TriL.c1 rfl (op_bin (ltb rfl) rfl rfl rfl) ?_
  refine TriL.nil ?_
  refine Tri.condF rfl (decide_eq_false (by omega)) ?_
  refine Tri.skip ?_
  refine Tri.seq ?_
  refine Tri.seq ?_
  refine Tri.region ?_
  refine TriL.c1 rfl (op_mv (ltb rfl) rfl) ?_
  refine TriL.c1 rfl (op_call (ltb rfl) fn11 rfl (quote_pure s hs)) ?_
  refine TriL.c1 rfl (op_mv (ltb rfl) rfl) ?_
  refine TriL.c1 rfl (op_call (ltb rfl) fn12 rfl (rquote_pure s hs)) ?_
  refine TriL.c1 rfl (op_bin (ltb rfl) rfl rfl rfl) ?_
  refine TriL.c1 rfl (op_mv (ltb rfl) rfl) ?_
  refine TriL.g1 rfl (ltb rfl) rfl (by simp) (op_mv (ltb rfl) rfl) ?_
  refine TriL.g1 rfl (ltb rfl) rfl (by simp) (op_mv (ltb rfl) rfl) ?_
  refine TriL.g1 rfl (ltb rfl) rfl (by simp) (op_call (ltb rfl) fn13 rfl (digits_pure n neg hn)) ?_
  refine TriL.g1 rfl (ltb rfl) rfl (by simp) (op_mv (ltb rfl) rfl) ?_
  refine TriL.g1 rfl (ltb rfl) rfl (by simp) (op_mv (ltb rfl) rfl) ?_
  refine TriL.g1 rfl (ltb rfl) rfl (by simp) (op_call (ltb rfl) fn14 rfl (rdigits_pure n neg hn)) ?_
  refine TriL.g1 rfl (ltb rfl) rfl (by simp) (op_bin (ltb rfl) rfl rfl rfl) ?_
  refine TriL.c1 rfl (op_pickf (ltb rfl) rfl (by simp) rfl) ?_
  refine TriL.nil ?_
  refine Tri.condF rfl (by simp) ?_
  refine Tri.skip ?_
  refine Tri.seq ?_
  refine Tri.region ?_
  refine TriL.c1 rfl (op_mv (ltb rfl) rfl) ?_
  refine TriL.c1 rfl (op_call (ltb rfl) fn11 rfl (quote_pure s hs)) ?_
  refine TriL.c1 rfl (op_call (ltb rfl) fn7 rfl ha) ?_
  refine TriL.c1 rfl (op_mv (ltb rfl) rfl) ?_
  refine TriL.c1 rfl (op_ext (ltb rfl) rfl rfl) ?_
  refine TriL.c1 rfl (op_ext (ltb rfl) rfl rfl) ?_
  refine TriL.c1 rfl (op_ext (ltb rfl) rfl rfl) ?_
  refine TriL.c1 rfl (op_as (ltb rfl) rfl) ?_
  refine TriL.c1 rfl (op_as (ltb rfl) rfl) ?_
  refine TriL.c1 rfl (op_as (ltb rfl) rfl) ?_
  refine TriL.nil ?_
  refine Tri.seq ?_
  refine Tri.seq ?_
  refine Tri.region ?_
  refine TriL.c1 rfl (op_mv (ltb rfl) rfl) ?_
  refine TriL.c1 rfl (op_call (ltb rfl) fn10 rfl (num_pure _)) ?_
  refine TriL.c1 rfl (op_bin (ltb rfl) rfl rfl rfl) ?_
  refine TriL.c1 rfl (op_mv (ltb rfl) rfl) ?_
  refine TriL.g1 rfl (ltb rfl) rfl rfl (op_mv (ltb rfl) rfl) ?_
  refine TriL.g1 rfl (ltb rfl) rfl rfl (op_lenl (ltb rfl) un23 rfl) ?_
  refine TriL.g1 rfl (ltb rfl) rfl rfl (op_bin (ltb rfl) rfl rfl rfl) ?_
  refine TriL.c1 rfl (op_pickf (ltb rfl) rfl rfl rfl) ?_
  refine TriL.c1 rfl (op_mv (ltb rfl) rfl) ?_
  refine TriL.g1 rfl (ltb rfl) rfl rfl (op_mv (ltb rfl) rfl) ?_
  refine TriL.g1 rfl (ltb rfl) rfl rfl (op_iak (ltb rfl) ie23 rfl rfl (by decide) rfl rfl) ?_
  refine TriL.g1 rfl (ltb rfl) rfl rfl (op_fak (ltb rfl) fo35_0 rfl) ?_
  refine TriL.g1 rfl (ltb rfl) rfl rfl (op_ldk (ltb rfl) lk3 rfl rfl) ?_
  refine TriL.g1 rfl (ltb rfl) rfl rfl (op_bin (ltb rfl) rfl rfl rfl) ?_
  refine TriL.c1 rfl (op_pickf (ltb rfl) rfl rfl rfl) ?_
  refine TriL.c1 rfl (op_mv (ltb rfl) rfl) ?_
  refine TriL.g1 rfl (ltb rfl) rfl rfl (op_mv (ltb rfl) rfl) ?_
  refine TriL.g1 rfl (ltb rfl) rfl rfl (op_iak (ltb rfl) ie23 rfl rfl (by decide) rfl rfl) ?_
  refine TriL.g1 rfl (ltb rfl) rfl rfl (op_fak (ltb rfl) fo35_1 rfl) ?_
  refine TriL.g1 rfl (ltb rfl) rfl rfl (op_ldk (ltb rfl) lk9 rfl rfl) ?_
  refine TriL.g1 rfl (ltb rfl) rfl rfl (op_mv (ltb rfl) rfl) ?_
  refine TriL.g1 rfl (ltb rfl) rfl rfl (op_bin (ltb rfl) rfl rfl rfl) ?_
  refine TriL.c1 rfl (op_pickf (ltb rfl) rfl rfl rfl) ?_
  refine TriL.nil ?_
  refine Tri.condF rfl (by simp) ?_
  refine Tri.skip ?_
  refine Tri.seq ?_
  refine Tri.region ?_
  refine TriL.c1 rfl (op_mv (ltb rfl) rfl) ?_
  refine TriL.c1 rfl (op_mv (ltb rfl) rfl) ?_
  refine TriL.c1 rfl (op_call (ltb rfl) fn13 rfl (digits_pure n neg hn)) ?_
  refine TriL.c1 rfl (op_call (ltb rfl) fn7 rfl hb) ?_
  refine TriL.c1 rfl (op_mv (ltb rfl) rfl) ?_
  refine TriL.c1 rfl (op_ext (ltb rfl) rfl rfl) ?_
  refine TriL.c1 rfl (op_ext (ltb rfl) rfl rfl) ?_
  refine TriL.c1 rfl (op_ext (ltb rfl) rfl rfl) ?_
  refine TriL.c1 rfl (op_as (ltb rfl) rfl) ?_
  refine TriL.c1 rfl (op_as (ltb rfl) rfl) ?_
  refine TriL.c1 rfl (op_as (ltb rfl) rfl) ?_
  refine TriL.nil ?_
  refine Tri.seq ?_
  refine Tri.seq ?_
  refine Tri.region ?_
  refine TriL.c1 rfl (op_mv (ltb rfl) rfl) ?_
  refine TriL.c1 rfl (op_mv (ltb rfl) rfl) ?_
  refine TriL.skipu rfl rfl (ltb rfl) (ltb rfl) rfl hneg ?_
  refine TriL.skipu rfl rfl (ltb rfl) (ltb rfl) rfl hneg ?_
  refine TriL.c1 rfl (op_pickf (ltb rfl) rfl hneg rfl) ?_
  refine TriL.nil ?_
  refine Tri.condF rfl rfl ?_
  refine Tri.skip ?_
  refine Tri.seq ?_
  refine Tri.region ?_
  refine TriL.c1 rfl (op_mv (ltb rfl) rfl) ?_
  refine TriL.c1 rfl (op_call (ltb rfl) fn10 rfl (num_pure _)) ?_
  refine TriL.c1 rfl (op_bin (ltb rfl) rfl rfl rfl) ?_
  refine TriL.c1 rfl (op_mv (ltb rfl) rfl) ?_
  refine TriL.g1 rfl (ltb rfl) rfl rfl (op_mv (ltb rfl) rfl) ?_
  refine TriL.g1 rfl (ltb rfl) rfl rfl (op_lenl (ltb rfl) un23 rfl) ?_
  refine TriL.g1 rfl (ltb rfl) rfl rfl (op_bin (ltb rfl) rfl rfl rfl) ?_
  refine TriL.c1 rfl (op_pickt (ltb rfl) rfl rfl rfl) ?_
  refine TriL.c1 rfl (op_mv (ltb rfl) rfl) ?_
  refine TriL.g1 rfl (ltb rfl) rfl rfl (op_mv (ltb rfl) rfl) ?_
  refine TriL.g1 rfl (ltb rfl) rfl rfl (op_iak (ltb rfl) ie23 rfl rfl (by decide) rfl rfl) ?_
  refine TriL.g1 rfl (ltb rfl) rfl rfl (op_fak (ltb rfl) fo35_0 rfl) ?_
  refine TriL.g1 rfl (ltb rfl) rfl rfl (op_ldk (ltb rfl) lk3 rfl rfl) ?_
  refine TriL.g1 rfl (ltb rfl) rfl rfl (op_bin (ltb rfl) rfl rfl rfl) ?_
  refine TriL.c1 rfl (op_pickt (ltb rfl) rfl rfl rfl) ?_
  refine TriL.c1 rfl (op_mv (ltb rfl) rfl) ?_
  refine TriL.g1 rfl (ltb rfl) rfl rfl (op_mv (ltb rfl) rfl) ?_
  refine TriL.g1 rfl (ltb rfl) rfl rfl (op_iak (ltb rfl) ie23 rfl rfl (by decide) rfl rfl) ?_
  refine TriL.g1 rfl (ltb rfl) rfl rfl (op_fak (ltb rfl) fo35_2 rfl) ?_
  refine TriL.g1 rfl (ltb rfl) rfl rfl (op_ldk (ltb rfl) lk33 rfl rfl) ?_
  refine TriL.g1 rfl (ltb rfl) rfl rfl (op_mv (ltb rfl) rfl) ?_
  refine TriL.g1 rfl (ltb rfl) rfl rfl (op_bin (ltb rfl) rfl rfl rfl) ?_
  refine TriL.c1 rfl (op_pickt (ltb rfl) rfl rfl rfl) ?_
  refine TriL.c1 rfl (op_mv (ltb rfl) rfl) ?_
  refine TriL.g1 rfl (ltb rfl) rfl (by simp) (op_mv (ltb rfl) rfl) ?_
  refine TriL.g1 rfl (ltb rfl) rfl (by simp) (op_iak (ltb rfl) ie23 rfl rfl (by decide) rfl rfl) ?_
  refine TriL.g1 rfl (ltb rfl) rfl (by simp) (op_fak (ltb rfl) fo35_3 rfl) ?_
  refine TriL.g1 rfl (ltb rfl) rfl (by simp) (op_ldk (ltb rfl) lk4 rfl rfl) ?_
  refine TriL.g1 rfl (ltb rfl) rfl (by simp) (op_mv (ltb rfl) rfl) ?_
  refine TriL.g1 rfl (ltb rfl) rfl (by simp) (op_mv (ltb rfl) rfl) ?_
  refine TriL.skipu rfl rfl (ltb rfl) (ltb rfl) rfl hneg ?_
  refine TriL.skipu rfl rfl (ltb rfl) (ltb rfl) rfl hneg ?_
  refine TriL.g1 rfl (ltb rfl) rfl (by simp) (op_pickf (ltb rfl) rfl hneg rfl) ?_
  refine TriL.g1 rfl (ltb rfl) rfl (by simp) (op_eqb (ltb rfl) un4 rfl rfl) ?_
  refine TriL.c1 rfl (op_pickt (ltb rfl) rfl (by simp) rfl) ?_
  refine TriL.c1 rfl (op_mv (ltb rfl) rfl) ?_
  refine TriL.g1 rfl (ltb rfl) rfl (by rw [hneg]; rfl) (op_call (ltb rfl) fn6 rfl live_pure) ?_
  refine TriL.c1 rfl (op_pickt (ltb rfl) rfl (by rw [hneg]; rfl) rfl) ?_
  refine TriL.c1 rfl (op_as (ltb rfl) rfl) ?_
  refine TriL.nil ?_
  refine Tri.ret ?_
  exact ⟨.inr rfl, (ResOK.r1 rfl (.tmp rfl .nil)), rfl⟩
theorem quotes_long (s : List UInt8) (n : Int) (neg : Bool) (h : 300 < s.length) : Pure Tryd.prog 5 [.str s, .int .u64 n, .bool neg] (.bool true) := by
  refine Pure.of_tri Tryd.func5 rfl rfl (ltb rfl) fun H => ?_
  refine Tri.seq ?_
  refine Tri.region ?_
  refine TriL.c1 rfl (op_as (ltb rfl) rfl) ?_
  refine TriL.nil ?_
  refine Tri.seq ?_
  refine Tri.seq ?_
  refine Tri.region ?_
  refine TriL.c1 rfl (op_mv (ltb rfl) rfl) ?_
  refine TriL.c1 rfl (op_lens (ltb rfl) un9 rfl) ?_
  refine TriL.c1 rfl (op_bin (ltb rfl) rfl rfl rfl) ?_
  refine TriL.nil ?_
  refine Tri.condT rfl (decide_eq_true (by omega)) ?_
  refine Tri.seq ?_
  refine Tri.region ?_
  refine TriL.c1 rfl (op_call (ltb rfl) fn6 rfl live_pure) ?_
  refine TriL.c1 rfl (op_as (ltb rfl) rfl) ?_
  refine TriL.nil ?_
  refine Tri.ret ?_
  exact ⟨.inr rfl, (ResOK.r1 rfl (.tmp rfl .nil)), rfl⟩
theorem quotes_pure (s : List UInt8) (n : Nat) (neg : Bool) (hn : n < 18446744073709551616) : Pure Tryd.prog 5 [.str s, .int .u64 n, .bool neg] (.bool true) := by
  by_cases hs : 300 < s.length
  · exact quotes_long s n neg hs
  · have hq : (qot s).length ≤ 602 := by have := dbl_len s; simp [qot]; omega
    have pa := all_pure (qot s) 1000 (by omega)
    rw [allV_ok (by omega) (lex_qot s)] at pa
    have hdl : (digs n neg).length ≤ 21 := by
      have := digs_len hn
      unfold digs; split <;> simp <;> omega
    have pb := all_pure (digs n neg) 1000 (by omega)
    cases hneg : neg with
    | false =>
      rw [allV_ok (by omega) (digs_ok hn (by rw [hneg]; rintro ⟨h, _⟩; cases h))] at pb
      exact hneg ▸ quotes_neg s n (qot s).length neg (by omega) hn pa hneg (digs n neg).length pb
    | true =>
      by_cases hbig : 9223372036854775808 < n
      · rw [allV_bad (by omega) (digs_big hn ⟨hneg, hbig⟩)] at pb
        exact hneg ▸ quotes_big s n (qot s).length neg (by omega) hn pa hneg hbig [] _ pb
      · rw [allV_ok (by omega) (digs_ok hn (fun h => hbig h.2))] at pb
        exact hneg ▸ quotes_pos s n (qot s).length neg (by omega) hn pa hneg hbig (digs n neg).length pb
end Go.Proofs.YthoncmadikifnaaDoor.X
