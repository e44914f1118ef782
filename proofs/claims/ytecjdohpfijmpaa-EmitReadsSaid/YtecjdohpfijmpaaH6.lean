/- The laws of hex: each answers true. -/
import Derived.Test.YtecjdohpfijmpaaH5
set_option linter.unusedVariables false
set_option linter.unusedSimpArgs false
namespace Go.Proofs.Ytecjdohpfijmpaa.X
open Go Go.RowKit Go.Proofs

theorem okEls_bsl : ∀ l : List UInt8, okEls 1 (bsl l) = true
  | [] => rfl
  | c :: l => by
    have := okEls_bsl l
    simp only [okEls, bsl, List.map_cons, List.all_cons, Bool.and_eq_true] at this ⊢
    exact ⟨⟨rfl, trivial⟩, this⟩
theorem hexs_app (a b : List UInt8) : hexs (a ++ b) = hexs a ++ hexs b := by simp [hexs]
theorem putab (a b : List UInt8) (h : a.length + b.length ≤ 1073741824) : Pure Try.prog 9 [.sl ((([] : List AV) ++ bsl a) ++ bsl b)] (.str (hexs (a ++ b))) := by
  rw [List.nil_append, ← bsl_app]; exact put_pure _ (by simpa using h)
theorem joins_pure (a b : List UInt8) (h : a.length + b.length ≤ 268435456) : Pure Try.prog 3 [.sl (bsl a), .sl (bsl b)] (.bool true) := by
  have hla := bsl_len a
  have hlb := bsl_len b
  have hxa := hexs_len a
  have hxb := hexs_len b
  have hxab := hexs_len (a ++ b)
  have h18 : (hexs (a ++ b) == hexs a ++ hexs b) = true := by rw [hexs_app]; exact beq_self_eq_true _
  have h29 : (((hexs (a ++ b)).length : Int) == IntKind.i64.wrap (IntKind.i64.wrap (2 * ((bsl a).length : Int)) + IntKind.i64.wrap (2 * ((bsl b).length : Int)))) = true := by
    rw [hxab, hla, hlb, List.length_append]
    rw [wr64 (n := 2 * (a.length : Int)) (by omega) (by omega), wr64 (n := 2 * (b.length : Int)) (by omega) (by omega), wr64 (by omega) (by omega)]
    apply beq_iff_eq.2; omega
  refine Pure.of_tri Try.func3 rfl rfl (ltb rfl) fun H => ?_
  refine Tri.seq ?_
  refine Tri.region ?_
  refine TriL.c1 rfl (op_as (ltb rfl) rfl) ?_
  refine TriL.nil ?_
  refine Tri.seq ?_
  refine Tri.region ?_
  refine TriL.c2 rfl (op_litt («as» := []) (ltb rfl) se22 zAe22 rfl rfl rfl (leb rfl) rfl) ?_
  refine TriL.c1 rfl (op_mv (ltb rfl) rfl) ?_
  refine TriL.c3 rfl (op_app (ltb rfl) se22 rfl rfl rfl (okEls_bsl a) rfl (by simp only [List.length_nil]; omega) (by simp only [List.length_nil]; omega)) ?_
  refine TriL.c1 rfl (op_mv (ltb rfl) rfl) ?_
  refine TriL.c3 rfl (op_app (ltb rfl) se22 rfl rfl rfl (okEls_bsl b) rfl (by simp only [List.length_nil, List.nil_append]; omega) (by simp only [List.length_nil, List.nil_append]; omega)) ?_
  refine TriL.c1 rfl (op_call (ltb rfl) fn9 rfl (putab a b (by omega))) ?_
  refine TriL.c1 rfl (op_as (ltb rfl) rfl) ?_
  refine TriL.nil ?_
  refine Tri.seq ?_
  refine Tri.region ?_
  refine TriL.c1 rfl (op_mv (ltb rfl) rfl) ?_
  refine TriL.c1 rfl (op_mv (ltb rfl) rfl) ?_
  refine TriL.c1 rfl (op_call (ltb rfl) fn9 rfl (put_pure a (by omega))) ?_
  refine TriL.c1 rfl (op_mv (ltb rfl) rfl) ?_
  refine TriL.c1 rfl (op_call (ltb rfl) fn9 rfl (put_pure b (by omega))) ?_
  refine TriL.c1 rfl (op_cat (ltb rfl) rfl rfl (by omega)) ?_
  refine TriL.c1 rfl (op_bin (ltb rfl) rfl rfl rfl) ?_
  refine TriL.c1 rfl (op_mv (ltb rfl) rfl) ?_
  refine TriL.g1 rfl (ltb rfl) rfl h18 (op_mv (ltb rfl) rfl) ?_
  refine TriL.g1 rfl (ltb rfl) rfl h18 (op_lens (ltb rfl) un9 rfl) ?_
  refine TriL.g1 rfl (ltb rfl) rfl h18 (op_mv (ltb rfl) rfl) ?_
  refine TriL.g1 rfl (ltb rfl) rfl h18 (op_lenl (ltb rfl) un22 rfl) ?_
  refine TriL.g1 rfl (ltb rfl) rfl h18 (op_bin (ltb rfl) rfl rfl rfl) ?_
  refine TriL.g1 rfl (ltb rfl) rfl h18 (op_mv (ltb rfl) rfl) ?_
  refine TriL.g1 rfl (ltb rfl) rfl h18 (op_lenl (ltb rfl) un22 rfl) ?_
  refine TriL.g1 rfl (ltb rfl) rfl h18 (op_bin (ltb rfl) rfl rfl rfl) ?_
  refine TriL.g1 rfl (ltb rfl) rfl h18 (op_bin (ltb rfl) rfl rfl rfl) ?_
  refine TriL.g1 rfl (ltb rfl) rfl h18 (op_bin (ltb rfl) rfl rfl rfl) ?_
  refine TriL.c1 rfl (op_pickt (ltb rfl) rfl h18 rfl) ?_
  refine TriL.c1 rfl (op_mv (ltb rfl) rfl) ?_
  refine TriL.g1 rfl (ltb rfl) rfl h29 (op_call (ltb rfl) fn10 rfl live_pure) ?_
  refine TriL.c1 rfl (op_pickt (ltb rfl) rfl h29 rfl) ?_
  refine TriL.c1 rfl (op_as (ltb rfl) rfl) ?_
  refine TriL.nil ?_
  refine Tri.ret ?_
  exact ⟨.inr rfl, ResOK.r1 rfl (.tmp rfl .nil), rfl⟩

/-! ### What is put is got -/
theorem okb_hexd (n : Nat) : okb (hexd n) = true := by
  have : ∀ m : Fin 16, okb (hexds.getD m.val 0) = true := by decide
  exact this ⟨n % 16, Nat.mod_lt _ (by decide)⟩
theorem vb_hexd (n : Nat) : vb (hexd n) = (n % 16 : Nat) := by
  have : ∀ m : Fin 16, vb (hexds.getD m.val 0) = (m.val : Nat) := by decide
  exact this ⟨n % 16, Nat.mod_lt _ (by decide)⟩
theorem all_hexs : ∀ l : List UInt8, (hexs l).all okb = true
  | [] => rfl
  | c :: l => by
    have := all_hexs l
    simp only [hexs, List.flatMap_cons, List.all_append, List.all_cons, List.all_nil, okb_hexd, Bool.and_self, Bool.true_and] at this ⊢
    exact this
theorem pairs_hexs : ∀ l : List UInt8, pairs (hexs l) = l.map fun c => (c.toNat : Int)
  | [] => rfl
  | c :: l => by
    have := pairs_hexs l
    have hc := c.toNat_lt
    simp only [hexs, List.flatMap_cons, List.cons_append, List.nil_append, pairs, vb_hexd, List.map_cons] at this ⊢
    rw [this]
    congr 1
    omega
theorem gets_hexs (l : List UInt8) : gets (hexs l) = (l.map fun c => (c.toNat : Int), true) := by
  unfold gets
  rw [if_pos ⟨by rw [hexs_len]; omega, all_hexs l⟩, pairs_hexs]
theorem usl_bsl (l : List UInt8) : usl (l.map fun c => (c.toNat : Int)) = bsl l := by simp [usl, bsl]
theorem getput (l : List UInt8) (h : l.length ≤ 268435456) : Pure Try.prog 11 [.str (hexs l)] (.tup [.sl (bsl l), .bool true]) := by
  have := get_pure (hexs l) (by rw [hexs_len]; omega)
  rw [gets_hexs, usl_bsl] at this; exact this
theorem puts_pure (l : List UInt8) (h : l.length ≤ 268435456) : Pure Try.prog 4 [.sl (bsl l)] (.bool true) := by
  have h15 : (hexs l == hexs l) = true := beq_self_eq_true _
  have h22 : (l == l) = true := beq_self_eq_true _
  refine Pure.of_tri Try.func4 rfl rfl (ltb rfl) fun H => ?_
  refine Tri.seq ?_
  refine Tri.region ?_
  refine TriL.c1 rfl (op_as (ltb rfl) rfl) ?_
  refine TriL.nil ?_
  refine Tri.seq ?_
  refine Tri.region ?_
  refine TriL.c1 rfl (op_mv (ltb rfl) rfl) ?_
  refine TriL.c1 rfl (op_call (ltb rfl) fn9 rfl (put_pure l (by omega))) ?_
  refine TriL.c1 rfl (op_call (ltb rfl) fn11 rfl (getput l h)) ?_
  refine TriL.c1 rfl (op_mv (ltb rfl) rfl) ?_
  refine TriL.c1 rfl (op_ext (ltb rfl) rfl rfl) ?_
  refine TriL.c1 rfl (op_ext (ltb rfl) rfl rfl) ?_
  refine TriL.c1 rfl (op_as (ltb rfl) rfl) ?_
  refine TriL.c1 rfl (op_as (ltb rfl) rfl) ?_
  refine TriL.nil ?_
  refine Tri.seq ?_
  refine Tri.region ?_
  refine TriL.c1 rfl (op_mv (ltb rfl) rfl) ?_
  refine TriL.c1 rfl (op_call (ltb rfl) fn9 rfl (put_pure l (by omega))) ?_
  refine TriL.c1 rfl (op_mv (ltb rfl) rfl) ?_
  refine TriL.c1 rfl (op_call (ltb rfl) fn12 rfl (refput_pure l (by omega))) ?_
  refine TriL.c1 rfl (op_bin (ltb rfl) rfl rfl rfl) ?_
  refine TriL.c1 rfl (op_mv (ltb rfl) rfl) ?_
  refine TriL.g1 rfl (ltb rfl) rfl h15 (op_mv (ltb rfl) rfl) ?_
  refine TriL.c1 rfl (op_pickt (ltb rfl) rfl h15 rfl) ?_
  refine TriL.c1 rfl (op_mv (ltb rfl) rfl) ?_
  refine TriL.g1 rfl (ltb rfl) rfl rfl (op_mv (ltb rfl) rfl) ?_
  refine TriL.g1 rfl (ltb rfl) rfl rfl (op_mv (ltb rfl) rfl) ?_
  refine TriL.g1 rfl (ltb rfl) rfl rfl (op_call (ltb rfl) fn13 rfl (bytes_pure l l)) ?_
  refine TriL.c1 rfl (op_pickt (ltb rfl) rfl rfl rfl) ?_
  refine TriL.c1 rfl (op_mv (ltb rfl) rfl) ?_
  refine TriL.g1 rfl (ltb rfl) rfl h22 (op_call (ltb rfl) fn10 rfl live_pure) ?_
  refine TriL.c1 rfl (op_pickt (ltb rfl) rfl h22 rfl) ?_
  refine TriL.c1 rfl (op_as (ltb rfl) rfl) ?_
  refine TriL.nil ?_
  refine Tri.ret ?_
  exact ⟨.inr rfl, ResOK.r1 rfl (.tmp rfl .nil), rfl⟩
theorem bytesOfInts : ∀ xs : List Int, (∀ x ∈ xs, 0 ≤ x ∧ x < 256) → ∃ m : List UInt8, usl xs = bsl m
  | [], _ => ⟨[], rfl⟩
  | x :: xs, h => by
    obtain ⟨m, hm⟩ := bytesOfInts xs (fun y hy => h y (List.mem_cons_of_mem _ hy))
    have hx := h x List.mem_cons_self
    refine ⟨UInt8.ofNat x.toNat :: m, ?_⟩
    have e : ((UInt8.ofNat x.toNat).toNat : Int) = x := by rw [UInt8.toNat_ofNat_of_lt' (by simp [UInt8.size]; omega)]; omega
    simp only [usl, bsl, List.map_cons, e] at hm ⊢
    rw [hm]
theorem pairs_lt : ∀ l : List UInt8, ∀ x ∈ pairs l, 0 ≤ x ∧ x < 256
  | a :: b :: l, x, h => by
    rcases List.mem_cons.1 h with rfl | h
    · have := vb_lt a; have := vb_lt b; omega
    · exact pairs_lt l x h
  | [_], x, h => by cases h
  | [], x, h => by cases h
theorem gets_bytes (l : List UInt8) : ∃ m : List UInt8, usl (gets l).1 = bsl m := by
  unfold gets
  split
  · exact bytesOfInts _ (pairs_lt l)
  · exact ⟨[], rfl⟩
theorem gets_pure (l : List UInt8) (h : l.length ≤ 1073741824) : Pure Try.prog 5 [.str l] (.bool true) := by
  obtain ⟨m, hm⟩ := gets_bytes l
  have h1 := get_pure l h
  have h2 := refget_pure l h
  rw [hm] at h1 h2
  have h19 : (m == m) = true := beq_self_eq_true _
  have h23 : ((gets l).2 == (gets l).2) = true := beq_self_eq_true _
  refine Pure.of_tri Try.func5 rfl rfl (ltb rfl) fun H => ?_
  refine Tri.seq ?_
  refine Tri.region ?_
  refine TriL.c1 rfl (op_as (ltb rfl) rfl) ?_
  refine TriL.nil ?_
  refine Tri.seq ?_
  refine Tri.region ?_
  refine TriL.c1 rfl (op_mv (ltb rfl) rfl) ?_
  refine TriL.c1 rfl (op_call (ltb rfl) fn11 rfl h1) ?_
  refine TriL.c1 rfl (op_mv (ltb rfl) rfl) ?_
  refine TriL.c1 rfl (op_ext (ltb rfl) rfl rfl) ?_
  refine TriL.c1 rfl (op_ext (ltb rfl) rfl rfl) ?_
  refine TriL.c1 rfl (op_as (ltb rfl) rfl) ?_
  refine TriL.c1 rfl (op_as (ltb rfl) rfl) ?_
  refine TriL.nil ?_
  refine Tri.seq ?_
  refine Tri.region ?_
  refine TriL.c1 rfl (op_mv (ltb rfl) rfl) ?_
  refine TriL.c1 rfl (op_call (ltb rfl) fn14 rfl h2) ?_
  refine TriL.c1 rfl (op_mv (ltb rfl) rfl) ?_
  refine TriL.c1 rfl (op_ext (ltb rfl) rfl rfl) ?_
  refine TriL.c1 rfl (op_ext (ltb rfl) rfl rfl) ?_
  refine TriL.c1 rfl (op_as (ltb rfl) rfl) ?_
  refine TriL.c1 rfl (op_as (ltb rfl) rfl) ?_
  refine TriL.nil ?_
  refine Tri.seq ?_
  refine Tri.region ?_
  refine TriL.c1 rfl (op_mv (ltb rfl) rfl) ?_
  refine TriL.c1 rfl (op_mv (ltb rfl) rfl) ?_
  refine TriL.c1 rfl (op_call (ltb rfl) fn13 rfl (bytes_pure m m)) ?_
  refine TriL.c1 rfl (op_mv (ltb rfl) rfl) ?_
  refine TriL.g1 rfl (ltb rfl) rfl h19 (op_mv (ltb rfl) rfl) ?_
  refine TriL.g1 rfl (ltb rfl) rfl h19 (op_mv (ltb rfl) rfl) ?_
  refine TriL.g1 rfl (ltb rfl) rfl h19 (op_eqb (ltb rfl) un4 rfl rfl) ?_
  refine TriL.c1 rfl (op_pickt (ltb rfl) rfl h19 rfl) ?_
  refine TriL.c1 rfl (op_mv (ltb rfl) rfl) ?_
  refine TriL.g1 rfl (ltb rfl) rfl h23 (op_call (ltb rfl) fn10 rfl live_pure) ?_
  refine TriL.c1 rfl (op_pickt (ltb rfl) rfl h23 rfl) ?_
  refine TriL.c1 rfl (op_as (ltb rfl) rfl) ?_
  refine TriL.nil ?_
  refine Tri.ret ?_
  exact ⟨.inr rfl, ResOK.r1 rfl (.tmp rfl .nil), rfl⟩
end Go.Proofs.Ytecjdohpfijmpaa.X
