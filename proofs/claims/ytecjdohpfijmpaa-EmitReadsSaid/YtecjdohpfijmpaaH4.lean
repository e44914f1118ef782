/- hex: both Gets. -/
import Derived.Test.YtecjdohpfijmpaaH3
set_option linter.unusedVariables false
set_option linter.unusedSimpArgs false
namespace Go.Proofs.Ytecjdohpfijmpaa.X
open Go Go.RowKit Go.Proofs

theorem refget_pure (l : List UInt8) (hl : l.length ≤ 1073741824) : Pure Try.prog 14 [.str l] (.tup [.sl (usl (gets l).1), .bool (gets l).2]) := by
  refine Pure.of_tri Try.func14 rfl rfl (ltb rfl) fun H => ?_
  refine Tri.seq ?_
  refine Tri.region ?_
  refine TriL.c1 rfl (op_as (ltb rfl) rfl) ?_
  refine TriL.c1 rfl (op_as (ltb rfl) rfl) ?_
  refine TriL.nil ?_
  refine Tri.seq ?_
  refine Tri.seq ?_
  refine Tri.region ?_
  refine TriL.c1 rfl (op_mv (ltb rfl) rfl) ?_
  refine TriL.c1 rfl (op_lens (ltb rfl) un9 rfl) ?_
  refine TriL.c1 rfl (op_bin (ltb rfl) rfl rfl rfl) ?_
  refine TriL.c1 rfl (op_bin (ltb rfl) rfl rfl rfl) ?_
  refine TriL.nil ?_
  have et : (l.length : Int).tmod 2 = ((l.length % 2 : Nat) : Int) := by rw [Int.tmod_eq_emod_of_nonneg (by omega)]; omega
  refine Tri.cond rfl (fun hc1 => ?_) (fun hc1 => ?_)
  · refine Tri.seq ?_
    refine Tri.region ?_
    refine TriL.c1 rfl (op_as (ltb rfl) rfl) ?_
    refine TriL.c1 rfl (op_as (ltb rfl) rfl) ?_
    refine TriL.nil ?_
    refine Tri.ret ?_
    have ho : gets l = ([], false) := gets_odd (by rw [et] at hc1; have := eq_of_beq hc1; omega)
    exact ⟨.inr rfl, (ResOK.r2 rfl (.tmp rfl (.tmp rfl .nil))).cast (by rw [ho]; rfl), rfl⟩
  have he : l.length % 2 = 0 := by rw [et] at hc1; have := ne_of_beq_false hc1; omega
  refine Tri.skip ?_
  refine Tri.seq ?_
  refine Tri.region ?_
  refine TriL.c2 rfl (op_litt («as» := []) (ltb rfl) se22 zAe22 rfl rfl rfl (leb rfl) rfl) ?_
  refine TriL.c1 rfl (op_as (ltb rfl) rfl) ?_
  refine TriL.nil ?_
  refine Tri.seq ?_
  refine Tri.seq ?_
  refine Tri.region ?_
  refine TriL.c1 rfl (op_as (ltb rfl) rfl) ?_
  refine TriL.kept (Kept.keep [.h, .s 0, .s 4, .s 5, .t 12] rfl (by decide) (Kept.now ?_))
  refine Tri.blk ?_
  refine Tri.loop (fun n s => ∃ (m : Nat) (xs : List AV) (j : Int), s = St14 H l xs j ∧ j = 2 * (m : Int) ∧ xs = usl (pairs (l.take (2 * m))) ∧ (l.take (2 * m)).all okb = true ∧ 2 * m ≤ l.length ∧ xs.length = m ∧ n = l.length - 2 * m) ?_ (n := l.length) ⟨0, [], 0, rfl, rfl, rfl, rfl, by omega, rfl, rfl⟩
  rintro n s ⟨m, xs, j, rfl, hj, hxs, hok, hm, hxl, rfl⟩
  refine Tri.seq ?_
  refine Tri.seq ?_
  refine Tri.region ?_
  refine TriL.c1 rfl (op_mv (ltb rfl) rfl) ?_
  refine TriL.c1 rfl (op_mv (ltb rfl) rfl) ?_
  refine TriL.c1 rfl (op_lens (ltb rfl) un9 rfl) ?_
  refine TriL.c1 rfl (op_bin (ltb rfl) rfl rfl rfl) ?_
  refine TriL.nil ?_
  refine Tri.cond rfl (fun hc2 => ?_) (fun hc2 => ?_)
  · have hlt : 2 * m + 1 < l.length := by have := of_decide_eq_true hc2; omega
    obtain ⟨a, ha⟩ : ∃ c, l[2 * m]? = some c := ⟨l[2 * m], List.getElem?_eq_getElem (by omega)⟩
    obtain ⟨b, hb⟩ : ∃ c, l[2 * m + 1]? = some c := ⟨l[2 * m + 1], List.getElem?_eq_getElem hlt⟩
    have hab := a.toNat_lt
    have hbb := b.toNat_lt
    have e1 : IntKind.i64.wrap (j + 1) = j + 1 := wr64 (by omega) (by omega)
    refine Tri.skip ?_
    refine Tri.seq ?_
    refine Tri.blk ?_
    refine Tri.seq ?_
    refine Tri.drawn mixed rfl ?_
    refine TriD.c1 rfl (op_mv (ltb rfl) rfl) ?_
    refine TriD.c1 rfl (op_mv (ltb rfl) rfl) ?_
    refine TriD.c1 rfl (op_ixs (c := a) (ltb rfl) un9 rfl rfl (by omega) (by rw [show j.toNat = 2 * m by omega]; exact ha)) ?_
    refine TriD.c1 rfl (op_call (ltb rfl) fn39 rfl (refvalue_pure _ (by omega) (by omega))) ?_
    refine TriD.c1 rfl (op_mv (ltb rfl) rfl) ?_
    refine TriD.c1 rfl (op_mv (ltb rfl) rfl) ?_
    refine TriD.c1 rfl (op_bin (ltb rfl) rfl rfl rfl) ?_
    refine TriD.c1 rfl (op_ixs (c := b) (ltb rfl) un9 rfl rfl (by omega) (by rw [show (IntKind.i64.wrap (j + 1)).toNat = 2 * m + 1 by omega]; exact hb)) ?_
    refine TriD.c1 rfl (op_call (ltb rfl) fn39 rfl (refvalue_pure _ (by omega) (by omega))) ?_
    refine TriD.c1 rfl (op_as (ltb rfl) rfl) ?_
    refine TriD.c1 rfl (op_as (ltb rfl) rfl) ?_
    refine TriD.nil (by kernel_rfl) (Kept.now ?_)
    refine Tri.seq ?_
    refine Tri.seq ?_
    refine Tri.region ?_
    refine TriL.c1 rfl (op_mv (ltb rfl) rfl) ?_
    refine TriL.c1 rfl (op_bin (ltb rfl) rfl rfl rfl) ?_
    refine TriL.c1 rfl (op_mv (ltb rfl) rfl) ?_
    refine TriL.split (d := 30) rfl (fun hg3 => ?_) (fun hg3 => ?_)
    · have hoa : okb a = false := by
        cases h : okb a with
        | false => rfl
        | true => rw [refval_ok h] at hg3; have := of_decide_eq_true hg3; have := vb_lt a; omega
      refine TriL.skip rfl rfl (ltb rfl) rfl hg3 ?_
      refine TriL.skip rfl rfl (ltb rfl) rfl hg3 ?_
      refine TriL.c1 rfl (op_pickt (ltb rfl) rfl hg3 rfl) ?_
      refine TriL.nil ?_
      refine Tri.condT rfl rfl ?_
      refine Tri.seq ?_
      refine Tri.region ?_
      refine TriL.c1 rfl (op_as (ltb rfl) rfl) ?_
      refine TriL.c1 rfl (op_as (ltb rfl) rfl) ?_
      refine TriL.nil ?_
      refine Tri.ret ?_
      exact ⟨.inr rfl, (ResOK.r2 rfl (.tmp rfl (.tmp rfl .nil))).cast (by rw [gets_no ha hoa]; rfl), rfl⟩
    · have hoa : okb a = true := by
        cases h : okb a with
        | true => rfl
        | false => rw [refval_no h] at hg3; exact absurd hg3 (by decide)
      refine TriL.g1 rfl (ltb rfl) rfl hg3 (op_mv (ltb rfl) rfl) ?_
      refine TriL.g1 rfl (ltb rfl) rfl hg3 (op_bin (ltb rfl) rfl rfl rfl) ?_
      refine TriL.c1 rfl (op_pickf (ltb rfl) rfl hg3 rfl) ?_
      refine TriL.nil ?_
      refine Tri.cond rfl (fun hc4 => ?_) (fun hc4 => ?_)
      · have hob : okb b = false := by
          cases h : okb b with
          | false => rfl
          | true => rw [refval_ok h] at hc4; have := of_decide_eq_true hc4; have := vb_lt b; omega
        refine Tri.seq ?_
        refine Tri.region ?_
        refine TriL.c1 rfl (op_as (ltb rfl) rfl) ?_
        refine TriL.c1 rfl (op_as (ltb rfl) rfl) ?_
        refine TriL.nil ?_
        refine Tri.ret ?_
        exact ⟨.inr rfl, (ResOK.r2 rfl (.tmp rfl (.tmp rfl .nil))).cast (by rw [gets_no hb hob]; rfl), rfl⟩
      · have hob : okb b = true := by
          cases h : okb b with
          | true => rfl
          | false => rw [refval_no h] at hc4; exact absurd hc4 (by decide)
        have hva := vb_lt a
        have hvb := vb_lt b
        refine Tri.skip ?_
        refine Tri.region ?_
        refine TriL.c1 rfl (op_mv (ltb rfl) rfl) ?_
        refine TriL.c1 rfl (op_mv (ltb rfl) rfl) ?_
        refine TriL.c1 rfl (op_bin (ltb rfl) rfl rfl rfl) ?_
        refine TriL.c1 rfl (op_mv (ltb rfl) rfl) ?_
        refine TriL.c1 rfl (op_bin (ltb rfl) rfl rfl rfl) ?_
        refine TriL.c1 rfl (op_cvi (ltb rfl) un3 un5 rfl) ?_
        refine TriL.c1 rfl (op_lit («as» := [_]) (ltb rfl) se22 zAe22 rfl rfl rfl (leb rfl)) ?_
        refine TriL.c3 rfl (op_app (ltb rfl) se22 rfl rfl rfl rfl rfl (by simp only [List.length_cons, List.length_nil]; omega) (by simp only [List.length_cons, List.length_nil]; omega)) ?_
        refine TriL.c1 rfl (op_as (ltb rfl) rfl) ?_
        refine TriL.nil ?_
        refine Tri.region ?_
        refine TriL.c1 rfl (op_mv (ltb rfl) rfl) ?_
        refine TriL.c1 rfl (op_bin (ltb rfl) rfl rfl rfl) ?_
        refine TriL.c1 rfl (op_as (ltb rfl) rfl) ?_
        refine TriL.kept (Kept.keep [.h, .s 0, .s 4, .s 5, .t 41] rfl (by decide) (Kept.ren 41 12 (by decide) rfl (Kept.now ?_)))
        refine ⟨l.length - 2 * (m + 1), by omega, m + 1, _, _, rfl, ?_, ?_, ?_, by omega, ?_, rfl⟩
        · rw [wr64] <;> omega
        · rw [show 2 * (m + 1) = 2 * m + 2 by omega, pairs_take m ha hb, hxs, refval_ok hoa, refval_ok hob]
          have e2 : IntKind.i64.wrap (16 * vb a) = 16 * vb a := wr64 (by omega) (by omega)
          have e3 : IntKind.i64.wrap (16 * vb a + vb b) = 16 * vb a + vb b := wr64 (by omega) (by omega)
          have e4 : IntKind.u8.wrap (16 * vb a + vb b) = 16 * vb a + vb b := wr8 (by omega) (by omega)
          rw [e2, e3, e4, usl, usl, List.map_append]; rfl
        · rw [show 2 * (m + 1) = 2 * m + 1 + 1 by omega, List.take_add_one, List.take_add_one, ha, hb]
          simp only [List.all_append, hok]; simp [hoa, hob]
        · simp [hxl]
  · have hge : 2 * m = l.length := by have := of_decide_eq_false hc2; omega
    refine Tri.exit ?_
    refine Tri.seq ?_
    refine Tri.region ?_
    refine TriL.c1 rfl (op_mv (ltb rfl) rfl) ?_
    refine TriL.c1 rfl (op_as (ltb rfl) rfl) ?_
    refine TriL.c1 rfl (op_as (ltb rfl) rfl) ?_
    refine TriL.nil ?_
    refine Tri.ret ?_
    rw [hge, List.take_length] at hxs hok
    exact ⟨.inr rfl, (ResOK.r2 rfl (.tmp rfl (.tmp rfl .nil))).cast (by unfold gets; rw [if_pos ⟨he, hok⟩, hxs]), rfl⟩
end Go.Proofs.Ytecjdohpfijmpaa.X
