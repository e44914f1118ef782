/- hex's reference Put, and both Gets. -/
import Derived.Test.YtecjdohpfijmpaaH2
set_option linter.unusedVariables false
set_option linter.unusedSimpArgs false
namespace Go.Proofs.Ytecjdohpfijmpaa.X
open Go Go.RowKit Go.Proofs

/-! ### ecdysisref08.Put -/
def St12 (H : Hp) (l : List UInt8) (xs : List AV) (j : Int) : St := [(.h, .hp H), (.s 0, .sv (.v (.sl (bsl l)))), (.s 3, .sv (.ow 5 xs)), (.s 4, .sv (.v (.int .i64 j))), (.t 5, .tk false 5 1 xs)]
theorem refput_pure (l : List UInt8) (hl : l.length ≤ 1073741824) : Pure Try.prog 12 [.sl (bsl l)] (.str (hexs l)) := by
  refine Pure.of_tri Try.func12 rfl rfl (ltb rfl) fun H => ?_
  have hln := bsl_len l
  refine Tri.seq ?_
  refine Tri.region ?_
  refine TriL.c1 rfl (op_as (ltb rfl) rfl) ?_
  refine TriL.nil ?_
  refine Tri.seq ?_
  refine Tri.region ?_
  refine TriL.c2 rfl (op_litt («as» := []) (ltb rfl) se22 zAe22 rfl rfl rfl (leb rfl) rfl) ?_
  refine TriL.c1 rfl (op_as (ltb rfl) rfl) ?_
  refine TriL.nil ?_
  refine Tri.seq ?_
  refine Tri.seq ?_
  refine Tri.region ?_
  refine TriL.c1 rfl (op_as (ltb rfl) rfl) ?_
  refine TriL.kept (Kept.keep [.h, .s 0, .s 3, .s 4, .t 5] rfl (by decide) (Kept.now ?_))
  refine Tri.blk ?_
  refine Tri.loop (fun n s => ∃ (i : Nat) (xs : List AV) (j : Int), s = St12 H l xs j ∧ j = i ∧ xs = bsl (hexs (l.take i)) ∧ i ≤ l.length ∧ n = l.length - i) ?_ (n := l.length) ⟨0, [], 0, rfl, rfl, rfl, by omega, rfl⟩
  rintro n s ⟨i, xs, j, rfl, hj, hxs, hi, rfl⟩
  refine Tri.seq ?_
  refine Tri.seq ?_
  refine Tri.region ?_
  refine TriL.c1 rfl (op_mv (ltb rfl) rfl) ?_
  refine TriL.c1 rfl (op_mv (ltb rfl) rfl) ?_
  refine TriL.c1 rfl (op_lenl (ltb rfl) un22 rfl) ?_
  refine TriL.c1 rfl (op_bin (ltb rfl) rfl rfl rfl) ?_
  refine TriL.nil ?_
  refine Tri.cond rfl (fun hc1 => ?_) (fun hc1 => ?_)
  · have hlt : i < l.length := by have := of_decide_eq_true hc1; omega
    obtain ⟨c, hc⟩ : ∃ c, l[i]? = some c := ⟨l[i], List.getElem?_eq_getElem hlt⟩
    have hcb := c.toNat_lt
    have hxl : xs.length = 2 * i := by rw [hxs, bsl_len, hexs_len, List.length_take]; omega
    have hcv : IntKind.i64.wrap (c.toNat : Int) = c.toNat := wr64 (by omega) (by omega)
    refine Tri.skip ?_
    refine Tri.seq ?_
    refine Tri.blk ?_
    refine Tri.drawn mixed rfl ?_
    refine TriD.c1 rfl (op_mv (ltb rfl) rfl) ?_
    refine TriD.c1 rfl (op_mv (ltb rfl) rfl) ?_
    refine TriD.c1 rfl (op_mv (ltb rfl) rfl) ?_
    refine TriD.c1 rfl (op_iak (ltb rfl) ie22 rfl rfl (by omega) (bsl_get hj hc) rfl) ?_
    refine TriD.c1 rfl (op_ldk (ltb rfl) lk5 rfl rfl) ?_
    refine TriD.c1 rfl (op_cvi (ltb rfl) un5 un3 rfl) ?_
    refine TriD.c1 rfl (op_bin (ltb rfl) rfl rfl rfl) ?_
    refine TriD.c1 rfl (op_call (ltb rfl) fn38 rfl (refdigit_pure (c.toNat / 16) (by rw [hcv, Int.tdiv_eq_ediv_of_nonneg (by omega), wr64] <;> omega) (by omega))) ?_
    refine TriD.c1 rfl (op_mv (ltb rfl) rfl) ?_
    refine TriD.c1 rfl (op_mv (ltb rfl) rfl) ?_
    refine TriD.c1 rfl (op_iak (ltb rfl) ie22 rfl rfl (by omega) (bsl_get hj hc) rfl) ?_
    refine TriD.c1 rfl (op_ldk (ltb rfl) lk5 rfl rfl) ?_
    refine TriD.c1 rfl (op_cvi (ltb rfl) un5 un3 rfl) ?_
    refine TriD.c1 rfl (op_bin (ltb rfl) rfl rfl rfl) ?_
    refine TriD.c1 rfl (op_call (ltb rfl) fn38 rfl (refdigit_pure (c.toNat % 16) (by rw [hcv, Int.tmod_eq_emod_of_nonneg (by omega)]; omega) (by omega))) ?_
    refine TriD.c1 rfl (op_lit («as» := [_, _]) (ltb rfl) se22 zAe22 rfl rfl rfl (leb rfl)) ?_
    refine TriD.c3 rfl (op_app (ltb rfl) se22 rfl rfl rfl rfl rfl (by simp only [List.length_cons, List.length_nil]; omega) (by simp only [List.length_cons, List.length_nil]; omega)) ?_
    refine TriD.c1 rfl (op_as (ltb rfl) rfl) ?_
    refine TriD.nil (by kernel_rfl) (Kept.now ?_)
    refine Tri.region ?_
    refine TriL.c1 rfl (op_mv (ltb rfl) rfl) ?_
    refine TriL.c1 rfl (op_bin (ltb rfl) rfl rfl rfl) ?_
    refine TriL.c1 rfl (op_as (ltb rfl) rfl) ?_
    refine TriL.kept (Kept.keep [.h, .s 0, .s 3, .s 4, .t 28] rfl (by decide) (Kept.ren 28 5 (by decide) rfl (Kept.now ?_)))
    refine ⟨l.length - (i + 1), by omega, i + 1, _, _, rfl, ?_, ?_, by omega, rfl⟩
    · rw [wr64] <;> omega
    · have em : hexd (c.toNat % 16) = hexd c.toNat := by simp [hexd]
      rw [hexs_take hc, bsl_app, hxs, ← em]; rfl
  · have hge : ¬ i < l.length := by have := of_decide_eq_false hc1; omega
    refine Tri.exit ?_
    refine Tri.seq ?_
    refine Tri.region ?_
    refine TriL.c1 rfl (op_mv (ltb rfl) rfl) ?_
    refine TriL.c1 rfl (op_b2s (l := hexs l) (ltb rfl) un22 unel22 un9 rfl (by rw [hxs, List.take_of_length_le (by omega)]; exact bytesOf_bsl _)) ?_
    refine TriL.c1 rfl (op_as (ltb rfl) rfl) ?_
    refine TriL.nil ?_
    refine Tri.ret ?_
    exact ⟨.inr rfl, ResOK.r1 rfl (.tmp rfl .nil), rfl⟩

/-! ### ecdysisref08.Get -/
def okb (c : UInt8) : Bool := hexok (c.toNat : Int)
def vb (c : UInt8) : Int := hexval (c.toNat : Int)
/-- pairs of digits -/
def pairs : List UInt8 → List Int
  | a :: b :: l => (16 * vb a + vb b) :: pairs l
  | _ => []
theorem pairs_take : ∀ (m : Nat) {l : List UInt8} {a b : UInt8}, l[2 * m]? = some a → l[2 * m + 1]? = some b → pairs (l.take (2 * m + 2)) = pairs (l.take (2 * m)) ++ [16 * vb a + vb b]
  | 0, l, a, b, ha, hb => by
    match l with
    | x :: y :: l => simp at ha hb; subst ha; subst hb; simp [pairs]
    | [x] => simp at hb
    | [] => simp at ha
  | m + 1, l, a, b, ha, hb => by
    match l with
    | x :: y :: l =>
      have h1 : l[2 * m]? = some a := by simpa [show 2 * (m + 1) = 2 * m + 2 by omega] using ha
      have h2 : l[2 * m + 1]? = some b := by simpa [show 2 * (m + 1) = 2 * m + 2 by omega] using hb
      have := pairs_take m h1 h2
      simp only [show 2 * (m + 1) + 2 = (2 * m + 2) + 1 + 1 by omega, show 2 * (m + 1) = 2 * m + 1 + 1 by omega, List.take_succ_cons, pairs, this, List.cons_append]
    | [x] => simp at hb
    | [] => simp at ha
/-- a text's bytes, or none -/
def gets (l : List UInt8) : List Int × Bool := if l.length % 2 = 0 ∧ l.all okb = true then (pairs l, true) else ([], false)
def usl (l : List Int) : List AV := l.map (AV.int .u8)
theorem gets_odd {l : List UInt8} (h : l.length % 2 = 1) : gets l = ([], false) := by unfold gets; rw [if_neg]; omega
theorem gets_no {l : List UInt8} {i : Nat} {c : UInt8} (h : l[i]? = some c) (hc : okb c = false) : gets l = ([], false) := by
  unfold gets; rw [if_neg]; rintro ⟨_, h2⟩
  rw [List.all_eq_true] at h2
  rw [h2 c (List.mem_of_getElem? h)] at hc; cases hc
theorem refval_ok {c : UInt8} (h : okb c = true) : refval (c.toNat : Int) = vb c := by
  have := of_decide_eq_true h
  unfold vb refval hexval; (repeat' split) <;> omega
theorem refval_no {c : UInt8} (h : okb c = false) : refval (c.toNat : Int) = -1 := by
  have := of_decide_eq_false h
  unfold refval; (repeat' split) <;> omega
theorem vb_lt (c : UInt8) : 0 ≤ vb c ∧ vb c < 16 := hexval_lt _
def St14 (H : Hp) (l : List UInt8) (xs : List AV) (j : Int) : St := [(.h, .hp H), (.s 0, .sv (.v (.str l))), (.s 4, .sv (.ow 12 xs)), (.s 5, .sv (.v (.int .i64 j))), (.t 12, .tk false 5 1 xs)]
end Go.Proofs.Ytecjdohpfijmpaa.X
