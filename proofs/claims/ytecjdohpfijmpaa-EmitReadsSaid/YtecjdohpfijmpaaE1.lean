/- emit: Plain. -/
import Derived.Test.YtecjdohpfijmpaaE0
set_option linter.unusedVariables false
set_option linter.unusedSimpArgs false
namespace Go.Proofs.Ytecjdohpfijmpaa.X
open Go Go.RowKit Go.Proofs

def StP (H : Hp) (id : Nat) (ps : List AV) (m : Nat) (bs fs : List AV) (j : Int) : St :=
  [(.h, .hp H), (.s 0, .sv (.lp 100 0)), (.s 10, .sv (.v (.sl ps))), (.s 11, .sv (.v (.int .i64 ps.length))), (.s 12, .sv (.v (.int .i64 j))), (.b 100, .ob id [.om 100 m, .om 101 fs.length, .v (.bool true)]), (.t 100, .tk true 5 1 bs), (.t 101, .tk true 72 2 fs)]
def sls (ps : List (List UInt8)) : List AV := ps.map fun p => .sl (bsl p)
theorem plain_run (H : Hp) (id : Nat) (b : List UInt8) (fs : List AV) (ps : List (List UInt8)) (ho : H.obj id = some (wr (bsl b) fs)) (hl : b.length + ps.flatten.length ≤ 1073741824) (hp : ps.length ≤ 1073741824) :
    Run Try.prog 35 [.op id 0, .sl (sls ps)] H (.bool true) (H.set id (wr (bsl (b ++ ps.flatten)) fs)) := by
  refine Run.of_tri Try.func35 rfl rfl (ltb rfl) ?_
  refine Tri.seq ?_
  refine Tri.region ?_
  refine TriL.c1 rfl (op_as (ltb rfl) rfl) ?_
  refine TriL.nil ?_
  refine Tri.seq ?_
  refine Tri.seq ?_
  refine Tri.region ?_
  refine TriL.c1 rfl (op_mv (ltb rfl) rfl) ?_
  refine TriL.c2 rfl (op_callh (ltb rfl) fn40 rfl rfl (is_run H id _ _ ho)) ?_
  refine TriL.c1 rfl (op_un (ltb rfl) rfl rfl) ?_
  refine TriL.nil ?_
  refine Tri.condF rfl rfl ?_
  refine Tri.skip ?_
  refine Tri.ofKept (Kept.opn 100 id 100 rfl ho rfl rfl (Kept.lp 0 100 rfl rfl (Kept.now ?_)))
  refine Tri.seq ?_
  refine Tri.seq ?_
  refine Tri.region ?_
  refine TriL.c1 rfl (op_mv (ltb rfl) rfl) ?_
  refine TriL.c1 rfl (op_lenl (ltb rfl) un54 rfl) ?_
  refine TriL.c1 rfl (op_mv (ltb rfl) rfl) ?_
  refine TriL.kept (Kept.keep [.h, .s 0, .s 10, .s 11, .s 12, .b 100, .t 100, .t 101] rfl (by decide) (Kept.now ?_))
  refine Tri.blk ?_
  refine Tri.loop (fun n s => ∃ (i : Nat) (bs : List AV) (j : Int) (m : Nat), s = StP (H.del id) id (sls ps) m bs fs j ∧ j = i ∧ bs = bsl (b ++ (ps.take i).flatten) ∧ m = bs.length ∧ i ≤ ps.length ∧ n = ps.length - i) ?_ (n := ps.length) ⟨0, _, 0, _, rfl, rfl, by simp, rfl, by omega, rfl⟩
  rintro n s ⟨i, bs, j, m, rfl, hj, hbs, rfl, hi, rfl⟩
  have hsl : (sls ps).length = ps.length := by simp [sls]
  refine Tri.seq ?_
  refine Tri.region ?_
  refine TriL.c1 rfl (op_bin (ltb rfl) rfl rfl rfl) ?_
  refine TriL.nil ?_
  refine Tri.seq ?_
  refine Tri.cond rfl (fun hc1 => ?_) (fun hc1 => ?_)
  · have hlt : i < ps.length := by have := of_decide_eq_true hc1; omega
    obtain ⟨p, hp1⟩ : ∃ p, ps[i]? = some p := ⟨ps[i], List.getElem?_eq_getElem hlt⟩
    have hpg : (sls ps)[j.toNat]? = some (.sl (bsl p)) := by subst hj; simp [sls, hp1]
    have htk : (ps.take (i + 1)).flatten = (ps.take i).flatten ++ p := by rw [List.take_add_one, hp1]; simp
    have hfl : (ps.take (i + 1)).flatten.length ≤ ps.flatten.length := by
      have := congrArg List.length (congrArg List.flatten (List.take_append_drop (i + 1) ps))
      rw [List.flatten_append, List.length_append] at this; omega
    have hbl : bs.length + (bsl p).length ≤ 1073741824 := by
      rw [htk, List.length_append] at hfl
      rw [hbs, bsl_len, bsl_len, List.length_append]; omega
    refine Tri.skip ?_
    refine Tri.seq ?_
    refine Tri.blk ?_
    refine Tri.seq ?_
    refine Tri.region ?_
    refine TriL.c1 rfl (op_iak (ltb rfl) ie54 rfl rfl (by omega) hpg rfl) ?_
    refine TriL.c1 rfl (op_ldk (ltb rfl) lk22 rfl rfl) ?_
    refine TriL.c1 rfl (op_as (ltb rfl) rfl) ?_
    refine TriL.nil ?_
    refine Tri.region ?_
    refine TriL.c1 rfl (op_mv (ltb rfl) rfl) ?_
    refine TriL.c1 rfl (op_mv (ltb rfl) rfl) ?_
    refine TriL.c1 rfl (op_nckl (ltb rfl) rfl) ?_
    refine TriL.c1 rfl (op_fal (ltb rfl) fo59_0 rfl) ?_
    refine TriL.c1 rfl (op_ldo (ltb rfl) lk22 rfl rfl rfl) ?_
    refine TriL.c1 rfl (op_mv (ltb rfl) rfl) ?_
    refine TriL.c3 rfl (op_apm (ltb rfl) se22 rfl rfl rfl rfl (okEls_bsl p) rfl (by omega) (by omega)) ?_
    refine TriL.c1 rfl (op_nckl (ltb rfl) rfl) ?_
    refine TriL.c1 rfl (op_fal (ltb rfl) fo59_0 rfl) ?_
    refine TriL.c1 rfl (op_sto lk22 rfl rfl rfl rfl rfl (leb rfl)) ?_
    refine TriL.nil ?_
    refine Tri.region ?_
    refine TriL.c1 rfl (op_bin (ltb rfl) rfl rfl rfl) ?_
    refine TriL.c1 rfl (op_mv (ltb rfl) rfl) ?_
    refine TriL.kept (Kept.keep [.h, .s 0, .s 10, .s 11, .s 12, .b 100, .t 22, .t 101] rfl (by decide) (Kept.ren 22 100 (by decide) rfl (Kept.now ?_)))
    refine ⟨ps.length - (i + 1), by omega, i + 1, _, _, _, rfl, ?_, ?_, rfl, by omega, rfl⟩
    · rw [wr64] <;> omega
    · rw [htk, hbs]; simp only [bsl_app, List.append_assoc]
  · have hge : ¬ i < ps.length := by have := of_decide_eq_false hc1; omega
    refine Tri.exit ?_
    refine Tri.seq ?_
    refine Tri.region ?_
    refine TriL.c1 rfl (op_as (ltb rfl) rfl) ?_
    refine TriL.kept (Kept.cls 100 rfl rfl rfl rfl (Kept.now ?_))
    refine Tri.ret ?_
    refine ⟨.inr rfl, ResOK.r1 rfl (.tmp rfl .nil), ?_⟩
    rw [List.take_of_length_le (by omega)] at hbs
    have e : (H.del id).set id (wr bs fs) = H.set id (wr (bsl (b ++ ps.flatten)) fs) := by rw [Hp.del_set, hbs]
    exact congrArg (fun h => some (CV.hp h)) e
end Go.Proofs.Ytecjdohpfijmpaa.X
