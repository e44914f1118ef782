/- emit: the writer's first functions. -/
import Derived.Test.YtecjdohpfijmpaaYB
import Derived.Test.YtecjdohpfijmpaaYD
set_option linter.unusedVariables false
set_option linter.unusedSimpArgs false
namespace Go.Proofs.Ytecjdohpfijmpaa.X
open Go Go.RowKit Go.Proofs

theorem zN59 : zeroN Try.prog 59 = some [.nsl, .nsl, .bool false] := by kernel_rfl
theorem pt31 : Try.prog.underlying 31 = some (.pointer (Try.prog.pointee 31)) := by kernel_rfl

theorem Hp.del_set (H : Hp) (id : Nat) (hs : List Hc) : (H.del id).set id hs = H.set id hs := by
  simp only [Hp.del, Hp.set]
  congr 1
  funext i
  split <;> rfl
theorem Hp.set_same {H : Hp} {id : Nat} {hs : List Hc} (h : H.obj id = some hs) : H.set id hs = H := by
  obtain ⟨n, o⟩ := H
  simp only [Hp.set]
  congr 1
  funext i
  split
  · rename_i e; subst e; exact h.symm
  · rfl
/-- A writer: its bytes, its open frames. -/
def wr (b : List AV) (fs : List AV) : List Hc := [.row 5 1 b, .row 72 2 fs, .v (.bool true)]

theorem new_run (H : Hp) : Run Try.prog 16 [] H (.op H.next 0) ⟨H.next + 1, fun i => if i = H.next then some (wr [] []) else H.obj i⟩ := by
  refine Run.of_tri Try.func16 rfl rfl (Nat.zero_le _) ?_
  refine Tri.seq ?_
  refine Tri.region ?_
  refine TriL.c1 rfl (op_as (ltb rfl) rfl) ?_
  refine TriL.nil ?_
  refine Tri.seq ?_
  refine Tri.region ?_
  refine TriL.c1 rfl (op_bldn (ltb rfl) spl59 zN59 rfl rfl) ?_
  refine TriL.c2 rfl (op_box (ltb rfl) rfl rfl rfl) ?_
  refine TriL.c1 rfl (op_as (ltb rfl) rfl) ?_
  refine TriL.kept (Kept.nilcell 2 0 100 5 1 rfl rfl rfl rfl (ltb rfl) (Kept.nilcell 2 1 101 72 2 rfl rfl rfl rfl (ltb rfl) (Kept.pub 2 rfl rfl (Kept.op 0 rfl rfl (Kept.cls 2 rfl rfl rfl rfl (Kept.now ?_))))))
  refine Tri.ret ?_
  exact ⟨.inr rfl, ResOK.r1 rfl (.tmp rfl .nil), rfl⟩
theorem is_run (H : Hp) (id : Nat) (b fs : List AV) (ho : H.obj id = some (wr b fs)) : Run Try.prog 40 [.op id 0] H (.bool true) H := by
  refine Run.of_tri Try.func40 rfl rfl (ltb rfl) ?_
  refine Tri.ofKept (Kept.opn 100 id 100 rfl ho rfl rfl (Kept.lp 0 100 rfl rfl (Kept.now ?_)))
  refine Tri.seq ?_
  refine Tri.region ?_
  refine TriL.c1 rfl (op_as (ltb rfl) rfl) ?_
  refine TriL.nil ?_
  refine Tri.seq ?_
  refine Tri.region ?_
  refine TriL.c1 rfl (op_mv (ltb rfl) rfl) ?_
  refine TriL.c1 rfl (op_nen (ltb rfl) pt31 rfl rfl) ?_
  refine TriL.c1 rfl (op_mv (ltb rfl) rfl) ?_
  refine TriL.g1 rfl (ltb rfl) rfl rfl (op_mv (ltb rfl) rfl) ?_
  refine TriL.g1 rfl (ltb rfl) rfl rfl (op_nckl (ltb rfl) rfl) ?_
  refine TriL.g1 rfl (ltb rfl) rfl rfl (op_fal (ltb rfl) fo59_2 rfl) ?_
  refine TriL.g1 rfl (ltb rfl) rfl rfl (op_ldo (ltb rfl) lk4 rfl rfl rfl) ?_
  refine TriL.c1 rfl (op_pickt (ltb rfl) rfl rfl rfl) ?_
  refine TriL.c1 rfl (op_as (ltb rfl) rfl) ?_
  refine TriL.kept (Kept.cls 100 rfl rfl rfl rfl (Kept.now ?_))
  refine Tri.ret ?_
  refine ⟨.inr rfl, ResOK.r1 rfl (.tmp rfl .nil), ?_⟩
  have e : (H.del id).set id (wr b fs) = H := by rw [Hp.del_set, Hp.set_same ho]
  exact congrArg (fun h => some (CV.hp h)) e
end Go.Proofs.Ytecjdohpfijmpaa.X
/- emit: Plain. -/
set_option linter.unusedVariables false
set_option linter.unusedSimpArgs false
namespace Go.Proofs.Ytecjdohpfijmpaa.X
open Go Go.RowKit Go.Proofs

def StP (H : Hp) (id : Nat) (ps : List AV) (m : Nat) (bs fs : List AV) (j : Int) : St :=
  [(.h, .hp H), (.s 0, .sv (.lp 100 0)), (.s 10, .sv (.v (.sl ps))), (.s 11, .sv (.v (.int .i64 ps.length))), (.s 12, .sv (.v (.int .i64 j))), (.b 100, .ob id [.om 100 m, .om 101 fs.length, .v (.bool true)]), (.t 100, .tk true 5 1 bs), (.t 101, .tk true 72 2 fs)]
def sls (ps : List (List UInt8)) : List AV := ps.map fun p => .sl (bsl p)
theorem plain_run (H : Hp) (id : Nat) (b : List UInt8) (fs : List AV) (ps : List (List UInt8)) (ho : H.obj id = some (wr (bsl b) fs)) (hl : b.length + ps.flatten.length ≤ 1073741824) (hp : ps.length ≤ 1073741824) :
    Run Try.prog 35 [.op id 0, .sl (sls ps)] H (.bool true) (H.set id (wr (bsl (b ++ ps.flatten)) fs)) := by
  refine Run.of_tri Try.func35 rfl rfl (ltb rfl) ?_
  refine Tri.seq ?_
  refine Tri.region ?_
  refine TriL.c1 rfl (op_as (ltb rfl) rfl) ?_
  refine TriL.nil ?_
  refine Tri.seq ?_
  refine Tri.seq ?_
  refine Tri.region ?_
  refine TriL.c1 rfl (op_mv (ltb rfl) rfl) ?_
  refine TriL.c2 rfl (op_callh (ltb rfl) fn40 rfl rfl (is_run H id _ _ ho)) ?_
  refine TriL.c1 rfl (op_un (ltb rfl) rfl rfl) ?_
  refine TriL.nil ?_
  refine Tri.condF rfl rfl ?_
  refine Tri.skip ?_
  refine Tri.ofKept (Kept.opn 100 id 100 rfl ho rfl rfl (Kept.lp 0 100 rfl rfl (Kept.now ?_)))
  refine Tri.seq ?_
  refine Tri.seq ?_
  refine Tri.region ?_
  refine TriL.c1 rfl (op_mv (ltb rfl) rfl) ?_
  refine TriL.c1 rfl (op_lenl (ltb rfl) un54 rfl) ?_
  refine TriL.c1 rfl (op_mv (ltb rfl) rfl) ?_
  refine TriL.kept (Kept.keep [.h, .s 0, .s 10, .s 11, .s 12, .b 100, .t 100, .t 101] rfl (by decide) (Kept.now ?_))
  refine Tri.blk ?_
  refine Tri.loop (fun n s => ∃ (i : Nat) (bs : List AV) (j : Int) (m : Nat), s = StP (H.del id) id (sls ps) m bs fs j ∧ j = i ∧ bs = bsl (b ++ (ps.take i).flatten) ∧ m = bs.length ∧ i ≤ ps.length ∧ n = ps.length - i) ?_ (n := ps.length) ⟨0, _, 0, _, rfl, rfl, by simp, rfl, by omega, rfl⟩
  rintro n s ⟨i, bs, j, m, rfl, hj, hbs, rfl, hi, rfl⟩
  have hsl : (sls ps).length = ps.length := by simp [sls]
  refine Tri.seq ?_
  refine Tri.region ?_
  refine TriL.c1 rfl (op_bin (ltb rfl) rfl rfl rfl) ?_
  refine TriL.nil ?_
  refine Tri.seq ?_
  refine Tri.cond rfl (fun hc1 => ?_) (fun hc1 => ?_)
  · have hlt : i < ps.length := by have := of_decide_eq_true hc1; omega
    obtain ⟨p, hp1⟩ : ∃ p, ps[i]? = some p := ⟨ps[i], List.getElem?_eq_getElem hlt⟩
    have hpg : (sls ps)[j.toNat]? = some (.sl (bsl p)) := by subst hj; simp [sls, hp1]
    have htk : (ps.take (i + 1)).flatten = (ps.take i).flatten ++ p := by rw [List.take_add_one, hp1]; simp
    have hfl : (ps.take (i + 1)).flatten.length ≤ ps.flatten.length := by
      have := congrArg List.length (congrArg List.flatten (List.take_append_drop (i + 1) ps))
      rw [List.flatten_append, List.length_append] at this; omega
    have hbl : bs.length + (bsl p).length ≤ 1073741824 := by
      rw [htk, List.length_append] at hfl
      rw [hbs, bsl_len, bsl_len, List.length_append]; omega
    refine Tri.skip ?_
    refine Tri.seq ?_
    refine Tri.blk ?_
    refine Tri.seq ?_
    refine Tri.region ?_
    refine TriL.c1 rfl (op_iak (ltb rfl) ie54 rfl rfl (by omega) hpg rfl) ?_
    refine TriL.c1 rfl (op_ldk (ltb rfl) lk22 rfl rfl) ?_
    refine TriL.c1 rfl (op_as (ltb rfl) rfl) ?_
    refine TriL.nil ?_
    refine Tri.region ?_
    refine TriL.c1 rfl (op_mv (ltb rfl) rfl) ?_
    refine TriL.c1 rfl (op_mv (ltb rfl) rfl) ?_
    refine TriL.c1 rfl (op_nckl (ltb rfl) rfl) ?_
    refine TriL.c1 rfl (op_fal (ltb rfl) fo59_0 rfl) ?_
    refine TriL.c1 rfl (op_ldo (ltb rfl) lk22 rfl rfl rfl) ?_
    refine TriL.c1 rfl (op_mv (ltb rfl) rfl) ?_
    refine TriL.c3 rfl (op_apm (ltb rfl) se22 rfl rfl rfl rfl (okEls_bsl p) rfl (by omega) (by omega)) ?_
    refine TriL.c1 rfl (op_nckl (ltb rfl) rfl) ?_
    refine TriL.c1 rfl (op_fal (ltb rfl) fo59_0 rfl) ?_
    refine TriL.c1 rfl (op_sto lk22 rfl rfl rfl rfl rfl (leb rfl)) ?_
    refine TriL.nil ?_
    refine Tri.region ?_
    refine TriL.c1 rfl (op_bin (ltb rfl) rfl rfl rfl) ?_
    refine TriL.c1 rfl (op_mv (ltb rfl) rfl) ?_
    refine TriL.kept (Kept.keep [.h, .s 0, .s 10, .s 11, .s 12, .b 100, .t 22, .t 101] rfl (by decide) (Kept.ren 22 100 (by decide) rfl (Kept.now ?_)))
    refine ⟨ps.length - (i + 1), by omega, i + 1, _, _, _, rfl, ?_, ?_, rfl, by omega, rfl⟩
    · rw [wr64] <;> omega
    · rw [htk, hbs]; simp only [bsl_app, List.append_assoc]
  · have hge : ¬ i < ps.length := by have := of_decide_eq_false hc1; omega
    refine Tri.exit ?_
    refine Tri.seq ?_
    refine Tri.region ?_
    refine TriL.c1 rfl (op_as (ltb rfl) rfl) ?_
    refine TriL.kept (Kept.cls 100 rfl rfl rfl rfl (Kept.now ?_))
    refine Tri.ret ?_
    refine ⟨.inr rfl, ResOK.r1 rfl (.tmp rfl .nil), ?_⟩
    rw [List.take_of_length_le (by omega)] at hbs
    have e : (H.del id).set id (wr bs fs) = H.set id (wr (bsl (b ++ ps.flatten)) fs) := by rw [Hp.del_set, hbs]
    exact congrArg (fun h => some (CV.hp h)) e
end Go.Proofs.Ytecjdohpfijmpaa.X
/- tag: its functions. -/
set_option linter.unusedVariables false
set_option linter.unusedSimpArgs false
namespace Go.Proofs.Ytecjdohpfijmpaa.X
open Go Go.RowKit Go.Proofs
def numok (n : Int) : Bool := decide (1 ≤ n ∧ n ≤ 536870911)
theorem number_pure (n : Int) : Pure Try.prog 58 [.int .i64 n] (.bool (numok n)) := by
  refine Pure.of_tri Try.func58 rfl rfl (ltb rfl) fun H => ?_
  refine Tri.seq ?_
  refine Tri.region ?_
  refine TriL.c1 rfl (op_as (ltb rfl) rfl) ?_
  refine TriL.nil ?_
  refine Tri.seq ?_
  refine Tri.region ?_
  refine TriL.c1 rfl (op_mv (ltb rfl) rfl) ?_
  refine TriL.c1 rfl (op_bin (ltb rfl) rfl rfl rfl) ?_
  refine TriL.c1 rfl (op_mv (ltb rfl) rfl) ?_
  refine TriL.split (d := 5) rfl (fun hg1 => ?_) (fun hg1 => ?_)
  · refine TriL.g1 rfl (ltb rfl) rfl hg1 (op_mv (ltb rfl) rfl) ?_
    refine TriL.g1 rfl (ltb rfl) rfl hg1 (op_bin (ltb rfl) rfl rfl rfl) ?_
    refine TriL.c1 rfl (op_pickt (ltb rfl) rfl hg1 rfl) ?_
    refine TriL.c1 rfl (op_as (ltb rfl) rfl) ?_
    refine TriL.nil ?_
    refine Tri.ret ?_
    exact ⟨.inr rfl, (ResOK.r1 rfl (.tmp rfl .nil)).cast (by exact res_bool (by (try simp only [decide_eq_true_eq, decide_eq_false_iff_not, beq_iff_eq, beq_eq_false_iff_ne, ne_eq] at *); (try simp only [numok, rightok]); first | exact decide_eq_decide.2 (by omega) | exact (decide_eq_true (by omega)).symm | exact (decide_eq_false (by omega)).symm)), rfl⟩
  · refine TriL.skip rfl rfl (ltb rfl) rfl hg1 ?_
    refine TriL.skip rfl rfl (ltb rfl) rfl hg1 ?_
    refine TriL.c1 rfl (op_pickf (ltb rfl) rfl hg1 rfl) ?_
    refine TriL.c1 rfl (op_as (ltb rfl) rfl) ?_
    refine TriL.nil ?_
    refine Tri.ret ?_
    exact ⟨.inr rfl, (ResOK.r1 rfl (.tmp rfl .nil)).cast (by exact res_bool (by (try simp only [decide_eq_true_eq, decide_eq_false_iff_not, beq_iff_eq, beq_eq_false_iff_ne, ne_eq] at *); (try simp only [numok, rightok]); first | exact decide_eq_decide.2 (by omega) | exact (decide_eq_true (by omega)).symm | exact (decide_eq_false (by omega)).symm)), rfl⟩
def rightok (n w : Int) : Bool := decide ((w = 0 ∨ w = 1 ∨ w = 2 ∨ w = 5) ∧ 1 ≤ n ∧ n ≤ 536870911)
theorem right_pure (n w : Int) : Pure Try.prog 41 [.int .i64 n, .int .i64 w] (.bool (rightok n w)) := by
  refine Pure.of_tri Try.func41 rfl rfl (ltb rfl) fun H => ?_
  refine Tri.seq ?_
  refine Tri.region ?_
  refine TriL.c1 rfl (op_as (ltb rfl) rfl) ?_
  refine TriL.nil ?_
  refine Tri.seq ?_
  refine Tri.region ?_
  refine TriL.c1 rfl (op_as (ltb rfl) rfl) ?_
  refine TriL.nil ?_
  refine Tri.seq ?_
  refine Tri.seq ?_
  refine Tri.region ?_
  refine TriL.c1 rfl (op_mv (ltb rfl) rfl) ?_
  refine TriL.nil ?_
  refine Tri.blk ?_   -- 0
  refine Tri.seq ?_
  refine Tri.blk ?_   -- 3
  refine Tri.blk ?_   -- 2
  refine Tri.blk ?_   -- 1
  refine Tri.seq ?_
  refine Tri.seq ?_
  refine Tri.seq ?_
  refine Tri.seq ?_
  refine Tri.region ?_
  refine TriL.c1 rfl (op_bin (ltb rfl) rfl rfl rfl) ?_
  refine TriL.c1 rfl (op_as (ltb rfl) rfl) ?_
  refine TriL.nil ?_
  refine Tri.cond rfl (fun hc1 => ?_) (fun hc1 => ?_)
  · refine Tri.skip ?_
    refine Tri.condT rfl hc1 ?_
    refine Tri.exit ?_   -- 1
    refine Tri.seq ?_
    refine Tri.region ?_
    refine TriL.c1 rfl (op_as (ltb rfl) rfl) ?_
    refine TriL.nil ?_
    refine Tri.exit ?_   -- 0
    refine Tri.seq ?_
    refine Tri.region ?_
    refine TriL.c1 rfl (op_mv (ltb rfl) rfl) ?_
    refine TriL.c1 rfl (op_mv (ltb rfl) rfl) ?_
    refine TriL.g1 rfl (ltb rfl) rfl rfl (op_mv (ltb rfl) rfl) ?_
    refine TriL.g1 rfl (ltb rfl) rfl rfl (op_call (ltb rfl) fn58 rfl (number_pure n)) ?_
    refine TriL.c1 rfl (op_pickt (ltb rfl) rfl rfl rfl) ?_
    refine TriL.c1 rfl (op_as (ltb rfl) rfl) ?_
    refine TriL.nil ?_
    refine Tri.ret ?_
    exact ⟨.inr rfl, (ResOK.r1 rfl (.tmp rfl .nil)).cast (by exact res_bool (by (try simp only [decide_eq_true_eq, decide_eq_false_iff_not, beq_iff_eq, beq_eq_false_iff_ne, ne_eq] at *); (try simp only [numok, rightok]); first | exact decide_eq_decide.2 (by omega) | exact (decide_eq_true (by omega)).symm | exact (decide_eq_false (by omega)).symm)), rfl⟩
  · -- region 4 tag.go:20
    refine Tri.region ?_
    refine TriL.c1 rfl (op_bin (ltb rfl) rfl rfl rfl) ?_
    refine TriL.c1 rfl (op_as (ltb rfl) rfl) ?_
    refine TriL.nil ?_
    refine Tri.cond rfl (fun hc2 => ?_) (fun hc2 => ?_)
    · refine Tri.exit ?_   -- 1
      refine Tri.seq ?_
      refine Tri.region ?_
      refine TriL.c1 rfl (op_as (ltb rfl) rfl) ?_
      refine TriL.nil ?_
      refine Tri.exit ?_   -- 0
      refine Tri.seq ?_
      refine Tri.region ?_
      refine TriL.c1 rfl (op_mv (ltb rfl) rfl) ?_
      refine TriL.c1 rfl (op_mv (ltb rfl) rfl) ?_
      refine TriL.g1 rfl (ltb rfl) rfl rfl (op_mv (ltb rfl) rfl) ?_
      refine TriL.g1 rfl (ltb rfl) rfl rfl (op_call (ltb rfl) fn58 rfl (number_pure n)) ?_
      refine TriL.c1 rfl (op_pickt (ltb rfl) rfl rfl rfl) ?_
      refine TriL.c1 rfl (op_as (ltb rfl) rfl) ?_
      refine TriL.nil ?_
      refine Tri.ret ?_
      exact ⟨.inr rfl, (ResOK.r1 rfl (.tmp rfl .nil)).cast (by exact res_bool (by (try simp only [decide_eq_true_eq, decide_eq_false_iff_not, beq_iff_eq, beq_eq_false_iff_ne, ne_eq] at *); (try simp only [numok, rightok]); first | exact decide_eq_decide.2 (by omega) | exact (decide_eq_true (by omega)).symm | exact (decide_eq_false (by omega)).symm)), rfl⟩
    · refine Tri.skip ?_
      refine Tri.seq ?_
      refine Tri.seq ?_
      refine Tri.region ?_
      refine TriL.c1 rfl (op_bin (ltb rfl) rfl rfl rfl) ?_
      refine TriL.c1 rfl (op_as (ltb rfl) rfl) ?_
      refine TriL.nil ?_
      refine Tri.cond rfl (fun hc3 => ?_) (fun hc3 => ?_)
      · refine Tri.exit ?_   -- 2
        refine Tri.seq ?_
        refine Tri.region ?_
        refine TriL.c1 rfl (op_as (ltb rfl) rfl) ?_
        refine TriL.nil ?_
        refine Tri.exit ?_   -- 0
        refine Tri.seq ?_
        refine Tri.region ?_
        refine TriL.c1 rfl (op_mv (ltb rfl) rfl) ?_
        refine TriL.c1 rfl (op_mv (ltb rfl) rfl) ?_
        refine TriL.g1 rfl (ltb rfl) rfl rfl (op_mv (ltb rfl) rfl) ?_
        refine TriL.g1 rfl (ltb rfl) rfl rfl (op_call (ltb rfl) fn58 rfl (number_pure n)) ?_
        refine TriL.c1 rfl (op_pickt (ltb rfl) rfl rfl rfl) ?_
        refine TriL.c1 rfl (op_as (ltb rfl) rfl) ?_
        refine TriL.nil ?_
        refine Tri.ret ?_
        exact ⟨.inr rfl, (ResOK.r1 rfl (.tmp rfl .nil)).cast (by exact res_bool (by (try simp only [decide_eq_true_eq, decide_eq_false_iff_not, beq_iff_eq, beq_eq_false_iff_ne, ne_eq] at *); (try simp only [numok, rightok]); first | exact decide_eq_decide.2 (by omega) | exact (decide_eq_true (by omega)).symm | exact (decide_eq_false (by omega)).symm)), rfl⟩
      · refine Tri.skip ?_
        refine Tri.seq ?_
        refine Tri.region ?_
        refine TriL.c1 rfl (op_bin (ltb rfl) rfl rfl rfl) ?_
        refine TriL.c1 rfl (op_as (ltb rfl) rfl) ?_
        refine TriL.nil ?_
        refine Tri.cond rfl (fun hc4 => ?_) (fun hc4 => ?_)
        · refine Tri.exit ?_   -- 3
          refine Tri.seq ?_
          refine Tri.region ?_
          refine TriL.c1 rfl (op_as (ltb rfl) rfl) ?_
          refine TriL.nil ?_
          refine Tri.exit ?_   -- 0
          refine Tri.seq ?_
          refine Tri.region ?_
          refine TriL.c1 rfl (op_mv (ltb rfl) rfl) ?_
          refine TriL.c1 rfl (op_mv (ltb rfl) rfl) ?_
          refine TriL.g1 rfl (ltb rfl) rfl rfl (op_mv (ltb rfl) rfl) ?_
          refine TriL.g1 rfl (ltb rfl) rfl rfl (op_call (ltb rfl) fn58 rfl (number_pure n)) ?_
          refine TriL.c1 rfl (op_pickt (ltb rfl) rfl rfl rfl) ?_
          refine TriL.c1 rfl (op_as (ltb rfl) rfl) ?_
          refine TriL.nil ?_
          refine Tri.ret ?_
          exact ⟨.inr rfl, (ResOK.r1 rfl (.tmp rfl .nil)).cast (by exact res_bool (by (try simp only [decide_eq_true_eq, decide_eq_false_iff_not, beq_iff_eq, beq_eq_false_iff_ne, ne_eq] at *); (try simp only [numok, rightok]); first | exact decide_eq_decide.2 (by omega) | exact (decide_eq_true (by omega)).symm | exact (decide_eq_false (by omega)).symm)), rfl⟩
        · refine Tri.skip ?_
          refine Tri.exit ?_   -- 0
          refine Tri.seq ?_
          refine Tri.region ?_
          refine TriL.c1 rfl (op_mv (ltb rfl) rfl) ?_
          refine TriL.c1 rfl (op_mv (ltb rfl) rfl) ?_
          refine TriL.skip rfl rfl (ltb rfl) rfl rfl ?_
          refine TriL.skip rfl rfl (ltb rfl) rfl rfl ?_
          refine TriL.c1 rfl (op_pickf (ltb rfl) rfl rfl rfl) ?_
          refine TriL.c1 rfl (op_as (ltb rfl) rfl) ?_
          refine TriL.nil ?_
          refine Tri.ret ?_
          exact ⟨.inr rfl, (ResOK.r1 rfl (.tmp rfl .nil)).cast (by exact res_bool (by (try simp only [decide_eq_true_eq, decide_eq_false_iff_not, beq_iff_eq, beq_eq_false_iff_ne, ne_eq] at *); (try simp only [numok, rightok]); first | exact decide_eq_decide.2 (by omega) | exact (decide_eq_true (by omega)).symm | exact (decide_eq_false (by omega)).symm)), rfl⟩
end Go.Proofs.Ytecjdohpfijmpaa.X
/- emit: Len, Deep. -/
set_option linter.unusedVariables false
set_option linter.unusedSimpArgs false
namespace Go.Proofs.Ytecjdohpfijmpaa.X
open Go Go.RowKit Go.Proofs
theorem len_run (H : Hp) (id : Nat) (b fs : List AV) (ho : H.obj id = some (wr b fs)) : Run Try.prog 29 [.op id 0] H (.int .i64 b.length) H := by
  refine Run.of_tri Try.func29 rfl rfl (ltb rfl) ?_
  refine Tri.seq ?_
  refine Tri.region ?_
  refine TriL.c1 rfl (op_as (ltb rfl) rfl) ?_
  refine TriL.nil ?_
  refine Tri.seq ?_
  refine Tri.seq ?_
  refine Tri.region ?_
  refine TriL.c1 rfl (op_mv (ltb rfl) rfl) ?_
  refine TriL.c2 rfl (op_callh (ltb rfl) fn40 rfl rfl (is_run H id _ _ ho)) ?_
  refine TriL.c1 rfl (op_un (ltb rfl) rfl rfl) ?_
  refine TriL.nil ?_
  refine Tri.condF rfl rfl ?_
  refine Tri.skip ?_
  refine Tri.ofKept (Kept.opn 100 id 100 rfl ho rfl rfl (Kept.lp 0 100 rfl rfl (Kept.now ?_)))
  refine Tri.seq ?_
  refine Tri.region ?_
  refine TriL.c1 rfl (op_mv (ltb rfl) rfl) ?_
  refine TriL.c1 rfl (op_nckl (ltb rfl) rfl) ?_
  refine TriL.c1 rfl (op_fal (ltb rfl) fo59_0 rfl) ?_
  refine TriL.c1 rfl (op_ldo (ltb rfl) lk22 rfl rfl rfl) ?_
  refine TriL.c1 rfl (op_lenom (ltb rfl) un22 rfl) ?_
  refine TriL.c1 rfl (op_as (ltb rfl) rfl) ?_
  refine TriL.kept (Kept.cls 100 rfl rfl rfl rfl (Kept.now ?_))
  refine Tri.ret ?_
  refine ⟨.inr rfl, ResOK.r1 rfl (.tmp rfl .nil), ?_⟩
  have e : (H.del id).set id (wr b fs) = H := by rw [Hp.del_set, Hp.set_same ho]
  exact congrArg (fun h => some (CV.hp h)) e
theorem deep_run (H : Hp) (id : Nat) (b fs : List AV) (ho : H.obj id = some (wr b fs)) : Run Try.prog 31 [.op id 0] H (.int .i64 fs.length) H := by
  refine Run.of_tri Try.func31 rfl rfl (ltb rfl) ?_
  refine Tri.seq ?_
  refine Tri.region ?_
  refine TriL.c1 rfl (op_as (ltb rfl) rfl) ?_
  refine TriL.nil ?_
  refine Tri.seq ?_
  refine Tri.seq ?_
  refine Tri.region ?_
  refine TriL.c1 rfl (op_mv (ltb rfl) rfl) ?_
  refine TriL.c2 rfl (op_callh (ltb rfl) fn40 rfl rfl (is_run H id _ _ ho)) ?_
  refine TriL.c1 rfl (op_un (ltb rfl) rfl rfl) ?_
  refine TriL.nil ?_
  refine Tri.condF rfl rfl ?_
  refine Tri.skip ?_
  refine Tri.ofKept (Kept.opn 100 id 100 rfl ho rfl rfl (Kept.lp 0 100 rfl rfl (Kept.now ?_)))
  refine Tri.seq ?_
  refine Tri.region ?_
  refine TriL.c1 rfl (op_mv (ltb rfl) rfl) ?_
  refine TriL.c1 rfl (op_nckl (ltb rfl) rfl) ?_
  refine TriL.c1 rfl (op_fal (ltb rfl) fo59_1 rfl) ?_
  refine TriL.c1 rfl (op_ldo (ltb rfl) lk57 rfl rfl rfl) ?_
  refine TriL.c1 rfl (op_lenom (ltb rfl) un57 rfl) ?_
  refine TriL.c1 rfl (op_as (ltb rfl) rfl) ?_
  refine TriL.kept (Kept.cls 100 rfl rfl rfl rfl (Kept.now ?_))
  refine Tri.ret ?_
  refine ⟨.inr rfl, ResOK.r1 rfl (.tmp rfl .nil), ?_⟩
  have e : (H.del id).set id (wr b fs) = H := by rw [Hp.del_set, Hp.set_same ho]
  exact congrArg (fun h => some (CV.hp h)) e
end Go.Proofs.Ytecjdohpfijmpaa.X
/- emit: lay. -/
set_option linter.unusedVariables false
set_option linter.unusedSimpArgs false
namespace Go.Proofs.Ytecjdohpfijmpaa.X
open Go Go.RowKit Go.Proofs
/-- bytes laid ahead of those from a place on: as the code makes them -/
theorem lay_eq (b c : List UInt8) (at_ : Nat) (h : at_ ≤ b.length) :
    splice (splice (bsl b ++ bsl c) (at_ + c.length) ((((bsl b ++ bsl c).drop at_).take (Nat.min (b.length - at_) (b.length - at_))))) at_ (bsl c) = bsl (b.take at_ ++ c ++ b.drop at_) := by
  have hb := bsl_len b
  have hc := bsl_len c
  have hd : (bsl b).drop at_ = bsl (b.drop at_) := by simp [bsl]
  have ht : (bsl b).take at_ = bsl (b.take at_) := by simp [bsl]
  have e0 : Nat.min (b.length - at_) (b.length - at_) = b.length - at_ := Nat.min_self _
  have e1 : ((bsl b ++ bsl c).drop at_).take (Nat.min (b.length - at_) (b.length - at_)) = bsl (b.drop at_) := by
    rw [e0, List.drop_append_of_le_length (by omega), List.take_append_of_le_length (by rw [List.length_drop]; omega), List.take_of_length_le (by rw [List.length_drop]; omega), hd]
  have hl : (bsl (b.drop at_)).length = b.length - at_ := by rw [bsl_len, List.length_drop]
  rw [e1]
  have e2 : splice (bsl b ++ bsl c) (at_ + c.length) (bsl (b.drop at_)) = (bsl b ++ bsl c).take (at_ + c.length) ++ bsl (b.drop at_) := by
    unfold splice
    rw [hl, List.drop_of_length_le (l := bsl b ++ bsl c) (by rw [List.length_append]; omega), List.append_nil]
  rw [e2]
  unfold splice
  have e3 : ((bsl b ++ bsl c).take (at_ + c.length)).length = at_ + c.length := by rw [List.length_take, List.length_append]; omega
  rw [hc, List.take_append_of_le_length (by omega), List.take_take, Nat.min_eq_left (by omega), List.take_append_of_le_length (by omega), ht, List.drop_append_of_le_length (by omega), List.drop_of_length_le (by omega), List.nil_append, bsl_app, bsl_app]

theorem splice_ge (xs zs : List AV) (lo : Nat) : xs.length ≤ (splice xs lo zs).length := by simp only [splice, List.length_append, List.length_take, List.length_drop]; omega
theorem lay_run (H : Hp) (id a : Nat) (b c : List UInt8) (fs : List AV) (ho : H.obj id = some (wr (bsl b) fs)) (ha : a ≤ b.length) (hl : b.length + c.length ≤ 1073741824) :
    Run Try.prog 45 [.op id 0, .int .i64 a, .sl (bsl c)] H (.tup []) (H.set id (wr (bsl (b.take a ++ c ++ b.drop a)) fs)) := by
  have hb := bsl_len b
  have hc := bsl_len c
  have hw : IntKind.i64.wrap ((a : Int) + ((bsl c).length : Int)) = ((a + c.length : Nat) : Int) := by rw [hc, wr64] <;> omega
  have hap : (bsl b ++ bsl c).length = b.length + c.length := by rw [List.length_append, hb, hc]
  refine Run.of_tri Try.func45 rfl rfl (ltb rfl) ?_
  refine Tri.ofKept (Kept.opn 100 id 100 rfl ho rfl rfl (Kept.lp 0 100 rfl rfl (Kept.now ?_)))
  refine Tri.seq ?_
  refine Tri.region ?_
  refine TriL.c1 rfl (op_mv (ltb rfl) rfl) ?_
  refine TriL.c1 rfl (op_nckl (ltb rfl) rfl) ?_
  refine TriL.c1 rfl (op_fal (ltb rfl) fo59_0 rfl) ?_
  refine TriL.c1 rfl (op_ldo (ltb rfl) lk22 rfl rfl rfl) ?_
  refine TriL.c1 rfl (op_lenom (ltb rfl) un22 rfl) ?_
  refine TriL.c1 rfl (op_as (ltb rfl) rfl) ?_
  refine TriL.nil ?_
  refine Tri.seq ?_
  refine Tri.region ?_
  refine TriL.c1 rfl (op_mv (ltb rfl) rfl) ?_
  refine TriL.c1 rfl (op_mv (ltb rfl) rfl) ?_
  refine TriL.c1 rfl (op_nckl (ltb rfl) rfl) ?_
  refine TriL.c1 rfl (op_fal (ltb rfl) fo59_0 rfl) ?_
  refine TriL.c1 rfl (op_ldo (ltb rfl) lk22 rfl rfl rfl) ?_
  refine TriL.c1 rfl (op_mv (ltb rfl) rfl) ?_
  refine TriL.c3 rfl (op_apm (ltb rfl) se22 rfl rfl rfl rfl (okEls_bsl c) rfl (by omega) (by omega)) ?_
  refine TriL.c1 rfl (op_nckl (ltb rfl) rfl) ?_
  refine TriL.c1 rfl (op_fal (ltb rfl) fo59_0 rfl) ?_
  refine TriL.c1 rfl (op_sto lk22 rfl rfl rfl rfl rfl (leb rfl)) ?_
  refine TriL.nil ?_
  refine Tri.seq ?_
  refine Tri.drawn mixed rfl ?_
  refine TriD.c1 rfl (op_mv (ltb rfl) rfl) ?_
  refine TriD.c1 rfl (op_nckl (ltb rfl) rfl) ?_
  refine TriD.c1 rfl (op_fal (ltb rfl) fo59_0 rfl) ?_
  refine TriD.c1 rfl (op_ldo (ltb rfl) lk22 rfl rfl rfl) ?_
  refine TriD.c1 rfl (op_mv (ltb rfl) rfl) ?_
  refine TriD.c1 rfl (op_mv (ltb rfl) rfl) ?_
  refine TriD.c1 rfl (op_lenl (ltb rfl) un22 rfl) ?_
  refine TriD.c1 rfl (op_bin (ltb rfl) rfl rfl rfl) ?_
  refine TriD.c1 rfl (op_cutov (ltb rfl) ie22 rfl rfl rfl rfl (by omega) (by omega) (by omega)) ?_
  refine TriD.c1 rfl (op_mv (ltb rfl) rfl) ?_
  refine TriD.c1 rfl (op_nckl (ltb rfl) rfl) ?_
  refine TriD.c1 rfl (op_fal (ltb rfl) fo59_0 rfl) ?_
  refine TriD.c1 rfl (op_ldo (ltb rfl) lk22 rfl rfl rfl) ?_
  refine TriD.c1 rfl (op_mv (ltb rfl) rfl) ?_
  refine TriD.c1 rfl (op_mv (ltb rfl) rfl) ?_
  refine TriD.c1 rfl (op_cutov (ltb rfl) ie22 rfl rfl rfl rfl (by omega) (by omega) (by omega)) ?_
  refine TriD.c2 rfl (op_cpo (ltb rfl) ie22 rfl rfl rfl (by omega) (by omega)) ?_
  refine TriD.nil (by kernel_rfl) (Kept.now ?_)
  refine Tri.region ?_
  refine TriL.c1 rfl (op_mv (ltb rfl) rfl) ?_
  refine TriL.c1 rfl (op_nckl (ltb rfl) rfl) ?_
  refine TriL.c1 rfl (op_fal (ltb rfl) fo59_0 rfl) ?_
  refine TriL.c1 rfl (op_ldo (ltb rfl) lk22 rfl rfl rfl) ?_
  refine TriL.c1 rfl (op_mv (ltb rfl) rfl) ?_
  refine TriL.c1 rfl (op_cutov (ltb rfl) ie22 rfl rfl rfl rfl (by omega) (by omega) (by omega)) ?_
  refine TriL.c1 rfl (op_mv (ltb rfl) rfl) ?_
  refine TriL.c2 rfl (op_cpl (ltb rfl) ie22 rfl rfl rfl (okEls_bsl c) (Nat.le_trans (by omega) (splice_ge _ _ _))) ?_
  refine TriL.kept (Kept.cls 100 rfl rfl rfl rfl (Kept.now ?_))
  refine ⟨.inl rfl, ResOK.r0 rfl, ?_⟩
  have e : (H.del id).set id (wr (splice (splice (bsl b ++ bsl c) (IntKind.i64.wrap ((a : Int) + ((bsl c).length : Int))).toNat (((bsl b ++ bsl c).drop ((a : Nat) : Int).toNat).take (Nat.min (((bsl b).length : Int).toNat - ((a : Nat) : Int).toNat) (((bsl b ++ bsl c).length : Int).toNat - (IntKind.i64.wrap ((a : Int) + ((bsl c).length : Int))).toNat)))) ((a : Nat) : Int).toNat ((bsl c).take (Nat.min (bsl c).length (((bsl b ++ bsl c).length : Int).toNat - ((a : Nat) : Int).toNat)))) fs) = H.set id (wr (bsl (b.take a ++ c ++ b.drop a)) fs) := by
    rw [Hp.del_set]
    congr 2
    have q1 : Nat.min (bsl c).length (b.length + c.length - a) = (bsl c).length := Nat.min_eq_left (by omega)
    have q2 : b.length + c.length - (a + c.length) = b.length - a := by omega
    rw [hw, hap]
    simp only [Int.toNat_natCast]
    rw [q1, List.take_length, hb, q2]
    exact lay_eq b c a ha
  exact congrArg (fun h => some (CV.hp h)) e
end Go.Proofs.Ytecjdohpfijmpaa.X
/- bytes.Clone. -/
set_option linter.unusedVariables false
set_option linter.unusedSimpArgs false
namespace Go.Proofs.Ytecjdohpfijmpaa.X
open Go Go.RowKit Go.Proofs
theorem clone_pure (b : List UInt8) (hl : b.length ≤ 1073741824) : PureO Try.prog 46 [.sl (bsl b)] 5 1 (bsl b) := by
  have hb := bsl_len b
  refine PureO.of_tri Try.func46 rfl rfl (ltb rfl) rfl fun H => ?_
  refine Tri.seq ?_
  refine Tri.region ?_
  refine TriL.c1 rfl (op_as (ltb rfl) rfl) ?_
  refine TriL.nil ?_
  refine Tri.seq ?_
  refine Tri.seq ?_
  refine Tri.region ?_
  refine TriL.c1 rfl (op_mv (ltb rfl) rfl) ?_
  refine TriL.eqnil (ltb rfl) un22 rfl fun c hc => ?_
  refine TriL.nil ?_
  refine Tri.cond rfl (fun hc1 => ?_) (fun hc1 => ?_)
  · refine Tri.seq ?_
    refine Tri.region ?_
    refine TriL.c2 rfl (op_nilt (k := 50) (el := 5) (esz := 1) (c := 0) (ltb rfl) rfl (ltb rfl)) ?_
    refine TriL.nil ?_
    refine Tri.ret ?_
    rw [hc hc1]
    exact ⟨.inr rfl, ⟨50, rfl, rfl⟩, rfl⟩
  · refine Tri.skip ?_
    refine Tri.seq ?_
    refine Tri.region ?_
    refine TriL.c2 rfl (op_litt («as» := []) (ltb rfl) se22 zAe22 rfl rfl rfl (leb rfl) rfl) ?_
    refine TriL.c1 rfl (op_mv (ltb rfl) rfl) ?_
    refine TriL.c3 rfl (op_app (ltb rfl) se22 rfl rfl rfl (okEls_bsl b) rfl (by simp only [List.length_nil]; omega) (by simp only [List.length_nil]; omega)) ?_
    refine TriL.c1 rfl (op_as (ltb rfl) rfl) ?_
    refine TriL.nil ?_
    refine Tri.ret ?_
    exact ⟨.inr rfl, ⟨7, rfl, rfl⟩, rfl⟩
end Go.Proofs.Ytecjdohpfijmpaa.X
/- emit: Bytes. -/
set_option linter.unusedVariables false
set_option linter.unusedSimpArgs false
namespace Go.Proofs.Ytecjdohpfijmpaa.X
open Go Go.RowKit Go.Proofs
theorem all_isInt_bsl : ∀ b : List UInt8, (bsl b).all isInt = true
  | [] => rfl
  | c :: b => by
    have := all_isInt_bsl b
    simp only [bsl, List.map_cons, List.all_cons, Bool.and_eq_true] at this ⊢
    exact ⟨rfl, this⟩
/-- Bytes, when no frame is open. -/
theorem bytes_run (H : Hp) (id : Nat) (b : List UInt8) (ho : H.obj id = some (wr (bsl b) [])) (hl : b.length ≤ 1073741824) : Run Try.prog 21 [.op id 0] H (.sl (bsl b)) H := by
  refine Run.of_tri Try.func21 rfl rfl (ltb rfl) ?_
  refine Tri.seq ?_
  refine Tri.region ?_
  refine TriL.c1 rfl (op_as (ltb rfl) rfl) ?_
  refine TriL.nil ?_
  refine Tri.seq ?_
  refine Tri.seq ?_
  refine Tri.region ?_
  refine TriL.c1 rfl (op_mv (ltb rfl) rfl) ?_
  refine TriL.c2 rfl (op_callh (ltb rfl) fn31 rfl rfl (deep_run H id _ _ ho)) ?_
  refine TriL.c1 rfl (op_bin (ltb rfl) rfl rfl rfl) ?_
  refine TriL.c1 rfl (op_mv (ltb rfl) rfl) ?_
  refine TriL.g1 rfl (ltb rfl) rfl rfl (op_mv (ltb rfl) rfl) ?_
  refine TriL.g2 rfl (ltb rfl) rfl rfl (op_callh (ltb rfl) fn40 rfl rfl (is_run H id _ _ ho)) ?_
  refine TriL.g1 rfl (ltb rfl) rfl rfl (op_un (ltb rfl) rfl rfl) ?_
  refine TriL.c1 rfl (op_pickf (ltb rfl) rfl rfl rfl) ?_
  refine TriL.nil ?_
  refine Tri.condF rfl rfl ?_
  refine Tri.skip ?_
  refine Tri.ofKept (Kept.opn 100 id 100 rfl ho rfl rfl (Kept.lp 0 100 rfl rfl (Kept.now ?_)))
  refine Tri.seq ?_
  refine Tri.region ?_
  refine TriL.c1 rfl (op_mv (ltb rfl) rfl) ?_
  refine TriL.c1 rfl (op_nckl (ltb rfl) rfl) ?_
  refine TriL.c1 rfl (op_fal (ltb rfl) fo59_0 rfl) ?_
  refine TriL.c1 rfl (op_ldo (ltb rfl) lk22 rfl rfl rfl) ?_
  refine TriL.c2 rfl (op_callb (ltb rfl) fn46 rfl rfl (clone_pure b hl) (all_isInt_bsl b) rfl) ?_
  refine TriL.c1 rfl (op_as (ltb rfl) rfl) ?_
  refine TriL.kept (Kept.cls 100 rfl rfl rfl rfl (Kept.now ?_))
  refine Tri.ret ?_
  refine ⟨.inr rfl, ResOK.r1 rfl (.tmp rfl .nil), ?_⟩
  have e : (H.del id).set id (wr (bsl b) []) = H := by rw [Hp.del_set, Hp.set_same ho]
  exact congrArg (fun h => some (CV.hp h)) e
end Go.Proofs.Ytecjdohpfijmpaa.X
/- emit: Open. -/
set_option linter.unusedVariables false
set_option linter.unusedSimpArgs false
namespace Go.Proofs.Ytecjdohpfijmpaa.X
open Go Go.RowKit Go.Proofs
def frm (n k : Int) : AV := .agg [.int .i64 n, .int .i64 k]
theorem open_run (H : Hp) (id : Nat) (n : Int) (b : List UInt8) (fs : List AV) (ho : H.obj id = some (wr (bsl b) fs)) (hr : rightok n 2 = true) (hl : fs.length ≤ 1048576) : Run Try.prog 17 [.op id 0, .int .i64 n] H (.bool true) (H.set id (wr (bsl b) (fs ++ [frm n (bsl b).length]))) := by
  refine Run.of_tri Try.func17 rfl rfl (ltb rfl) ?_
  refine Tri.seq ?_
  refine Tri.region ?_
  refine TriL.c1 rfl (op_as (ltb rfl) rfl) ?_
  refine TriL.nil ?_
  refine Tri.seq ?_
  refine Tri.seq ?_
  refine Tri.region ?_
  refine TriL.c1 rfl (op_mv (ltb rfl) rfl) ?_
  refine TriL.c2 rfl (op_callh (ltb rfl) fn40 rfl rfl (is_run H id _ _ ho)) ?_
  refine TriL.c1 rfl (op_un (ltb rfl) rfl rfl) ?_
  refine TriL.c1 rfl (op_mv (ltb rfl) rfl) ?_
  refine TriL.g1 rfl (ltb rfl) rfl rfl (op_mv (ltb rfl) rfl) ?_
  refine TriL.g1 rfl (ltb rfl) rfl rfl (op_call (ltb rfl) fn41 rfl (hr ▸ right_pure n 2)) ?_
  refine TriL.g1 rfl (ltb rfl) rfl rfl (op_un (ltb rfl) rfl rfl) ?_
  refine TriL.c1 rfl (op_pickf (ltb rfl) rfl rfl rfl) ?_
  refine TriL.nil ?_
  refine Tri.condF rfl rfl ?_
  refine Tri.skip ?_
  refine Tri.ofKept (Kept.opn 100 id 100 rfl ho rfl rfl (Kept.lp 0 100 rfl rfl (Kept.now ?_)))
  refine Tri.seq ?_
  refine Tri.drawn mixed rfl ?_
  refine TriD.c1 rfl (op_mv (ltb rfl) rfl) ?_
  refine TriD.c1 rfl (op_mv (ltb rfl) rfl) ?_
  refine TriD.c1 rfl (op_nckl (ltb rfl) rfl) ?_
  refine TriD.c1 rfl (op_fal (ltb rfl) fo59_1 rfl) ?_
  refine TriD.c1 rfl (op_ldo (ltb rfl) lk57 rfl rfl rfl) ?_
  refine TriD.c1 rfl (op_mv (ltb rfl) rfl) ?_
  refine TriD.c1 rfl (op_mv (ltb rfl) rfl) ?_
  refine TriD.c1 rfl (op_nckl (ltb rfl) rfl) ?_
  refine TriD.c1 rfl (op_fal (ltb rfl) fo59_0 rfl) ?_
  refine TriD.c1 rfl (op_ldo (ltb rfl) lk22 rfl rfl rfl) ?_
  refine TriD.c1 rfl (op_lenom (ltb rfl) un22 rfl) ?_
  refine TriD.c1 rfl (op_bld (ltb rfl) spl72 zAe57 rfl rfl) ?_
  refine TriD.c1 rfl (op_lit («as» := [frm n (bsl b).length]) (ltb rfl) se57 zAe57 rfl rfl rfl (leb rfl)) ?_
  refine TriD.c3 rfl (op_apm (ltb rfl) se57 rfl rfl rfl rfl rfl rfl (by simp only [List.length_cons, List.length_nil]; omega) (by simp only [List.length_cons, List.length_nil]; omega)) ?_
  refine TriD.c1 rfl (op_nckl (ltb rfl) rfl) ?_
  refine TriD.c1 rfl (op_fal (ltb rfl) fo59_1 rfl) ?_
  refine TriD.c1 rfl (op_sto lk57 rfl rfl rfl rfl rfl (leb rfl)) ?_
  refine TriD.nil (by kernel_rfl) (Kept.now ?_)
  refine Tri.seq ?_
  refine Tri.region ?_
  refine TriL.c1 rfl (op_as (ltb rfl) rfl) ?_
  refine TriL.kept (Kept.cls 100 rfl rfl rfl rfl (Kept.now ?_))
  refine Tri.ret ?_
  refine ⟨.inr rfl, ResOK.r1 rfl (.tmp rfl .nil), ?_⟩
  exact congrArg (fun h => some (CV.hp h)) (Hp.del_set H id _)
end Go.Proofs.Ytecjdohpfijmpaa.X
/- tag.Of. -/
set_option linter.unusedVariables false
set_option linter.unusedSimpArgs false
namespace Go.Proofs.Ytecjdohpfijmpaa.X
open Go Go.RowKit Go.Proofs
theorem wru64 {n : Int} (h0 : 0 ≤ n) (h : n < 18446744073709551616) : IntKind.u64.wrap n = n := by simp only [IntKind.wrap, IntKind.bits, IntKind.signed]; simp; omega
theorem or_low (n w : Nat) (hn : n < 2 ^ 32) (hw : w < 8) : ibits .or .u64 ((8 * n : Nat) : Int) (w : Int) = ((8 * n + w : Nat) : Int) := by
  have e1 : (BitVec.ofInt 64 ((8 * n : Nat) : Int)).toNat = 8 * n := by rw [BitVec.toNat_ofInt]; omega
  have e2 : (BitVec.ofInt 64 ((w : Nat) : Int)).toNat = w := by rw [BitVec.toNat_ofInt]; omega
  show IntKind.u64.wrap (((BitVec.ofInt 64 ((8 * n : Nat) : Int)) ||| (BitVec.ofInt 64 ((w : Nat) : Int))).toNat : Int) = _
  rw [BitVec.toNat_or, e1, e2]
  have e3 : 8 * n ||| w = 8 * n + w := by
    have := Nat.shiftLeft_add_eq_or_of_lt (a := n) (b := w) (i := 3) (by omega)
    rw [Nat.shiftLeft_eq] at this
    rw [show 8 * n = n * 2 ^ 3 by omega]
    exact this.symm
  rw [e3, wru64] <;> omega
/-- what stands ahead of a field -/
def tagnum (n w : Int) : Int := if rightok n w then 8 * n + w else 0
theorem of_pure (n w : Int) : Pure Try.prog 44 [.int .i64 n, .int .i64 w] (.tup [.int .u64 (tagnum n w), .bool (rightok n w)]) := by
  refine Pure.of_tri Try.func44 rfl rfl (ltb rfl) fun H => ?_
  refine Tri.seq ?_
  refine Tri.region ?_
  refine TriL.c1 rfl (op_as (ltb rfl) rfl) ?_
  refine TriL.c1 rfl (op_as (ltb rfl) rfl) ?_
  refine TriL.nil ?_
  refine Tri.seq ?_
  refine Tri.seq ?_
  refine Tri.region ?_
  refine TriL.c1 rfl (op_mv (ltb rfl) rfl) ?_
  refine TriL.c1 rfl (op_mv (ltb rfl) rfl) ?_
  refine TriL.c1 rfl (op_call (ltb rfl) fn41 rfl (right_pure n w)) ?_
  refine TriL.c1 rfl (op_un (ltb rfl) rfl rfl) ?_
  refine TriL.nil ?_
  refine Tri.cond rfl (fun hc1 => ?_) (fun hc1 => ?_)
  · have h1 : rightok n w = false := by simpa using hc1
    refine Tri.seq ?_
    refine Tri.region ?_
    refine TriL.c1 rfl (op_as (ltb rfl) rfl) ?_
    refine TriL.c1 rfl (op_as (ltb rfl) rfl) ?_
    refine TriL.nil ?_
    refine Tri.ret ?_
    exact ⟨.inr rfl, (ResOK.r2 rfl (.tmp rfl (.tmp rfl .nil))).cast (by simp [tagnum, h1]), rfl⟩
  · have h1 : rightok n w = true := by simpa using hc1
    have h2 := of_decide_eq_true h1
    obtain ⟨k, rfl⟩ : ∃ k : Nat, n = k := ⟨n.toNat, by omega⟩
    obtain ⟨v, rfl⟩ : ∃ v : Nat, w = v := ⟨w.toNat, by omega⟩
    refine Tri.skip ?_
    refine Tri.seq ?_
    refine Tri.region ?_
    refine TriL.c1 rfl (op_mv (ltb rfl) rfl) ?_
    refine TriL.c1 rfl (op_cvi (ltb rfl) Try.underlying3 un50 rfl) ?_
    refine TriL.c1 rfl (op_bin (ltb rfl) rfl rfl rfl) ?_
    refine TriL.c1 rfl (op_mv (ltb rfl) rfl) ?_
    refine TriL.c1 rfl (op_cvi (ltb rfl) Try.underlying3 un50 rfl) ?_
    refine TriL.c1 rfl (op_bin (ltb rfl) rfl rfl rfl) ?_
    refine TriL.c1 rfl (op_as (ltb rfl) rfl) ?_
    refine TriL.c1 rfl (op_as (ltb rfl) rfl) ?_
    refine TriL.nil ?_
    refine Tri.ret ?_
    refine ⟨.inr rfl, (ResOK.r2 rfl (.tmp rfl (.tmp rfl .nil))).cast ?_, rfl⟩
    have e1 : IntKind.u64.wrap (k : Int) = k := wru64 (by omega) (by omega)
    have e2 : IntKind.u64.wrap (v : Int) = v := wru64 (by omega) (by omega)
    have e3 : IntKind.u64.wrap (IntKind.u64.wrap (k : Int) * 2 ^ (min (Int.toNat 3) (IntKind.bits .u64))) = ((8 * k : Nat) : Int) := by
      rw [e1, show (min (Int.toNat 3) (IntKind.bits .u64)) = 3 from rfl, wru64] <;> omega
    rw [e3, e2, or_low k v (by omega) (by omega), tagnum, h1]
    simp
end Go.Proofs.Ytecjdohpfijmpaa.X
/- math/bits.Len64. -/
set_option linter.unusedVariables false
set_option linter.unusedSimpArgs false
namespace Go.Proofs.Ytecjdohpfijmpaa.X
open Go Go.RowKit Go.Proofs
/-- how many bits a number has -/
def blen (n : Nat) : Nat := if n = 0 then 0 else Nat.log2 n + 1
theorem blen_half {n : Nat} (h : 1 ≤ n) : blen n = blen (n / 2) + 1 := by
  unfold blen
  rw [if_neg (by omega), Nat.log2_def]
  by_cases h2 : 2 ≤ n
  · rw [if_pos h2, if_neg (by omega)]
  · rw [if_neg h2, if_pos (by omega)]
theorem blen_shift : ∀ (k n : Nat), 2 ^ k ≤ n → blen n = blen (n / 2 ^ k) + k
  | 0, n, _ => by simp
  | k + 1, n, h => by
    have h1 : 1 ≤ n := Nat.le_trans (Nat.one_le_two_pow) h
    have h2 : 2 ^ k ≤ n / 2 := by rw [Nat.le_div_iff_mul_le (by decide), ← Nat.pow_succ]; exact h
    rw [blen_half h1, blen_shift k (n / 2) h2, Nat.div_div_eq_div_mul, show 2 * 2 ^ k = 2 ^ (k + 1) by rw [Nat.pow_succ, Nat.mul_comm]]
    omega
def tab8 : List UInt8 := [0] ++ [1] ++ List.replicate 2 2 ++ List.replicate 4 3 ++ List.replicate 8 4 ++ List.replicate 16 5 ++ List.replicate 32 6 ++ List.replicate 64 7 ++ List.replicate 128 8
theorem tab8_get (i : Nat) (h : i < 256) : tab8[i]? = some (UInt8.ofNat (blen i)) := by
  have : ∀ k : Fin 256, tab8[k.val]? = some (UInt8.ofNat (blen k.val)) := by decide +kernel
  exact this ⟨i, h⟩
theorem blen_lt {i : Nat} (h : i < 256) : blen i ≤ 8 := by
  have : ∀ k : Fin 256, blen k.val ≤ 8 := by decide +kernel
  exact this ⟨i, h⟩
theorem fdiv_nat (a k : Nat) : ((a : Nat) : Int).fdiv (2 ^ k) = ((a / 2 ^ k : Nat) : Int) := by
  rw [Int.fdiv_eq_ediv_of_nonneg _ (by exact Int.le_of_lt (Int.pow_pos (by decide)))]
  norm_cast
section
variable {P : Program} {N : Nat} {s : St} {d : Nat} {ty : TypeId} {pos : String} {af : Array Edge} {g : Option (Nat × Bool)}
/-- a >> b of a number that is none below nought -/
theorem op_shr {t1 t2 : TypeId} {x y : Operand} {k k' : IntKind} {a : Nat} {b : Int} (hN : d < N) (hx : opv x s = some (.int k (a : Int))) (hy : opv y s = some (.int k' b)) (hb : 0 ≤ b) :
    OpOK P N ⟨some d, .binOp .shr t1 x y t2, ty, pos, af, g⟩ s (rd x ++ rd y) [(.s d, .sv (.v (.int k ((a / 2 ^ (min b.toNat k.bits) : Nat) : Int))))] :=
  op_bin hN hx hy (by
    show (if b < 0 then none else some (AV.int k (((a : Nat) : Int).fdiv (2 ^ (min b.toNat k.bits))))) = _
    rw [if_neg (by omega), fdiv_nat])
end
end Go.Proofs.Ytecjdohpfijmpaa.X
/- math/bits.Len64. -/
set_option linter.unusedVariables false
set_option linter.unusedSimpArgs false
namespace Go.Proofs.Ytecjdohpfijmpaa.X
open Go Go.RowKit Go.Proofs
theorem leaf0 {m : Nat} (h : m < 256) : 0 ≤ IntKind.u8.wrap (m : Int) := by rw [wr8 (by omega) (by omega)]; omega
theorem leaf1 {m : Nat} (h : m < 256) : tab8[(IntKind.u8.wrap (m : Int)).toNat]? = some (UInt8.ofNat (blen m)) := by rw [wr8 (by omega) (by omega), Int.toNat_natCast]; exact tab8_get m h
theorem p32 : 2 ^ min (Int.toNat 32) IntKind.u64.bits = 4294967296 := rfl
theorem p16 : 2 ^ min (Int.toNat 16) IntKind.u64.bits = 65536 := rfl
theorem p8 : 2 ^ min (Int.toNat 8) IntKind.u64.bits = 256 := rfl
theorem leaf2 {n m off : Nat} {o : Int} (ho : o = off) (hm : m < 256) (hb : blen n = blen m + off) (h : off ≤ 56) : IntKind.i64.wrap (o + IntKind.i64.wrap ((UInt8.ofNat (blen m)).toNat : Int)) = (blen n : Int) := by
  have := blen_lt hm
  have e : (UInt8.ofNat (blen m)).toNat = blen m := UInt8.toNat_ofNat_of_lt' (by simp [UInt8.size]; omega)
  rw [e, ho, wr64 (n := (blen m : Int)) (by omega) (by omega), wr64 (by omega) (by omega), hb]; omega
theorem s32 {n : Nat} (h : 4294967296 ≤ n) : blen n = blen (n / 4294967296) + 32 := blen_shift 32 n h
theorem s16 {n : Nat} (h : 65536 ≤ n) : blen n = blen (n / 65536) + 16 := blen_shift 16 n h
theorem s8 {n : Nat} (h : 256 ≤ n) : blen n = blen (n / 256) + 8 := blen_shift 8 n h
theorem leaf3 {n : Nat} (h : 4294967296 ≤ n) : blen n = blen (n / 4294967296) + 32 := s32 h
theorem leaf4 {n : Nat} (h : 4294967296 ≤ n) (k : 65536 ≤ n / 4294967296) : blen n = blen (n / 4294967296 / 65536) + 48 := by rw [s32 h, s16 k]
theorem leaf5 {n : Nat} (h : 4294967296 ≤ n) (k : 65536 ≤ n / 4294967296) (l : 256 ≤ n / 4294967296 / 65536) : blen n = blen (n / 4294967296 / 65536 / 256) + 56 := by rw [s32 h, s16 k, s8 l]
theorem leaf6 {n : Nat} (h : 65536 ≤ n) : blen n = blen (n / 65536) + 16 := s16 h
theorem leaf7 {n : Nat} (h : 65536 ≤ n) (k : 256 ≤ n / 65536) : blen n = blen (n / 65536 / 256) + 24 := by rw [s16 h, s8 k]
theorem leaf8 {n : Nat} (h : 256 ≤ n) : blen n = blen (n / 256) + 8 := s8 h
theorem leaf9 {n : Nat} (h : 4294967296 ≤ n) (k : 256 ≤ n / 4294967296) : blen n = blen (n / 4294967296 / 256) + 40 := by rw [s32 h, s8 k]
theorem len64_pure (n : Nat) (h : n < 18446744073709551616) : Pure Try.prog 64 [.int .u64 (n : Int)] (.int .i64 (blen n)) := by
  refine Pure.of_tri Try.func64 rfl rfl (ltb rfl) fun H => ?_
  refine Tri.seq ?_
  refine Tri.region ?_
  refine TriL.c1 rfl (op_as (ltb rfl) rfl) ?_
  refine TriL.nil ?_
  refine Tri.seq ?_
  refine Tri.seq ?_
  refine Tri.region ?_
  refine TriL.c1 rfl (op_mv (ltb rfl) rfl) ?_
  refine TriL.c1 rfl (op_bin (ltb rfl) rfl rfl rfl) ?_
  refine TriL.nil ?_
  refine Tri.cond rfl (fun hc1 => ?_) (fun hc1 => ?_)
  · refine Tri.seq ?_
    refine Tri.region ?_
    refine TriL.c1 rfl (op_mv (ltb rfl) rfl) ?_
    refine TriL.c1 rfl (op_shr (ltb rfl) rfl rfl (by decide)) ?_
    refine TriL.c1 rfl (op_as (ltb rfl) rfl) ?_
    refine TriL.nil ?_
    refine Tri.region ?_
    refine TriL.c1 rfl (op_as (ltb rfl) rfl) ?_
    refine TriL.nil ?_
    refine Tri.seq ?_
    refine Tri.seq ?_
    refine Tri.region ?_
    refine TriL.c1 rfl (op_mv (ltb rfl) rfl) ?_
    refine TriL.c1 rfl (op_bin (ltb rfl) rfl rfl rfl) ?_
    refine TriL.nil ?_
    refine Tri.cond rfl (fun hc2 => ?_) (fun hc2 => ?_)
    · refine Tri.seq ?_
      refine Tri.region ?_
      refine TriL.c1 rfl (op_mv (ltb rfl) rfl) ?_
      refine TriL.c1 rfl (op_shr (ltb rfl) rfl rfl (by decide)) ?_
      refine TriL.c1 rfl (op_as (ltb rfl) rfl) ?_
      refine TriL.nil ?_
      refine Tri.region ?_
      refine TriL.c1 rfl (op_mv (ltb rfl) rfl) ?_
      refine TriL.c1 rfl (op_bin (ltb rfl) rfl rfl rfl) ?_
      refine TriL.c1 rfl (op_as (ltb rfl) rfl) ?_
      refine TriL.nil ?_
      refine Tri.seq ?_
      refine Tri.seq ?_
      refine Tri.region ?_
      refine TriL.c1 rfl (op_mv (ltb rfl) rfl) ?_
      refine TriL.c1 rfl (op_bin (ltb rfl) rfl rfl rfl) ?_
      refine TriL.nil ?_
      refine Tri.cond rfl (fun hc3 => ?_) (fun hc3 => ?_)
      · refine Tri.seq ?_
        refine Tri.region ?_
        refine TriL.c1 rfl (op_mv (ltb rfl) rfl) ?_
        refine TriL.c1 rfl (op_shr (ltb rfl) rfl rfl (by decide)) ?_
        refine TriL.c1 rfl (op_as (ltb rfl) rfl) ?_
        refine TriL.nil ?_
        refine Tri.region ?_
        refine TriL.c1 rfl (op_mv (ltb rfl) rfl) ?_
        refine TriL.c1 rfl (op_bin (ltb rfl) rfl rfl rfl) ?_
        refine TriL.c1 rfl (op_as (ltb rfl) rfl) ?_
        refine TriL.nil ?_
        refine Tri.seq ?_
        refine Tri.region ?_
        refine TriL.c1 rfl (op_mv (ltb rfl) rfl) ?_
        refine TriL.c1 rfl (op_mv (ltb rfl) rfl) ?_
        refine TriL.c1 rfl (op_cvi (ltb rfl) un50 un5 rfl) ?_
        have q0 : (((4294967296 : Nat) : Int) ≤ ((n : Nat) : Int)) := of_decide_eq_true hc1
        have q1 : (((65536 : Nat) : Int) ≤ ((n / 4294967296 : Nat) : Int)) := of_decide_eq_true hc2
        have q2 : (((256 : Nat) : Int) ≤ ((n / 4294967296 / 65536 : Nat) : Int)) := of_decide_eq_true hc3
        have hm : n / 4294967296 / 65536 / 256 < 256 := by omega
        refine TriL.c1 rfl (op_ixs (ltb rfl) un9 rfl rfl (leaf0 (m := n / 4294967296 / 65536 / 256) hm) (leaf1 (m := n / 4294967296 / 65536 / 256) hm)) ?_
        refine TriL.c1 rfl (op_cvi (ltb rfl) un5 un3 rfl) ?_
        refine TriL.c1 rfl (op_bin (ltb rfl) rfl rfl rfl) ?_
        refine TriL.c1 rfl (op_as (ltb rfl) rfl) ?_
        refine TriL.nil ?_
        refine Tri.ret ?_
        exact ⟨.inr rfl, (ResOK.r1 rfl (.tmp rfl .nil)).cast (res_i64 (leaf2 (n := n) (m := n / 4294967296 / 65536 / 256) (off := 56) (by first | rfl | decide) hm (leaf5 (by omega) (by omega) (by omega)) (by decide))), rfl⟩
      · refine Tri.skip ?_
        refine Tri.seq ?_
        refine Tri.region ?_
        refine TriL.c1 rfl (op_mv (ltb rfl) rfl) ?_
        refine TriL.c1 rfl (op_mv (ltb rfl) rfl) ?_
        refine TriL.c1 rfl (op_cvi (ltb rfl) un50 un5 rfl) ?_
        have q0 : (((4294967296 : Nat) : Int) ≤ ((n : Nat) : Int)) := of_decide_eq_true hc1
        have q1 : (((65536 : Nat) : Int) ≤ ((n / 4294967296 : Nat) : Int)) := of_decide_eq_true hc2
        have q2 : ¬ (((256 : Nat) : Int) ≤ ((n / 4294967296 / 65536 : Nat) : Int)) := of_decide_eq_false hc3
        have hm : n / 4294967296 / 65536 < 256 := by omega
        refine TriL.c1 rfl (op_ixs (ltb rfl) un9 rfl rfl (leaf0 (m := n / 4294967296 / 65536) hm) (leaf1 (m := n / 4294967296 / 65536) hm)) ?_
        refine TriL.c1 rfl (op_cvi (ltb rfl) un5 un3 rfl) ?_
        refine TriL.c1 rfl (op_bin (ltb rfl) rfl rfl rfl) ?_
        refine TriL.c1 rfl (op_as (ltb rfl) rfl) ?_
        refine TriL.nil ?_
        refine Tri.ret ?_
        exact ⟨.inr rfl, (ResOK.r1 rfl (.tmp rfl .nil)).cast (res_i64 (leaf2 (n := n) (m := n / 4294967296 / 65536) (off := 48) (by first | rfl | decide) hm (leaf4 (by omega) (by omega)) (by decide))), rfl⟩
    · refine Tri.skip ?_
      refine Tri.seq ?_
      refine Tri.seq ?_
      refine Tri.region ?_
      refine TriL.c1 rfl (op_mv (ltb rfl) rfl) ?_
      refine TriL.c1 rfl (op_bin (ltb rfl) rfl rfl rfl) ?_
      refine TriL.nil ?_
      refine Tri.cond rfl (fun hc4 => ?_) (fun hc4 => ?_)
      · refine Tri.seq ?_
        refine Tri.region ?_
        refine TriL.c1 rfl (op_mv (ltb rfl) rfl) ?_
        refine TriL.c1 rfl (op_shr (ltb rfl) rfl rfl (by decide)) ?_
        refine TriL.c1 rfl (op_as (ltb rfl) rfl) ?_
        refine TriL.nil ?_
        refine Tri.region ?_
        refine TriL.c1 rfl (op_mv (ltb rfl) rfl) ?_
        refine TriL.c1 rfl (op_bin (ltb rfl) rfl rfl rfl) ?_
        refine TriL.c1 rfl (op_as (ltb rfl) rfl) ?_
        refine TriL.nil ?_
        refine Tri.seq ?_
        refine Tri.region ?_
        refine TriL.c1 rfl (op_mv (ltb rfl) rfl) ?_
        refine TriL.c1 rfl (op_mv (ltb rfl) rfl) ?_
        refine TriL.c1 rfl (op_cvi (ltb rfl) un50 un5 rfl) ?_
        have q0 : (((4294967296 : Nat) : Int) ≤ ((n : Nat) : Int)) := of_decide_eq_true hc1
        have q1 : ¬ (((65536 : Nat) : Int) ≤ ((n / 4294967296 : Nat) : Int)) := of_decide_eq_false hc2
        have q2 : (((256 : Nat) : Int) ≤ ((n / 4294967296 : Nat) : Int)) := of_decide_eq_true hc4
        have hm : n / 4294967296 / 256 < 256 := by omega
        refine TriL.c1 rfl (op_ixs (ltb rfl) un9 rfl rfl (leaf0 (m := n / 4294967296 / 256) hm) (leaf1 (m := n / 4294967296 / 256) hm)) ?_
        refine TriL.c1 rfl (op_cvi (ltb rfl) un5 un3 rfl) ?_
        refine TriL.c1 rfl (op_bin (ltb rfl) rfl rfl rfl) ?_
        refine TriL.c1 rfl (op_as (ltb rfl) rfl) ?_
        refine TriL.nil ?_
        refine Tri.ret ?_
        exact ⟨.inr rfl, (ResOK.r1 rfl (.tmp rfl .nil)).cast (res_i64 (leaf2 (n := n) (m := n / 4294967296 / 256) (off := 40) (by first | rfl | decide) hm (leaf9 (by omega) (by omega)) (by decide))), rfl⟩
      · refine Tri.skip ?_
        refine Tri.seq ?_
        refine Tri.region ?_
        refine TriL.c1 rfl (op_mv (ltb rfl) rfl) ?_
        refine TriL.c1 rfl (op_mv (ltb rfl) rfl) ?_
        refine TriL.c1 rfl (op_cvi (ltb rfl) un50 un5 rfl) ?_
        have q0 : (((4294967296 : Nat) : Int) ≤ ((n : Nat) : Int)) := of_decide_eq_true hc1
        have q1 : ¬ (((65536 : Nat) : Int) ≤ ((n / 4294967296 : Nat) : Int)) := of_decide_eq_false hc2
        have q2 : ¬ (((256 : Nat) : Int) ≤ ((n / 4294967296 : Nat) : Int)) := of_decide_eq_false hc4
        have hm : n / 4294967296 < 256 := by omega
        refine TriL.c1 rfl (op_ixs (ltb rfl) un9 rfl rfl (leaf0 (m := n / 4294967296) hm) (leaf1 (m := n / 4294967296) hm)) ?_
        refine TriL.c1 rfl (op_cvi (ltb rfl) un5 un3 rfl) ?_
        refine TriL.c1 rfl (op_bin (ltb rfl) rfl rfl rfl) ?_
        refine TriL.c1 rfl (op_as (ltb rfl) rfl) ?_
        refine TriL.nil ?_
        refine Tri.ret ?_
        exact ⟨.inr rfl, (ResOK.r1 rfl (.tmp rfl .nil)).cast (res_i64 (leaf2 (n := n) (m := n / 4294967296) (off := 32) (by first | rfl | decide) hm (leaf3 (by omega)) (by decide))), rfl⟩
  · refine Tri.skip ?_
    refine Tri.seq ?_
    refine Tri.seq ?_
    refine Tri.region ?_
    refine TriL.c1 rfl (op_mv (ltb rfl) rfl) ?_
    refine TriL.c1 rfl (op_bin (ltb rfl) rfl rfl rfl) ?_
    refine TriL.nil ?_
    refine Tri.cond rfl (fun hc5 => ?_) (fun hc5 => ?_)
    · refine Tri.seq ?_
      refine Tri.region ?_
      refine TriL.c1 rfl (op_mv (ltb rfl) rfl) ?_
      refine TriL.c1 rfl (op_shr (ltb rfl) rfl rfl (by decide)) ?_
      refine TriL.c1 rfl (op_as (ltb rfl) rfl) ?_
      refine TriL.nil ?_
      refine Tri.region ?_
      refine TriL.c1 rfl (op_mv (ltb rfl) rfl) ?_
      refine TriL.c1 rfl (op_bin (ltb rfl) rfl rfl rfl) ?_
      refine TriL.c1 rfl (op_as (ltb rfl) rfl) ?_
      refine TriL.nil ?_
      refine Tri.seq ?_
      refine Tri.seq ?_
      refine Tri.region ?_
      refine TriL.c1 rfl (op_mv (ltb rfl) rfl) ?_
      refine TriL.c1 rfl (op_bin (ltb rfl) rfl rfl rfl) ?_
      refine TriL.nil ?_
      refine Tri.cond rfl (fun hc6 => ?_) (fun hc6 => ?_)
      · refine Tri.seq ?_
        refine Tri.region ?_
        refine TriL.c1 rfl (op_mv (ltb rfl) rfl) ?_
        refine TriL.c1 rfl (op_shr (ltb rfl) rfl rfl (by decide)) ?_
        refine TriL.c1 rfl (op_as (ltb rfl) rfl) ?_
        refine TriL.nil ?_
        refine Tri.region ?_
        refine TriL.c1 rfl (op_mv (ltb rfl) rfl) ?_
        refine TriL.c1 rfl (op_bin (ltb rfl) rfl rfl rfl) ?_
        refine TriL.c1 rfl (op_as (ltb rfl) rfl) ?_
        refine TriL.nil ?_
        refine Tri.seq ?_
        refine Tri.region ?_
        refine TriL.c1 rfl (op_mv (ltb rfl) rfl) ?_
        refine TriL.c1 rfl (op_mv (ltb rfl) rfl) ?_
        refine TriL.c1 rfl (op_cvi (ltb rfl) un50 un5 rfl) ?_
        have q0 : ¬ (((4294967296 : Nat) : Int) ≤ ((n : Nat) : Int)) := of_decide_eq_false hc1
        have q1 : (((65536 : Nat) : Int) ≤ ((n : Nat) : Int)) := of_decide_eq_true hc5
        have q2 : (((256 : Nat) : Int) ≤ ((n / 65536 : Nat) : Int)) := of_decide_eq_true hc6
        have hm : n / 65536 / 256 < 256 := by omega
        refine TriL.c1 rfl (op_ixs (ltb rfl) un9 rfl rfl (leaf0 (m := n / 65536 / 256) hm) (leaf1 (m := n / 65536 / 256) hm)) ?_
        refine TriL.c1 rfl (op_cvi (ltb rfl) un5 un3 rfl) ?_
        refine TriL.c1 rfl (op_bin (ltb rfl) rfl rfl rfl) ?_
        refine TriL.c1 rfl (op_as (ltb rfl) rfl) ?_
        refine TriL.nil ?_
        refine Tri.ret ?_
        exact ⟨.inr rfl, (ResOK.r1 rfl (.tmp rfl .nil)).cast (res_i64 (leaf2 (n := n) (m := n / 65536 / 256) (off := 24) (by first | rfl | decide) hm (leaf7 (by omega) (by omega)) (by decide))), rfl⟩
      · refine Tri.skip ?_
        refine Tri.seq ?_
        refine Tri.region ?_
        refine TriL.c1 rfl (op_mv (ltb rfl) rfl) ?_
        refine TriL.c1 rfl (op_mv (ltb rfl) rfl) ?_
        refine TriL.c1 rfl (op_cvi (ltb rfl) un50 un5 rfl) ?_
        have q0 : ¬ (((4294967296 : Nat) : Int) ≤ ((n : Nat) : Int)) := of_decide_eq_false hc1
        have q1 : (((65536 : Nat) : Int) ≤ ((n : Nat) : Int)) := of_decide_eq_true hc5
        have q2 : ¬ (((256 : Nat) : Int) ≤ ((n / 65536 : Nat) : Int)) := of_decide_eq_false hc6
        have hm : n / 65536 < 256 := by omega
        refine TriL.c1 rfl (op_ixs (ltb rfl) un9 rfl rfl (leaf0 (m := n / 65536) hm) (leaf1 (m := n / 65536) hm)) ?_
        refine TriL.c1 rfl (op_cvi (ltb rfl) un5 un3 rfl) ?_
        refine TriL.c1 rfl (op_bin (ltb rfl) rfl rfl rfl) ?_
        refine TriL.c1 rfl (op_as (ltb rfl) rfl) ?_
        refine TriL.nil ?_
        refine Tri.ret ?_
        exact ⟨.inr rfl, (ResOK.r1 rfl (.tmp rfl .nil)).cast (res_i64 (leaf2 (n := n) (m := n / 65536) (off := 16) (by first | rfl | decide) hm (leaf6 (by omega)) (by decide))), rfl⟩
    · refine Tri.skip ?_
      refine Tri.seq ?_
      refine Tri.seq ?_
      refine Tri.region ?_
      refine TriL.c1 rfl (op_mv (ltb rfl) rfl) ?_
      refine TriL.c1 rfl (op_bin (ltb rfl) rfl rfl rfl) ?_
      refine TriL.nil ?_
      refine Tri.cond rfl (fun hc7 => ?_) (fun hc7 => ?_)
      · refine Tri.seq ?_
        refine Tri.region ?_
        refine TriL.c1 rfl (op_mv (ltb rfl) rfl) ?_
        refine TriL.c1 rfl (op_shr (ltb rfl) rfl rfl (by decide)) ?_
        refine TriL.c1 rfl (op_as (ltb rfl) rfl) ?_
        refine TriL.nil ?_
        refine Tri.region ?_
        refine TriL.c1 rfl (op_mv (ltb rfl) rfl) ?_
        refine TriL.c1 rfl (op_bin (ltb rfl) rfl rfl rfl) ?_
        refine TriL.c1 rfl (op_as (ltb rfl) rfl) ?_
        refine TriL.nil ?_
        refine Tri.seq ?_
        refine Tri.region ?_
        refine TriL.c1 rfl (op_mv (ltb rfl) rfl) ?_
        refine TriL.c1 rfl (op_mv (ltb rfl) rfl) ?_
        refine TriL.c1 rfl (op_cvi (ltb rfl) un50 un5 rfl) ?_
        have q0 : ¬ (((4294967296 : Nat) : Int) ≤ ((n : Nat) : Int)) := of_decide_eq_false hc1
        have q1 : ¬ (((65536 : Nat) : Int) ≤ ((n : Nat) : Int)) := of_decide_eq_false hc5
        have q2 : (((256 : Nat) : Int) ≤ ((n : Nat) : Int)) := of_decide_eq_true hc7
        have hm : n / 256 < 256 := by omega
        refine TriL.c1 rfl (op_ixs (ltb rfl) un9 rfl rfl (leaf0 (m := n / 256) hm) (leaf1 (m := n / 256) hm)) ?_
        refine TriL.c1 rfl (op_cvi (ltb rfl) un5 un3 rfl) ?_
        refine TriL.c1 rfl (op_bin (ltb rfl) rfl rfl rfl) ?_
        refine TriL.c1 rfl (op_as (ltb rfl) rfl) ?_
        refine TriL.nil ?_
        refine Tri.ret ?_
        exact ⟨.inr rfl, (ResOK.r1 rfl (.tmp rfl .nil)).cast (res_i64 (leaf2 (n := n) (m := n / 256) (off := 8) (by first | rfl | decide) hm (leaf8 (by omega)) (by decide))), rfl⟩
      · refine Tri.skip ?_
        refine Tri.seq ?_
        refine Tri.region ?_
        refine TriL.c1 rfl (op_mv (ltb rfl) rfl) ?_
        refine TriL.c1 rfl (op_mv (ltb rfl) rfl) ?_
        refine TriL.c1 rfl (op_cvi (ltb rfl) un50 un5 rfl) ?_
        have q0 : ¬ (((4294967296 : Nat) : Int) ≤ ((n : Nat) : Int)) := of_decide_eq_false hc1
        have q1 : ¬ (((65536 : Nat) : Int) ≤ ((n : Nat) : Int)) := of_decide_eq_false hc5
        have q2 : ¬ (((256 : Nat) : Int) ≤ ((n : Nat) : Int)) := of_decide_eq_false hc7
        have hm : n < 256 := by omega
        refine TriL.c1 rfl (op_ixs (ltb rfl) un9 rfl rfl (leaf0 (m := n) hm) (leaf1 (m := n) hm)) ?_
        refine TriL.c1 rfl (op_cvi (ltb rfl) un5 un3 rfl) ?_
        refine TriL.c1 rfl (op_bin (ltb rfl) rfl rfl rfl) ?_
        refine TriL.c1 rfl (op_as (ltb rfl) rfl) ?_
        refine TriL.nil ?_
        refine Tri.ret ?_
        exact ⟨.inr rfl, (ResOK.r1 rfl (.tmp rfl .nil)).cast (res_i64 (leaf2 (n := n) (m := n) (off := 0) (by first | rfl | decide) hm (rfl) (by decide))), rfl⟩
end Go.Proofs.Ytecjdohpfijmpaa.X
/- varint: Size, Put. -/
set_option linter.unusedVariables false
set_option linter.unusedSimpArgs false
namespace Go.Proofs.Ytecjdohpfijmpaa.X
open Go Go.RowKit Go.Proofs
/-- a number's bytes: seven bits each, the last one below 128 -/
def vput (n : Nat) : List UInt8 := if h : n < 128 then [UInt8.ofNat n] else UInt8.ofNat (n % 128 + 128) :: vput (n / 128)
termination_by n
decreasing_by omega
theorem vput_lo {n : Nat} (h : n < 128) : vput n = [UInt8.ofNat n] := by rw [vput, dif_pos h]
theorem vput_hi {n : Nat} (h : ¬ n < 128) : vput n = UInt8.ofNat (n % 128 + 128) :: vput (n / 128) := by rw [vput, dif_neg h]
theorem blen_or (n : Nat) : blen (n ||| 1) = blen (n / 2) + 1 := by
  have h1 : (n ||| 1) / 2 = n / 2 := by have := Nat.shiftRight_or_distrib (i := 1) (a := n) (b := 1); rw [Nat.shiftRight_eq_div_pow, Nat.shiftRight_eq_div_pow, Nat.shiftRight_eq_div_pow] at this; simpa using this
  have h2 : 1 ≤ n ||| 1 := by have := Nat.right_le_or (n := n) (m := 1); omega
  rw [blen_half h2, h1]
theorem vput_len (n : Nat) : (vput n).length = (blen (n ||| 1) + 6) / 7 := by
  induction n using Nat.strongRecOn with
  | _ n ih =>
    rw [blen_or]
    by_cases h : n < 128
    · rw [vput_lo h]
      have : blen (n / 2) ≤ 6 := by
        have : ∀ k : Fin 64, blen k.val ≤ 6 := by decide +kernel
        exact this ⟨n / 2, by omega⟩
      simp only [List.length_cons, List.length_nil]; omega
    · rw [vput_hi h, List.length_cons, ih (n / 128) (by omega), blen_or, ← blen_half (n := n) (by omega), blen_shift 7 n (by omega), ← blen_half (n := n / 128) (by omega), show (2 ^ 7 : Nat) = 128 from rfl]
      omega
theorem vput_pos (n : Nat) : 1 ≤ (vput n).length := by
  by_cases h : n < 128
  · rw [vput_lo h]; simp
  · rw [vput_hi h]; simp
theorem vput_one {n : Nat} (h : (vput n).length ≤ 1) : n < 128 := by
  by_cases h2 : n < 128
  · exact h2
  · rw [vput_hi h2, List.length_cons] at h; have := vput_pos (n / 128); omega
theorem blen_le : ∀ (k n : Nat), n < 2 ^ k → blen n ≤ k
  | 0, n, h => by have : n = 0 := by omega
                  subst this; simp [blen]
  | k + 1, n, h => by
    by_cases h0 : n = 0
    · subst h0; simp [blen]
    · rw [blen_half (by omega)]
      have := blen_le k (n / 2) (by rw [Nat.pow_succ] at h; omega)
      omega
theorem or1_lt {n : Nat} (h : n < 18446744073709551616) : n ||| 1 < 18446744073709551616 := Nat.or_lt_two_pow (n := 64) h (by decide)
theorem vput_max {n : Nat} (h : n < 18446744073709551616) : (vput n).length ≤ 10 := by
  rw [vput_len]
  have := blen_le 64 (n ||| 1) (or1_lt h)
  omega
theorem or_u64 {n m : Nat} (h : n < 18446744073709551616) (k : m < 18446744073709551616) : ibits .or .u64 (n : Int) (m : Int) = ((n ||| m : Nat) : Int) := by
  have e1 : (BitVec.ofInt 64 ((n : Nat) : Int)).toNat = n := by rw [BitVec.toNat_ofInt]; omega
  have e2 : (BitVec.ofInt 64 ((m : Nat) : Int)).toNat = m := by rw [BitVec.toNat_ofInt]; omega
  show IntKind.u64.wrap (((BitVec.ofInt 64 ((n : Nat) : Int)) ||| (BitVec.ofInt 64 ((m : Nat) : Int))).toNat : Int) = _
  rw [BitVec.toNat_or, e1, e2]
  have : n ||| m < 18446744073709551616 := Nat.or_lt_two_pow (n := 64) h k
  rw [wru64] <;> omega
theorem size_eq {n : Nat} (h : n < 18446744073709551616) : IntKind.i64.wrap ((IntKind.i64.wrap (IntKind.i64.wrap ((blen (n ||| 1) : Nat) + 7) - 1)).tdiv 7) = ((vput n).length : Int) := by
  have h1 := blen_le 64 (n ||| 1) (or1_lt h)
  rw [vput_len, wr64 (n := ((blen (n ||| 1) : Nat) : Int) + 7) (by omega) (by omega), wr64 (n := ((blen (n ||| 1) : Nat) : Int) + 7 - 1) (by omega) (by omega), Int.tdiv_eq_ediv_of_nonneg (by omega), wr64 (by omega) (by omega)]
  omega
theorem byte_or : ∀ m : Nat, ibits .or .u8 (IntKind.u8.wrap (m : Int)) 128 = (((UInt8.ofNat (m % 128 + 128)).toNat : Nat) : Int) := by
  intro m
  have h : ∀ k : Fin 256, ibits .or .u8 ((k.val : Nat) : Int) 128 = (((UInt8.ofNat (k.val % 128 + 128)).toNat : Nat) : Int) := by decide +kernel
  have e : IntKind.u8.wrap (m : Int) = ((m % 256 : Nat) : Int) := by simp only [IntKind.wrap, IntKind.bits, IntKind.signed]; simp
  rw [e]
  have := h ⟨m % 256, by omega⟩
  simp only at this
  rw [this, show m % 256 % 128 = m % 128 by omega]
theorem byte_of (m : Nat) : IntKind.u8.wrap (m : Int) = (((UInt8.ofNat m).toNat : Nat) : Int) := by
  have e : IntKind.u8.wrap (m : Int) = ((m % 256 : Nat) : Int) := by simp only [IntKind.wrap, IntKind.bits, IntKind.signed]; simp
  rw [e]; simp [UInt8.toNat_ofNat']
theorem pshr7 : 2 ^ min (Int.toNat 7) IntKind.u64.bits = 128 := rfl
theorem len64_pure' {m : Int} {n : Nat} (e : m = n) (h : n < 18446744073709551616) : Pure Try.prog 64 [.int .u64 m] (.int .i64 (blen n)) := e ▸ len64_pure n h
theorem size_pure (n : Nat) (h : n < 18446744073709551616) : Pure Try.prog 59 [.int .u64 (n : Int)] (.int .i64 ((vput n).length : Nat)) := by
  refine Pure.of_tri Try.func59 rfl rfl (ltb rfl) fun H => ?_
  refine Tri.seq ?_
  refine Tri.region ?_
  refine TriL.c1 rfl (op_as (ltb rfl) rfl) ?_
  refine TriL.nil ?_
  refine Tri.seq ?_
  refine Tri.region ?_
  refine TriL.c1 rfl (op_mv (ltb rfl) rfl) ?_
  refine TriL.c1 rfl (op_bin (ltb rfl) rfl rfl rfl) ?_
  refine TriL.c1 rfl (op_call (ltb rfl) fn64 rfl (len64_pure' (or_u64 (m := 1) h (by decide)) (or1_lt h))) ?_
  refine TriL.c1 rfl (op_bin (ltb rfl) rfl rfl rfl) ?_
  refine TriL.c1 rfl (op_bin (ltb rfl) rfl rfl rfl) ?_
  refine TriL.c1 rfl (op_bin (ltb rfl) rfl rfl rfl) ?_
  refine TriL.c1 rfl (op_as (ltb rfl) rfl) ?_
  refine TriL.nil ?_
  refine Tri.ret ?_
  exact ⟨.inr rfl, (ResOK.r1 rfl (.tmp rfl .nil)).cast (congrArg (AV.int .i64) (size_eq h)), rfl⟩
def StVP (H : Hp) (m : Int) (xs : List AV) (k j : Int) : St := [(.h, .hp H), (.s 0, .sv (.v (.int .u64 m))), (.s 3, .sv (.ow 4 xs)), (.s 7, .sv (.v (.int .i64 k))), (.s 8, .sv (.v (.int .i64 j))), (.t 4, .tk false 5 1 xs)]
theorem bsl_one (c : UInt8) : bsl [c] = [.int .u8 c.toNat] := rfl
theorem okEls_one (k : IntKind) (n : Int) : okEls 1 [.int k n] = true := rfl
theorem vput_pureO (n : Nat) (h : n < 18446744073709551616) : PureO Try.prog 43 [.int .u64 (n : Int)] 5 1 (bsl (vput n)) := by
  refine PureO.of_tri Try.func43 rfl rfl (ltb rfl) rfl fun H => ?_
  refine Tri.seq ?_
  refine Tri.region ?_
  refine TriL.c1 rfl (op_as (ltb rfl) rfl) ?_
  refine TriL.nil ?_
  refine Tri.seq ?_
  refine Tri.region ?_
  refine TriL.c2 rfl (op_mk0 (ltb rfl) se22 rfl rfl (by omega) (by decide) (by decide) rfl) ?_
  refine TriL.c1 rfl (op_as (ltb rfl) rfl) ?_
  refine TriL.nil ?_
  refine Tri.seq ?_
  refine Tri.seq ?_
  refine Tri.region ?_
  refine TriL.c1 rfl (op_mv (ltb rfl) rfl) ?_
  refine TriL.c1 rfl (op_call (ltb rfl) fn59 rfl (size_pure n h)) ?_
  refine TriL.c1 rfl (op_bin (ltb rfl) rfl rfl rfl) ?_
  refine TriL.c1 rfl (op_mv (ltb rfl) rfl) ?_
  refine TriL.kept (Kept.keep [.h, .s 0, .s 3, .s 7, .s 8, .t 4] rfl (by decide) (Kept.now ?_))
  refine Tri.blk ?_
  -- LOOP 1: KEEP
  have hz : IntKind.i64.wrap (((vput n).length : Nat) - 1) = (((vput n).length - 1 : Nat) : Int) := by
    have := vput_pos n; have := vput_max h
    rw [wr64] <;> omega
  refine Tri.loop (fun q s => ∃ (m : Nat) (o : List UInt8) (j : Int) (i : Nat), s = StVP H m (bsl o) (IntKind.i64.wrap (((vput n).length : Nat) - 1)) j ∧ j = i ∧ vput n = o ++ vput m ∧ i = o.length ∧ m < 18446744073709551616 ∧ q = (vput m).length) ?_ (n := (vput n).length) ⟨n, [], 0, 0, rfl, rfl, rfl, rfl, h, rfl⟩
  rintro q s ⟨m, o, j, i, rfl, hj, hv, hi, hm, rfl⟩
  have hlen : (vput n).length = o.length + (vput m).length := by rw [hv, List.length_append]
  have hmx := vput_max h
  refine Tri.seq ?_
  refine Tri.region ?_
  refine TriL.c1 rfl (op_bin (ltb rfl) rfl rfl rfl) ?_
  refine TriL.nil ?_
  refine Tri.seq ?_
  refine Tri.cond rfl (fun hc1 => ?_) (fun hc1 => ?_)
  · have hlt : 128 ≤ m := by
      have := of_decide_eq_true hc1
      rw [hz, hj] at this
      have h1 := vput_pos m
      by_cases h2 : m < 128
      · rw [vput_lo h2] at hlen; simp only [List.length_cons, List.length_nil] at hlen; omega
      · omega
    refine Tri.skip ?_
    refine Tri.seq ?_
    refine Tri.blk ?_
    refine Tri.seq ?_
    refine Tri.region ?_
    refine TriL.c1 rfl (op_mv (ltb rfl) rfl) ?_
    refine TriL.c1 rfl (op_mv (ltb rfl) rfl) ?_
    refine TriL.c1 rfl (op_cvi (ltb rfl) un50 un5 rfl) ?_
    refine TriL.c1 rfl (op_bin (ltb rfl) rfl rfl rfl) ?_
    refine TriL.c1 rfl (op_lit («as» := [_]) (ltb rfl) se22 zAe22 rfl rfl rfl (leb rfl)) ?_
    refine TriL.c3 rfl (op_app (ltb rfl) se22 rfl rfl rfl (okEls_one _ _) rfl (by have := bsl_len o; simp only [List.length_cons, List.length_nil]; omega) (by have := bsl_len o; simp only [List.length_cons, List.length_nil]; omega)) ?_
    refine TriL.c1 rfl (op_as (ltb rfl) rfl) ?_
    refine TriL.nil ?_
    refine Tri.region ?_
    refine TriL.c1 rfl (op_mv (ltb rfl) rfl) ?_
    refine TriL.c1 rfl (op_shr (ltb rfl) rfl rfl (by decide)) ?_
    refine TriL.c1 rfl (op_as (ltb rfl) rfl) ?_
    refine TriL.nil ?_
    refine Tri.region ?_
    refine TriL.c1 rfl (op_bin (ltb rfl) rfl rfl rfl) ?_
    refine TriL.c1 rfl (op_mv (ltb rfl) rfl) ?_
    refine TriL.kept (Kept.keep [.h, .s 0, .s 3, .s 7, .s 8, .t 15] rfl (by decide) (Kept.ren 15 4 (by decide) rfl (Kept.now ?_)))
    have hb : bsl o ++ [.int .u8 (ibits .or .u8 (IntKind.u8.wrap (m : Int)) 128)] = bsl (o ++ [UInt8.ofNat (m % 128 + 128)]) := by rw [byte_or, bsl_app]; rfl
    refine ⟨(vput (m / 128)).length, by rw [vput_hi (n := m) (by omega), List.length_cons]; omega, m / 128, o ++ [UInt8.ofNat (m % 128 + 128)], _, i + 1, by rw [← hb]; rfl, ?_, ?_, by simp [hi], by omega, rfl⟩
    · rw [hj, wr64] <;> omega
    · rw [hv, vput_hi (n := m) (by omega)]; simp
  · have hlt : m < 128 := by
      have := of_decide_eq_false hc1
      rw [hz, hj] at this
      exact vput_one (by omega)
    refine Tri.exit ?_
    refine Tri.seq ?_
    refine Tri.region ?_
    refine TriL.c1 rfl (op_mv (ltb rfl) rfl) ?_
    refine TriL.c1 rfl (op_mv (ltb rfl) rfl) ?_
    refine TriL.c1 rfl (op_cvi (ltb rfl) un50 un5 rfl) ?_
    refine TriL.c1 rfl (op_lit («as» := [_]) (ltb rfl) se22 zAe22 rfl rfl rfl (leb rfl)) ?_
    refine TriL.c3 rfl (op_app (ltb rfl) se22 rfl rfl rfl (okEls_one _ _) rfl (by have := bsl_len o; simp only [List.length_cons, List.length_nil]; omega) (by have := bsl_len o; simp only [List.length_cons, List.length_nil]; omega)) ?_
    refine TriL.c1 rfl (op_as (ltb rfl) rfl) ?_
    refine TriL.nil ?_
    refine Tri.ret ?_
    have hb : bsl o ++ [.int .u8 (IntKind.u8.wrap (m : Int))] = bsl (vput n) := by rw [hv, vput_lo hlt, bsl_app, byte_of]; rfl
    rw [← hb]
    exact ⟨.inr rfl, ⟨23, rfl, rfl⟩, rfl⟩
end Go.Proofs.Ytecjdohpfijmpaa.X
/- fix: Put4, Put8. -/
set_option linter.unusedVariables false
set_option linter.unusedSimpArgs false
namespace Go.Proofs.Ytecjdohpfijmpaa.X
open Go Go.RowKit Go.Proofs
theorem ia91 : ia Try.prog 91 = some 8 := by kernel_rfl
/-- the byte k of a number -/
def nb (n k : Nat) : UInt8 := UInt8.ofNat (n / 2 ^ (8 * k))
def wc (n i k : Nat) : AV := .int .u8 (if k < i then ((nb n k).toNat : Int) else 0)
def w8 (n i : Nat) : List AV := [wc n i 0, wc n i 1, wc n i 2, wc n i 3, wc n i 4, wc n i 5, wc n i 6, wc n i 7]
def StW (H : Hp) (n i : Nat) (j : Int) : St := [(.h, .hp H), (.s 0, .sv (.v (.int .u64 (n : Int)))), (.s 2, .sv (.lp 2 0)), (.s 3, .sv (.lp 3 0)), (.s 5, .sv (.v (.int .i64 j))), (.b 2, .bx [.v (.int .u8 0), .v (.int .u8 0), .v (.int .u8 0), .v (.int .u8 0), .v (.int .u8 0), .v (.int .u8 0), .v (.int .u8 0), .v (.int .u8 0)]), (.b 3, .bx [.v (wc n i 0), .v (wc n i 1), .v (wc n i 2), .v (wc n i 3), .v (wc n i 4), .v (wc n i 5), .v (wc n i 6), .v (wc n i 7)])]
theorem w8_set (n i : Nat) (h : i < 8) : setAt [.v (wc n i 0), .v (wc n i 1), .v (wc n i 2), .v (wc n i 3), .v (wc n i 4), .v (wc n i 5), .v (wc n i 6), .v (wc n i 7)] (0 + i) [.v (.int .u8 ((nb n i).toNat : Int))] = [.v (wc n (i + 1) 0), .v (wc n (i + 1) 1), .v (wc n (i + 1) 2), .v (wc n (i + 1) 3), .v (wc n (i + 1) 4), .v (wc n (i + 1) 5), .v (wc n (i + 1) 6), .v (wc n (i + 1) 7)] := by
  have : ∀ j : Fin 8, j.val = i → setAt [.v (wc n j.val 0), .v (wc n j.val 1), .v (wc n j.val 2), .v (wc n j.val 3), .v (wc n j.val 4), .v (wc n j.val 5), .v (wc n j.val 6), .v (wc n j.val 7)] (0 + j.val) [.v (.int .u8 ((nb n j.val).toNat : Int))] = [.v (wc n (j.val + 1) 0), .v (wc n (j.val + 1) 1), .v (wc n (j.val + 1) 2), .v (wc n (j.val + 1) 3), .v (wc n (j.val + 1) 4), .v (wc n (j.val + 1) 5), .v (wc n (j.val + 1) 6), .v (wc n (j.val + 1) 7)] := by
    intro j _
    match j with
    | ⟨0, _⟩ => rfl
    | ⟨1, _⟩ => rfl
    | ⟨2, _⟩ => rfl
    | ⟨3, _⟩ => rfl
    | ⟨4, _⟩ => rfl
    | ⟨5, _⟩ => rfl
    | ⟨6, _⟩ => rfl
    | ⟨7, _⟩ => rfl

  exact this ⟨i, h⟩ rfl
theorem shr_byte (n i : Nat) (h : i < 8) : IntKind.u8.wrap ((n / 2 ^ (min (IntKind.i64.wrap (8 * (i : Int))).toNat IntKind.u64.bits) : Nat) : Int) = ((nb n i).toNat : Int) := by
  rw [wr64 (by omega) (by omega), show (8 * (i : Int)).toNat = 8 * i by omega, show min (8 * i) IntKind.u64.bits = 8 * i from Nat.min_eq_left (by show 8 * i ≤ 64; omega), byte_of]; rfl
theorem w8_set' (n i : Nat) (h : i < 8) : setAt [.v (wc n i 0), .v (wc n i 1), .v (wc n i 2), .v (wc n i 3), .v (wc n i 4), .v (wc n i 5), .v (wc n i 6), .v (wc n i 7)] (0 + ((i : Nat) : Int).toNat) (Sv.v (.int .u8 (IntKind.u8.wrap ((n / 2 ^ (min (IntKind.i64.wrap (8 * (i : Int))).toNat IntKind.u64.bits) : Nat) : Int)))).cells = [.v (wc n (i + 1) 0), .v (wc n (i + 1) 1), .v (wc n (i + 1) 2), .v (wc n (i + 1) 3), .v (wc n (i + 1) 4), .v (wc n (i + 1) 5), .v (wc n (i + 1) 6), .v (wc n (i + 1) 7)] := by
  rw [shr_byte n i h, Int.toNat_natCast]; exact w8_set n i h
/-- the first k bytes of a number -/
def fput (n k : Nat) : List UInt8 := (List.range k).map fun i => nb n i
theorem w8_take (n : Nat) : (w8 n 8).take 4 = bsl (fput n 4) ∧ (w8 n 8).take 8 = bsl (fput n 8) := ⟨rfl, rfl⟩
theorem bytesOf_pure (n : Nat) : Pure Try.prog 63 [.int .u64 (n : Int)] (.agg (w8 n 8)) := by
  refine Pure.of_tri Try.func63 rfl rfl (ltb rfl) fun H => ?_
  refine Tri.seq ?_
  refine Tri.region ?_
  refine TriL.c2 rfl (op_all (ltb rfl) zA91 rfl) ?_
  refine TriL.nil ?_
  refine Tri.seq ?_
  refine Tri.region ?_
  refine TriL.c2 rfl (op_all (ltb rfl) zA91 rfl) ?_
  refine TriL.nil ?_
  refine Tri.seq ?_
  refine Tri.seq ?_
  refine Tri.region ?_
  refine TriL.c1 rfl (op_mv (ltb rfl) rfl) ?_
  refine TriL.kept (Kept.keep [.h, .s 0, .s 2, .s 3, .s 5, .b 2, .b 3] rfl (by decide) (Kept.now ?_))
  refine Tri.blk ?_
  -- LOOP 1: KEEP
  refine Tri.loop (fun q s => ∃ (i : Nat) (j : Int), s = StW H n i j ∧ j = i ∧ i ≤ 8 ∧ q = 8 - i) ?_ (n := 8) ⟨0, 0, rfl, rfl, by omega, rfl⟩
  rintro q s ⟨i, j, rfl, hj, hi, rfl⟩
  refine Tri.seq ?_
  refine Tri.region ?_
  refine TriL.c1 rfl (op_bin (ltb rfl) rfl rfl rfl) ?_
  refine TriL.nil ?_
  refine Tri.seq ?_
  refine Tri.cond rfl (fun hc1 => ?_) (fun hc1 => ?_)
  · have hlt : i < 8 := by have := of_decide_eq_true hc1; omega
    subst hj
    refine Tri.skip ?_
    refine Tri.seq ?_
    refine Tri.blk ?_
    refine Tri.seq ?_
    refine Tri.region ?_
    refine TriL.c1 rfl (op_mv (ltb rfl) rfl) ?_
    refine TriL.c1 rfl (op_as (ltb rfl) rfl) ?_
    refine TriL.nil ?_
    refine Tri.region ?_
    refine TriL.c1 rfl (op_mv (ltb rfl) rfl) ?_
    refine TriL.c1 rfl (op_mv (ltb rfl) rfl) ?_
    refine TriL.c1 rfl (op_mv (ltb rfl) rfl) ?_
    refine TriL.c1 rfl (op_bin (ltb rfl) rfl rfl rfl) ?_
    refine TriL.c1 rfl (op_shr (ltb rfl) rfl rfl (by rw [wr64] <;> omega)) ?_
    refine TriL.c1 rfl (op_cvi (ltb rfl) un50 un5 rfl) ?_
    refine TriL.c1 rfl (op_iaa (ltb rfl) ia91 rfl rfl (by omega) (by show (i : Int) < ((8 : Nat) : Int); omega)) ?_
    refine TriL.c1 rfl (op_stl lk5 rfl rfl rfl rfl rfl (by show 0 + (i : Int).toNat + 1 ≤ 8; omega)) ?_
    refine TriL.nil ?_
    refine Tri.region ?_
    refine TriL.c1 rfl (op_bin (ltb rfl) rfl rfl rfl) ?_
    refine TriL.c1 rfl (op_mv (ltb rfl) rfl) ?_
    rw [w8_set' n i hlt]
    refine TriL.kept (Kept.keep [.h, .s 0, .s 2, .s 3, .s 5, .b 2, .b 3] rfl (by decide) (Kept.now ?_))
    refine ⟨8 - (i + 1), by omega, i + 1, _, rfl, by rw [wr64] <;> omega, by omega, rfl⟩
  · have hge : i = 8 := by have := of_decide_eq_false hc1; omega
    subst hge
    refine Tri.exit ?_
    refine Tri.seq ?_
    refine Tri.region ?_
    refine TriL.c1 rfl (op_ldl (ltb rfl) lk91 rfl rfl rfl) ?_
    refine TriL.c1 rfl (op_stl lk91 rfl rfl rfl rfl rfl (leb rfl)) ?_
    refine TriL.nil ?_
    refine Tri.ret ?_
    exact ⟨.inr rfl, (ResOK.r1 rfl (.cell lk91 rfl rfl rfl rfl .nil)), rfl⟩
theorem bytesOf_pure' {m : Int} {n : Nat} (e : m = n) : Pure Try.prog 63 [.int .u64 m] (.agg (w8 n 8)) := e ▸ bytesOf_pure n
theorem put4_pure (n : Nat) (h : n < 4294967296) : Pure Try.prog 56 [.int .u32 (n : Int)] (.sl (bsl (fput n 4))) := by
  refine Pure.of_tri Try.func56 rfl rfl (ltb rfl) fun H => ?_
  refine Tri.seq ?_
  refine Tri.region ?_
  refine TriL.c1 rfl (op_as (ltb rfl) rfl) ?_
  refine TriL.nil ?_
  refine Tri.seq ?_
  refine Tri.region ?_
  refine TriL.c1 rfl (op_mv (ltb rfl) rfl) ?_
  refine TriL.c1 rfl (op_cvi (ltb rfl) un62 un50 rfl) ?_
  refine TriL.c1 rfl (op_call (ltb rfl) fn63 rfl (bytesOf_pure' (n := n) (wru64 (by omega) (by omega)))) ?_
  refine TriL.c2 rfl (op_all (ltb rfl) zA91 rfl) ?_
  refine TriL.c1 rfl (op_stl lk91 rfl rfl rfl rfl rfl (leb rfl)) ?_
  refine TriL.nil ?_
  refine Tri.seq ?_
  refine Tri.region ?_
  refine TriL.c2 rfl (op_sla (ltb rfl) ia91 (xs := w8 n 8) rfl rfl rfl rfl (by decide) (by decide)) ?_
  refine TriL.c1 rfl (op_as (ltb rfl) rfl) ?_
  refine TriL.nil ?_
  refine Tri.ret ?_
  exact ⟨.inr rfl, (ResOK.r1 rfl (.tmp rfl .nil)), rfl⟩
theorem put8_pure (n : Nat) : Pure Try.prog 57 [.int .u64 (n : Int)] (.sl (bsl (fput n 8))) := by
  refine Pure.of_tri Try.func57 rfl rfl (ltb rfl) fun H => ?_
  refine Tri.seq ?_
  refine Tri.region ?_
  refine TriL.c1 rfl (op_as (ltb rfl) rfl) ?_
  refine TriL.nil ?_
  refine Tri.seq ?_
  refine Tri.region ?_
  refine TriL.c1 rfl (op_mv (ltb rfl) rfl) ?_
  refine TriL.c1 rfl (op_call (ltb rfl) fn63 rfl (bytesOf_pure n)) ?_
  refine TriL.c2 rfl (op_all (ltb rfl) zA91 rfl) ?_
  refine TriL.c1 rfl (op_stl lk91 rfl rfl rfl rfl rfl (leb rfl)) ?_
  refine TriL.nil ?_
  refine Tri.seq ?_
  refine Tri.region ?_
  refine TriL.c2 rfl (op_sla (ltb rfl) ia91 (xs := w8 n 8) (m := 8) rfl rfl rfl rfl (by decide) (by decide)) ?_
  refine TriL.c1 rfl (op_as (ltb rfl) rfl) ?_
  refine TriL.nil ?_
  refine Tri.ret ?_
  exact ⟨.inr rfl, (ResOK.r1 rfl (.tmp rfl .nil)), rfl⟩
end Go.Proofs.Ytecjdohpfijmpaa.X
