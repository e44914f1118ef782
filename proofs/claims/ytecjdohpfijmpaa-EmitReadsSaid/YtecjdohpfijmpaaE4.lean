/- emit: lay. -/
import Derived.Test.YtecjdohpfijmpaaE3
set_option linter.unusedVariables false
set_option linter.unusedSimpArgs false
namespace Go.Proofs.Ytecjdohpfijmpaa.X
open Go Go.RowKit Go.Proofs
/-- bytes laid ahead of those from a place on: as the code makes them -/
theorem lay_eq (b c : List UInt8) (at_ : Nat) (h : at_ ≤ b.length) :
    splice (splice (bsl b ++ bsl c) (at_ + c.length) ((((bsl b ++ bsl c).drop at_).take (Nat.min (b.length - at_) (b.length - at_))))) at_ (bsl c) = bsl (b.take at_ ++ c ++ b.drop at_) := by
  have hb := bsl_len b
  have hc := bsl_len c
  have hd : (bsl b).drop at_ = bsl (b.drop at_) := by simp [bsl]
  have ht : (bsl b).take at_ = bsl (b.take at_) := by simp [bsl]
  have e0 : Nat.min (b.length - at_) (b.length - at_) = b.length - at_ := Nat.min_self _
  have e1 : ((bsl b ++ bsl c).drop at_).take (Nat.min (b.length - at_) (b.length - at_)) = bsl (b.drop at_) := by
    rw [e0, List.drop_append_of_le_length (by omega), List.take_append_of_le_length (by rw [List.length_drop]; omega), List.take_of_length_le (by rw [List.length_drop]; omega), hd]
  have hl : (bsl (b.drop at_)).length = b.length - at_ := by rw [bsl_len, List.length_drop]
  rw [e1]
  have e2 : splice (bsl b ++ bsl c) (at_ + c.length) (bsl (b.drop at_)) = (bsl b ++ bsl c).take (at_ + c.length) ++ bsl (b.drop at_) := by
    unfold splice
    rw [hl, List.drop_of_length_le (l := bsl b ++ bsl c) (by rw [List.length_append]; omega), List.append_nil]
  rw [e2]
  unfold splice
  have e3 : ((bsl b ++ bsl c).take (at_ + c.length)).length = at_ + c.length := by rw [List.length_take, List.length_append]; omega
  rw [hc, List.take_append_of_le_length (by omega), List.take_take, Nat.min_eq_left (by omega), List.take_append_of_le_length (by omega), ht, List.drop_append_of_le_length (by omega), List.drop_of_length_le (by omega), List.nil_append, bsl_app, bsl_app]

theorem splice_ge (xs zs : List AV) (lo : Nat) : xs.length ≤ (splice xs lo zs).length := by simp only [splice, List.length_append, List.length_take, List.length_drop]; omega
theorem lay_run (H : Hp) (id a : Nat) (b c : List UInt8) (fs : List AV) (ho : H.obj id = some (wr (bsl b) fs)) (ha : a ≤ b.length) (hl : b.length + c.length ≤ 1073741824) :
    Run Try.prog 45 [.op id 0, .int .i64 a, .sl (bsl c)] H (.tup []) (H.set id (wr (bsl (b.take a ++ c ++ b.drop a)) fs)) := by
  have hb := bsl_len b
  have hc := bsl_len c
  have hw : IntKind.i64.wrap ((a : Int) + ((bsl c).length : Int)) = ((a + c.length : Nat) : Int) := by rw [hc, wr64] <;> omega
  have hap : (bsl b ++ bsl c).length = b.length + c.length := by rw [List.length_append, hb, hc]
  refine Run.of_tri Try.func45 rfl rfl (ltb rfl) ?_
  refine Tri.ofKept (Kept.opn 100 id 100 rfl ho rfl rfl (Kept.lp 0 100 rfl rfl (Kept.now ?_)))
  refine Tri.seq ?_
  refine Tri.region ?_
  refine TriL.c1 rfl (op_mv (ltb rfl) rfl) ?_
  refine TriL.c1 rfl (op_nckl (ltb rfl) rfl) ?_
  refine TriL.c1 rfl (op_fal (ltb rfl) fo59_0 rfl) ?_
  refine TriL.c1 rfl (op_ldo (ltb rfl) lk22 rfl rfl rfl) ?_
  refine TriL.c1 rfl (op_lenom (ltb rfl) un22 rfl) ?_
  refine TriL.c1 rfl (op_as (ltb rfl) rfl) ?_
  refine TriL.nil ?_
  refine Tri.seq ?_
  refine Tri.region ?_
  refine TriL.c1 rfl (op_mv (ltb rfl) rfl) ?_
  refine TriL.c1 rfl (op_mv (ltb rfl) rfl) ?_
  refine TriL.c1 rfl (op_nckl (ltb rfl) rfl) ?_
  refine TriL.c1 rfl (op_fal (ltb rfl) fo59_0 rfl) ?_
  refine TriL.c1 rfl (op_ldo (ltb rfl) lk22 rfl rfl rfl) ?_
  refine TriL.c1 rfl (op_mv (ltb rfl) rfl) ?_
  refine TriL.c3 rfl (op_apm (ltb rfl) se22 rfl rfl rfl rfl (okEls_bsl c) rfl (by omega) (by omega)) ?_
  refine TriL.c1 rfl (op_nckl (ltb rfl) rfl) ?_
  refine TriL.c1 rfl (op_fal (ltb rfl) fo59_0 rfl) ?_
  refine TriL.c1 rfl (op_sto lk22 rfl rfl rfl rfl rfl (leb rfl)) ?_
  refine TriL.nil ?_
  refine Tri.seq ?_
  refine Tri.drawn mixed rfl ?_
  refine TriD.c1 rfl (op_mv (ltb rfl) rfl) ?_
  refine TriD.c1 rfl (op_nckl (ltb rfl) rfl) ?_
  refine TriD.c1 rfl (op_fal (ltb rfl) fo59_0 rfl) ?_
  refine TriD.c1 rfl (op_ldo (ltb rfl) lk22 rfl rfl rfl) ?_
  refine TriD.c1 rfl (op_mv (ltb rfl) rfl) ?_
  refine TriD.c1 rfl (op_mv (ltb rfl) rfl) ?_
  refine TriD.c1 rfl (op_lenl (ltb rfl) un22 rfl) ?_
  refine TriD.c1 rfl (op_bin (ltb rfl) rfl rfl rfl) ?_
  refine TriD.c1 rfl (op_cutov (ltb rfl) ie22 rfl rfl rfl rfl (by omega) (by omega) (by omega)) ?_
  refine TriD.c1 rfl (op_mv (ltb rfl) rfl) ?_
  refine TriD.c1 rfl (op_nckl (ltb rfl) rfl) ?_
  refine TriD.c1 rfl (op_fal (ltb rfl) fo59_0 rfl) ?_
  refine TriD.c1 rfl (op_ldo (ltb rfl) lk22 rfl rfl rfl) ?_
  refine TriD.c1 rfl (op_mv (ltb rfl) rfl) ?_
  refine TriD.c1 rfl (op_mv (ltb rfl) rfl) ?_
  refine TriD.c1 rfl (op_cutov (ltb rfl) ie22 rfl rfl rfl rfl (by omega) (by omega) (by omega)) ?_
  refine TriD.c2 rfl (op_cpo (ltb rfl) ie22 rfl rfl rfl (by omega) (by omega)) ?_
  refine TriD.nil (by kernel_rfl) (Kept.now ?_)
  refine Tri.region ?_
  refine TriL.c1 rfl (op_mv (ltb rfl) rfl) ?_
  refine TriL.c1 rfl (op_nckl (ltb rfl) rfl) ?_
  refine TriL.c1 rfl (op_fal (ltb rfl) fo59_0 rfl) ?_
  refine TriL.c1 rfl (op_ldo (ltb rfl) lk22 rfl rfl rfl) ?_
  refine TriL.c1 rfl (op_mv (ltb rfl) rfl) ?_
  refine TriL.c1 rfl (op_cutov (ltb rfl) ie22 rfl rfl rfl rfl (by omega) (by omega) (by omega)) ?_
  refine TriL.c1 rfl (op_mv (ltb rfl) rfl) ?_
  refine TriL.c2 rfl (op_cpl (ltb rfl) ie22 rfl rfl rfl (okEls_bsl c) (Nat.le_trans (by omega) (splice_ge _ _ _))) ?_
  refine TriL.kept (Kept.cls 100 rfl rfl rfl rfl (Kept.now ?_))
  refine ⟨.inl rfl, ResOK.r0 rfl, ?_⟩
  have e : (H.del id).set id (wr (splice (splice (bsl b ++ bsl c) (IntKind.i64.wrap ((a : Int) + ((bsl c).length : Int))).toNat (((bsl b ++ bsl c).drop ((a : Nat) : Int).toNat).take (Nat.min (((bsl b).length : Int).toNat - ((a : Nat) : Int).toNat) (((bsl b ++ bsl c).length : Int).toNat - (IntKind.i64.wrap ((a : Int) + ((bsl c).length : Int))).toNat)))) ((a : Nat) : Int).toNat ((bsl c).take (Nat.min (bsl c).length (((bsl b ++ bsl c).length : Int).toNat - ((a : Nat) : Int).toNat)))) fs) = H.set id (wr (bsl (b.take a ++ c ++ b.drop a)) fs) := by
    rw [Hp.del_set]
    congr 2
    have q1 : Nat.min (bsl c).length (b.length + c.length - a) = (bsl c).length := Nat.min_eq_left (by omega)
    have q2 : b.length + c.length - (a + c.length) = b.length - a := by omega
    rw [hw, hap]
    simp only [Int.toNat_natCast]
    rw [q1, List.take_length, hb, q2]
    exact lay_eq b c a ha
  exact congrArg (fun h => some (CV.hp h)) e
end Go.Proofs.Ytecjdohpfijmpaa.X
