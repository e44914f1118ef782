/- emit: Close. -/
import Derived.Test.YtecjdohpfijmpaaE13
set_option linter.unusedVariables false
set_option linter.unusedSimpArgs false
namespace Go.Proofs.Ytecjdohpfijmpaa.X
open Go Go.RowKit Go.Proofs
theorem fn45 : isFn Try.prog 45 = true := by kernel_rfl
theorem fo72_0 : fo Try.prog 72 0 = some 0 := by kernel_rfl
theorem fo72_1 : fo Try.prog 72 1 = some 1 := by kernel_rfl
theorem ie57 : ie Try.prog 57 = some 2 := by kernel_rfl
theorem lk3 : lk Try.prog 3 = some (false, 1) := by kernel_rfl
theorem lk72 : lk Try.prog 72 = some (true, 2) := by kernel_rfl
theorem zA72 : zeroA Try.prog 72 = some [AV.int IntKind.i64 (0), AV.int IntKind.i64 (0)] := by kernel_rfl
/-- a frame that is closed: its tag, its length, then what is in it -/
def shut (b : List UInt8) (n : Int) (k : Nat) : List UInt8 := b.take k ++ (vput (8 * n + 2).toNat ++ vput (b.length - k)) ++ b.drop k
theorem okEls_bsl' (b : List UInt8) : okEls 1 (bsl b) = true := okEls_bsl b
theorem fm_frm (fs : List AV) (h : ∀ f ∈ fs, ∃ a b, f = frm a b) (n k : Int) : (((fs ++ [frm n k]).flatMap AV.cells).drop (fs.length * 2)) = [.int .i64 n, .int .i64 k] := by
  have hl : (fs.flatMap AV.cells).length = fs.length * 2 := flat_len fun e he => by obtain ⟨a, b, rfl⟩ := h e he; rfl
  rw [List.flatMap_append, List.drop_append_of_le_length (by omega), List.drop_of_length_le (by omega)]; rfl
theorem close_run (H : Hp) (id : Nat) (b : List UInt8) (fs : List AV) (n : Int) (k : Nat) (ho : H.obj id = some (wr (bsl b) (fs ++ [frm n k]))) (hfs : ∀ f ∈ fs, ∃ a b, f = frm a b) (hr : rightok n 2 = true) (hk : k ≤ b.length) (hl : b.length ≤ 1073741000) (hf : fs.length ≤ 1048576) :
    Run Try.prog 19 [.op id 0] H (.bool true) (H.set id (wr (bsl (shut b n k)) fs)) := by
  have hq := of_decide_eq_true hr
  have hm1 := vput_max (n := (8 * n + 2).toNat) (by omega)
  have hm2 := vput_max (n := b.length - k) (by omega)
  have hlen : (fs ++ [frm n k]).length = fs.length + 1 := by simp
  have hz : ((((fs ++ [frm n k]).length : Nat) : Int) == 0) = false := by rw [hlen]; simp; omega
  have hn1 : IntKind.i64.wrap ((((fs ++ [frm n k]).length : Nat) : Int) - 1) = (fs.length : Int) := by rw [hlen, wr64] <;> omega
  have hnn : ((fs.length : Nat) : Int).toNat = fs.length := rfl
  have hfr : List.take (IntKind.i64.wrap ((((fs ++ [frm n k]).length : Nat) : Int) - 1)).toNat (fs ++ [frm n k]) = fs := by rw [hn1, hnn, List.take_append_of_le_length (by omega), List.take_length]
  have hbl := bsl_len b
  have hw2 : IntKind.u64.wrap (IntKind.i64.wrap (((bsl b).length : Int) - (k : Int))) = ((b.length - k : Nat) : Int) := by rw [hbl, wr64 (by omega) (by omega), wru64 (by omega) (by omega)]; omega
  refine Run.of_tri Try.func19 rfl rfl (ltb rfl) ?_
  refine Tri.seq ?_
  refine Tri.region ?_
  refine TriL.c1 rfl (op_as (ltb rfl) rfl) ?_
  refine TriL.nil ?_
  refine Tri.seq ?_
  refine Tri.seq ?_
  refine Tri.region ?_
  refine TriL.c1 rfl (op_mv (ltb rfl) rfl) ?_
  refine TriL.c2 rfl (op_callh (ltb rfl) fn40 rfl rfl (is_run H id _ _ ho)) ?_
  refine TriL.c1 rfl (op_un (ltb rfl) rfl rfl) ?_
  refine TriL.c1 rfl (op_mv (ltb rfl) rfl) ?_
  refine TriL.g1 rfl (ltb rfl) rfl rfl (op_mv (ltb rfl) rfl) ?_
  refine TriL.g1 rfl (ltb rfl) rfl rfl (op_nckc (ltb rfl) rfl) ?_
  refine TriL.g1 rfl (ltb rfl) rfl rfl (op_fac (ltb rfl) fo59_1 rfl) ?_
  refine TriL.g1 rfl (ltb rfl) rfl rfl (op_ldc (ltb rfl) lk57 rfl rfl ho rfl) ?_
  refine TriL.g1 rfl (ltb rfl) rfl rfl (op_lensl (ltb rfl) un57 rfl) ?_
  refine TriL.g1 rfl (ltb rfl) rfl rfl (op_bin (ltb rfl) rfl rfl rfl) ?_
  refine TriL.c1 rfl (op_pickf (ltb rfl) rfl rfl rfl) ?_
  refine TriL.nil ?_
  refine Tri.condF rfl (hz) ?_
  refine Tri.skip ?_
  refine Tri.seq ?_
  refine Tri.ofKept (Kept.opn 100 id 100 rfl ho rfl rfl (Kept.lp 0 100 rfl rfl (Kept.now ?_)))
  refine Tri.drawn mixed rfl ?_
  refine TriD.c1 rfl (op_mv (ltb rfl) rfl) ?_
  refine TriD.c1 rfl (op_nckl (ltb rfl) rfl) ?_
  refine TriD.c1 rfl (op_fal (ltb rfl) fo59_1 rfl) ?_
  refine TriD.c1 rfl (op_ldo (ltb rfl) lk57 rfl rfl rfl) ?_
  refine TriD.c1 rfl (op_mv (ltb rfl) rfl) ?_
  refine TriD.c1 rfl (op_nckl (ltb rfl) rfl) ?_
  refine TriD.c1 rfl (op_fal (ltb rfl) fo59_1 rfl) ?_
  refine TriD.c1 rfl (op_ldo (ltb rfl) lk57 rfl rfl rfl) ?_
  refine TriD.c1 rfl (op_lenom (ltb rfl) un57 rfl) ?_
  refine TriD.c1 rfl (op_bin (ltb rfl) rfl rfl rfl) ?_
  refine TriD.c1 rfl (op_iam (ltb rfl) ie57 rfl rfl rfl (by rw [hn1]; omega) (by rw [hn1]; omega)) ?_
  refine TriD.c1 rfl (op_ldt (ltb rfl) lk72 rfl rfl (by rw [hn1, hnn, fm_frm fs hfs]; rfl)) ?_
  refine TriD.c2 rfl (op_all (ltb rfl) zA72 rfl) ?_
  refine TriD.c1 rfl (op_stl lk72 rfl rfl rfl rfl rfl (leb rfl)) ?_
  refine TriD.nil (by kernel_rfl) (Kept.now ?_)
  refine Tri.seq ?_
  refine Tri.drawn mixed rfl ?_
  refine TriD.c1 rfl (op_mv (ltb rfl) rfl) ?_
  refine TriD.c1 rfl (op_mv (ltb rfl) rfl) ?_
  refine TriD.c1 rfl (op_nckl (ltb rfl) rfl) ?_
  refine TriD.c1 rfl (op_fal (ltb rfl) fo59_1 rfl) ?_
  refine TriD.c1 rfl (op_ldo (ltb rfl) lk57 rfl rfl rfl) ?_
  refine TriD.c1 rfl (op_mv (ltb rfl) rfl) ?_
  refine TriD.c1 rfl (op_nckl (ltb rfl) rfl) ?_
  refine TriD.c1 rfl (op_fal (ltb rfl) fo59_1 rfl) ?_
  refine TriD.c1 rfl (op_ldo (ltb rfl) lk57 rfl rfl rfl) ?_
  refine TriD.c1 rfl (op_lenom (ltb rfl) un57 rfl) ?_
  refine TriD.c1 rfl (op_bin (ltb rfl) rfl rfl rfl) ?_
  refine TriD.c3 rfl (op_cutom (ltb rfl) ie57 rfl rfl rfl rfl (by rw [hn1]; omega) (by rw [hn1]; omega) rfl) ?_
  refine TriD.c1 rfl (op_nckl (ltb rfl) rfl) ?_
  refine TriD.c1 rfl (op_fal (ltb rfl) fo59_1 rfl) ?_
  refine TriD.c1 rfl (op_sto lk57 rfl rfl rfl rfl rfl (leb rfl)) ?_
  refine TriD.nil (by kernel_rfl) (Kept.op 0 rfl rfl (Kept.cls 100 rfl rfl rfl rfl (Kept.now ?_)))
  rw [hfr, Hp.del_set]
  refine Tri.seq ?_  -- region 5 emit.go:84
  refine Tri.region ?_
  refine TriL.c1 rfl (op_fal (ltb rfl) fo72_0 rfl) ?_
  refine TriL.c1 rfl (op_ldl (ltb rfl) lk3 rfl rfl rfl) ?_
  refine TriL.c1 rfl (op_call (ltb rfl) fn44 rfl (of_pure n 2)) ?_
  refine TriL.c1 rfl (op_mv (ltb rfl) rfl) ?_
  refine TriL.c1 rfl (op_ext (ltb rfl) rfl rfl) ?_
  refine TriL.c1 rfl (op_ext (ltb rfl) rfl rfl) ?_
  refine TriL.c1 rfl (op_as (ltb rfl) rfl) ?_
  refine TriL.c1 rfl (op_as (ltb rfl) rfl) ?_
  refine TriL.nil ?_
  refine Tri.seq ?_
  refine Tri.drawn mixed rfl ?_
  refine TriD.c1 rfl (op_mv (ltb rfl) rfl) ?_
  refine TriD.c1 rfl (op_fal (ltb rfl) fo72_1 rfl) ?_
  refine TriD.c1 rfl (op_ldl (ltb rfl) lk3 rfl rfl rfl) ?_
  refine TriD.c1 rfl (op_mv (ltb rfl) rfl) ?_
  refine TriD.c2 rfl (op_callo (ltb rfl) fn43 rfl (vput_pureO' (n := (8 * n + 2).toNat) (by simp only [tagnum, hr, if_pos]; omega) (by omega)) rfl) ?_
  refine TriD.c1 rfl (op_mv (ltb rfl) rfl) ?_
  refine TriD.c1 rfl (op_nckc (ltb rfl) rfl) ?_
  refine TriD.c1 rfl (op_fac (ltb rfl) fo59_0 rfl) ?_
  refine TriD.c1 rfl (op_ldc (ltb rfl) lk22 rfl rfl Hp.set_obj rfl) ?_
  refine TriD.c1 rfl (op_lensl (ltb rfl) un22 rfl) ?_
  refine TriD.c1 rfl (op_fal (ltb rfl) fo72_1 rfl) ?_
  refine TriD.c1 rfl (op_ldl (ltb rfl) lk3 rfl rfl rfl) ?_
  refine TriD.c1 rfl (op_bin (ltb rfl) rfl rfl rfl) ?_
  refine TriD.c1 rfl (op_cvi (ltb rfl) un3 un50 rfl) ?_
  refine TriD.c2 rfl (op_callo (ltb rfl) fn43 rfl (vput_pureO' (n := b.length - k) hw2 (by omega)) rfl) ?_
  refine TriD.c3 rfl (op_app (ltb rfl) se22 rfl rfl rfl (okEls_bsl _) rfl (by rw [bsl_len, bsl_len]; omega) (by rw [bsl_len, bsl_len]; omega)) ?_
  rw [← bsl_app]
  refine TriD.c2 rfl (op_callh (ltb rfl) fn45 rfl rfl (lay_run (H.set id (wr (bsl b) fs)) id k b (vput (8 * n + 2).toNat ++ vput (b.length - k)) fs Hp.set_obj hk (by rw [List.length_append]; omega))) ?_
  refine TriD.nil (by kernel_rfl) (Kept.now ?_)
  refine Tri.seq ?_
  refine Tri.region ?_
  refine TriL.c1 rfl (op_as (ltb rfl) rfl) ?_
  refine TriL.nil ?_
  refine Tri.ret ?_
  refine ⟨.inr rfl, ResOK.r1 rfl (.tmp rfl .nil), ?_⟩
  have e : (H.set id (wr (bsl b) fs)).set id (wr (bsl (shut b n k)) fs) = H.set id (wr (bsl (shut b n k)) fs) := Hp.set_set
  exact congrArg (fun h => some (CV.hp h)) e
end Go.Proofs.Ytecjdohpfijmpaa.X
