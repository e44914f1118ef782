/- emit: Open. -/
import Derived.Test.YtecjdohpfijmpaaE6
set_option linter.unusedVariables false
set_option linter.unusedSimpArgs false
namespace Go.Proofs.Ytecjdohpfijmpaa.X
open Go Go.RowKit Go.Proofs
def frm (n k : Int) : AV := .agg [.int .i64 n, .int .i64 k]
theorem open_run (H : Hp) (id : Nat) (n : Int) (b : List UInt8) (fs : List AV) (ho : H.obj id = some (wr (bsl b) fs)) (hr : rightok n 2 = true) (hl : fs.length ≤ 1048576) : Run Try.prog 17 [.op id 0, .int .i64 n] H (.bool true) (H.set id (wr (bsl b) (fs ++ [frm n (bsl b).length]))) := by
  refine Run.of_tri Try.func17 rfl rfl (ltb rfl) ?_
  refine Tri.seq ?_
  refine Tri.region ?_
  refine TriL.c1 rfl (op_as (ltb rfl) rfl) ?_
  refine TriL.nil ?_
  refine Tri.seq ?_
  refine Tri.seq ?_
  refine Tri.region ?_
  refine TriL.c1 rfl (op_mv (ltb rfl) rfl) ?_
  refine TriL.c2 rfl (op_callh (ltb rfl) fn40 rfl rfl (is_run H id _ _ ho)) ?_
  refine TriL.c1 rfl (op_un (ltb rfl) rfl rfl) ?_
  refine TriL.c1 rfl (op_mv (ltb rfl) rfl) ?_
  refine TriL.g1 rfl (ltb rfl) rfl rfl (op_mv (ltb rfl) rfl) ?_
  refine TriL.g1 rfl (ltb rfl) rfl rfl (op_call (ltb rfl) fn41 rfl (hr ▸ right_pure n 2)) ?_
  refine TriL.g1 rfl (ltb rfl) rfl rfl (op_un (ltb rfl) rfl rfl) ?_
  refine TriL.c1 rfl (op_pickf (ltb rfl) rfl rfl rfl) ?_
  refine TriL.nil ?_
  refine Tri.condF rfl rfl ?_
  refine Tri.skip ?_
  refine Tri.ofKept (Kept.opn 100 id 100 rfl ho rfl rfl (Kept.lp 0 100 rfl rfl (Kept.now ?_)))
  refine Tri.seq ?_
  refine Tri.drawn mixed rfl ?_
  refine TriD.c1 rfl (op_mv (ltb rfl) rfl) ?_
  refine TriD.c1 rfl (op_mv (ltb rfl) rfl) ?_
  refine TriD.c1 rfl (op_nckl (ltb rfl) rfl) ?_
  refine TriD.c1 rfl (op_fal (ltb rfl) fo59_1 rfl) ?_
  refine TriD.c1 rfl (op_ldo (ltb rfl) lk57 rfl rfl rfl) ?_
  refine TriD.c1 rfl (op_mv (ltb rfl) rfl) ?_
  refine TriD.c1 rfl (op_mv (ltb rfl) rfl) ?_
  refine TriD.c1 rfl (op_nckl (ltb rfl) rfl) ?_
  refine TriD.c1 rfl (op_fal (ltb rfl) fo59_0 rfl) ?_
  refine TriD.c1 rfl (op_ldo (ltb rfl) lk22 rfl rfl rfl) ?_
  refine TriD.c1 rfl (op_lenom (ltb rfl) un22 rfl) ?_
  refine TriD.c1 rfl (op_bld (ltb rfl) spl72 zAe57 rfl rfl) ?_
  refine TriD.c1 rfl (op_lit («as» := [frm n (bsl b).length]) (ltb rfl) se57 zAe57 rfl rfl rfl (leb rfl)) ?_
  refine TriD.c3 rfl (op_apm (ltb rfl) se57 rfl rfl rfl rfl rfl rfl (by simp only [List.length_cons, List.length_nil]; omega) (by simp only [List.length_cons, List.length_nil]; omega)) ?_
  refine TriD.c1 rfl (op_nckl (ltb rfl) rfl) ?_
  refine TriD.c1 rfl (op_fal (ltb rfl) fo59_1 rfl) ?_
  refine TriD.c1 rfl (op_sto lk57 rfl rfl rfl rfl rfl (leb rfl)) ?_
  refine TriD.nil (by kernel_rfl) (Kept.now ?_)
  refine Tri.seq ?_
  refine Tri.region ?_
  refine TriL.c1 rfl (op_as (ltb rfl) rfl) ?_
  refine TriL.kept (Kept.cls 100 rfl rfl rfl rfl (Kept.now ?_))
  refine Tri.ret ?_
  refine ⟨.inr rfl, ResOK.r1 rfl (.tmp rfl .nil), ?_⟩
  exact congrArg (fun h => some (CV.hp h)) (Hp.del_set H id _)
end Go.Proofs.Ytecjdohpfijmpaa.X
