/- bytes.Clone. -/
import Derived.Test.YtecjdohpfijmpaaE4
set_option linter.unusedVariables false
set_option linter.unusedSimpArgs false
namespace Go.Proofs.Ytecjdohpfijmpaa.X
open Go Go.RowKit Go.Proofs
theorem clone_pure (b : List UInt8) (hl : b.length ≤ 1073741824) : PureO Try.prog 46 [.sl (bsl b)] 5 1 (bsl b) := by
  have hb := bsl_len b
  refine PureO.of_tri Try.func46 rfl rfl (ltb rfl) rfl fun H => ?_
  refine Tri.seq ?_
  refine Tri.region ?_
  refine TriL.c1 rfl (op_as (ltb rfl) rfl) ?_
  refine TriL.nil ?_
  refine Tri.seq ?_
  refine Tri.seq ?_
  refine Tri.region ?_
  refine TriL.c1 rfl (op_mv (ltb rfl) rfl) ?_
  refine TriL.eqnil (ltb rfl) un22 rfl fun c hc => ?_
  refine TriL.nil ?_
  refine Tri.cond rfl (fun hc1 => ?_) (fun hc1 => ?_)
  · refine Tri.seq ?_
    refine Tri.region ?_
    refine TriL.c2 rfl (op_nilt (k := 50) (el := 5) (esz := 1) (c := 0) (ltb rfl) rfl (ltb rfl)) ?_
    refine TriL.nil ?_
    refine Tri.ret ?_
    rw [hc hc1]
    exact ⟨.inr rfl, ⟨50, rfl, rfl⟩, rfl⟩
  · refine Tri.skip ?_
    refine Tri.seq ?_
    refine Tri.region ?_
    refine TriL.c2 rfl (op_litt («as» := []) (ltb rfl) se22 zAe22 rfl rfl rfl (leb rfl) rfl) ?_
    refine TriL.c1 rfl (op_mv (ltb rfl) rfl) ?_
    refine TriL.c3 rfl (op_app (ltb rfl) se22 rfl rfl rfl (okEls_bsl b) rfl (by simp only [List.length_nil]; omega) (by simp only [List.length_nil]; omega)) ?_
    refine TriL.c1 rfl (op_as (ltb rfl) rfl) ?_
    refine TriL.nil ?_
    refine Tri.ret ?_
    exact ⟨.inr rfl, ⟨7, rfl, rfl⟩, rfl⟩
end Go.Proofs.Ytecjdohpfijmpaa.X
