/- emit: field, Varint, Fixed4, Fixed8, Text; what a writer that is none answers. -/
import Derived.Test.YtecjdohpfijmpaaE12
set_option linter.unusedVariables false
set_option linter.unusedSimpArgs false
namespace Go.Proofs.Ytecjdohpfijmpaa.X
open Go Go.RowKit Go.Proofs
theorem fn35 : isFn Try.prog 35 = true := by kernel_rfl
theorem fn42 : isFn Try.prog 42 = true := by kernel_rfl
theorem fn43 : isFn Try.prog 43 = true := by kernel_rfl
theorem fn44 : isFn Try.prog 44 = true := by kernel_rfl
theorem fn56 : isFn Try.prog 56 = true := by kernel_rfl
theorem fn57 : isFn Try.prog 57 = true := by kernel_rfl
theorem se54 : se Try.prog 54 = some (22, 1, 24) := by kernel_rfl
theorem zAe54 : zeroA Try.prog 22 = some [AV.sl []] := by kernel_rfl
theorem Hp.set_obj {H : Hp} {id : Nat} {cs : List Hc} : (H.set id cs).obj id = some cs := by simp [Hp.set]
theorem Hp.set_set {H : Hp} {id : Nat} {cs ds : List Hc} : (H.set id cs).set id ds = H.set id ds := by
  simp only [Hp.set]
  congr 1
  funext i
  split <;> rfl
theorem vput_pureO' {m : Int} {n : Nat} (e : m = n) (h : n < 18446744073709551616) : PureO Try.prog 43 [.int .u64 m] 5 1 (bsl (vput n)) := e ▸ vput_pureO n h
def deadw : List Hc := [.v .nsl, .v .nsl, .v (.bool false)]
theorem is_nil (H : Hp) : Run Try.prog 40 [.nilp] H (.bool false) H := by
  refine Run.of_tri Try.func40 rfl rfl (ltb rfl) ?_
  refine Tri.seq ?_
  refine Tri.region ?_
  refine TriL.c1 rfl (op_as (ltb rfl) rfl) ?_
  refine TriL.nil ?_
  refine Tri.seq ?_
  refine Tri.region ?_
  refine TriL.c1 rfl (op_mv (ltb rfl) rfl) ?_
  refine TriL.c1 rfl (op_nen (ltb rfl) pt31 rfl rfl) ?_
  refine TriL.c1 rfl (op_mv (ltb rfl) rfl) ?_
  refine TriL.skip rfl rfl (ltb rfl) rfl rfl ?_
  refine TriL.skip rfl rfl (ltb rfl) rfl rfl ?_
  refine TriL.skip rfl rfl (ltb rfl) rfl rfl ?_
  refine TriL.skip rfl rfl (ltb rfl) rfl rfl ?_
  refine TriL.c1 rfl (op_pickf (ltb rfl) rfl rfl rfl) ?_
  refine TriL.c1 rfl (op_as (ltb rfl) rfl) ?_
  refine TriL.nil ?_
  refine Tri.ret ?_
  exact ⟨.inr rfl, (ResOK.r1 rfl (.tmp rfl .nil)), rfl⟩
theorem is_dead (H : Hp) (id : Nat) (ho : H.obj id = some deadw) : Run Try.prog 40 [.op id 0] H (.bool false) H := by
  refine Run.of_tri Try.func40 rfl rfl (ltb rfl) ?_
  refine Tri.seq ?_
  refine Tri.region ?_
  refine TriL.c1 rfl (op_as (ltb rfl) rfl) ?_
  refine TriL.nil ?_
  refine Tri.seq ?_
  refine Tri.region ?_
  refine TriL.c1 rfl (op_mv (ltb rfl) rfl) ?_
  refine TriL.c1 rfl (op_nen (ltb rfl) pt31 rfl rfl) ?_
  refine TriL.c1 rfl (op_mv (ltb rfl) rfl) ?_
  refine TriL.g1 rfl (ltb rfl) rfl rfl (op_mv (ltb rfl) rfl) ?_
  refine TriL.g1 rfl (ltb rfl) rfl rfl (op_nckc (ltb rfl) rfl) ?_
  refine TriL.g1 rfl (ltb rfl) rfl rfl (op_fac (ltb rfl) fo59_2 rfl) ?_
  refine TriL.g1 rfl (ltb rfl) rfl rfl (op_ldc (ltb rfl) lk4 rfl rfl ho rfl) ?_
  refine TriL.c1 rfl (op_pickt (ltb rfl) rfl rfl rfl) ?_
  refine TriL.c1 rfl (op_as (ltb rfl) rfl) ?_
  refine TriL.nil ?_
  refine Tri.ret ?_
  exact ⟨.inr rfl, (ResOK.r1 rfl (.tmp rfl .nil)), rfl⟩
theorem plain_no (H : Hp) (p : AV) (ps : List (List UInt8)) (hi : Run Try.prog 40 [p] H (.bool false) H) : Run Try.prog 35 [p, .sl (sls ps)] H (.bool false) H := by
  refine Run.of_tri Try.func35 rfl rfl (ltb rfl) ?_
  refine Tri.seq ?_
  refine Tri.region ?_
  refine TriL.c1 rfl (op_as (ltb rfl) rfl) ?_
  refine TriL.nil ?_
  refine Tri.seq ?_
  refine Tri.seq ?_
  refine Tri.region ?_
  refine TriL.c1 rfl (op_mv (ltb rfl) rfl) ?_
  refine TriL.c2 rfl (op_callh (ltb rfl) fn40 rfl rfl hi) ?_
  refine TriL.c1 rfl (op_un (ltb rfl) rfl rfl) ?_
  refine TriL.nil ?_
  refine Tri.condT rfl rfl ?_
  refine Tri.seq ?_
  refine Tri.region ?_
  refine TriL.c1 rfl (op_as (ltb rfl) rfl) ?_
  refine TriL.nil ?_
  refine Tri.ret ?_
  exact ⟨.inr rfl, (ResOK.r1 rfl (.tmp rfl .nil)), rfl⟩
theorem field_bad (H : Hp) (p : AV) (n w : Int) (ps : List (List UInt8)) (hr : rightok n w = false) : Run Try.prog 42 [p, .int .i64 n, .int .i64 w, .sl (sls ps)] H (.bool false) H := by
  refine Run.of_tri Try.func42 rfl rfl (ltb rfl) ?_
  refine Tri.seq ?_
  refine Tri.region ?_
  refine TriL.c1 rfl (op_as (ltb rfl) rfl) ?_
  refine TriL.nil ?_
  refine Tri.seq ?_
  refine Tri.region ?_
  refine TriL.c1 rfl (op_mv (ltb rfl) rfl) ?_
  refine TriL.c1 rfl (op_mv (ltb rfl) rfl) ?_
  refine TriL.c1 rfl (op_call (ltb rfl) fn44 rfl (of_pure n w)) ?_
  refine TriL.c1 rfl (op_mv (ltb rfl) rfl) ?_
  refine TriL.c1 rfl (op_ext (ltb rfl) rfl rfl) ?_
  refine TriL.c1 rfl (op_ext (ltb rfl) rfl rfl) ?_
  refine TriL.c1 rfl (op_as (ltb rfl) rfl) ?_
  refine TriL.c1 rfl (op_as (ltb rfl) rfl) ?_
  refine TriL.nil ?_
  refine Tri.seq ?_
  refine Tri.region ?_
  refine TriL.c1 rfl (op_mv (ltb rfl) rfl) ?_
  refine TriL.c1 rfl (op_mv (ltb rfl) rfl) ?_
  refine TriL.skip rfl rfl (ltb rfl) rfl hr ?_
  refine TriL.skip rfl rfl (ltb rfl) rfl hr ?_
  refine TriL.skip rfl rfl (ltb rfl) rfl hr ?_
  refine TriL.skip rfl rfl (ltb rfl) rfl hr ?_
  refine TriL.skip rfl rfl (ltb rfl) rfl hr ?_
  refine TriL.c1 rfl (op_pickf (ltb rfl) rfl hr rfl) ?_
  refine TriL.c1 rfl (op_mv (ltb rfl) rfl) ?_
  refine TriL.skip rfl rfl (ltb rfl) rfl rfl ?_
  refine TriL.skip rfl rfl (ltb rfl) rfl rfl ?_
  refine TriL.skip rfl rfl (ltb rfl) rfl rfl ?_
  refine TriL.c1 rfl (op_pickf (ltb rfl) rfl rfl rfl) ?_
  refine TriL.c1 rfl (op_as (ltb rfl) rfl) ?_
  refine TriL.nil ?_
  refine Tri.ret ?_
  exact ⟨.inr rfl, (ResOK.r1 rfl (.tmp rfl .nil)), rfl⟩
theorem field_no (H : Hp) (p : AV) (n w : Int) (ps : List (List UInt8)) (hr : rightok n w = true) (hi : Run Try.prog 40 [p] H (.bool false) H) : Run Try.prog 42 [p, .int .i64 n, .int .i64 w, .sl (sls ps)] H (.bool false) H := by
  have hq := of_decide_eq_true hr
  refine Run.of_tri Try.func42 rfl rfl (ltb rfl) ?_
  refine Tri.seq ?_
  refine Tri.region ?_
  refine TriL.c1 rfl (op_as (ltb rfl) rfl) ?_
  refine TriL.nil ?_
  refine Tri.seq ?_
  refine Tri.region ?_
  refine TriL.c1 rfl (op_mv (ltb rfl) rfl) ?_
  refine TriL.c1 rfl (op_mv (ltb rfl) rfl) ?_
  refine TriL.c1 rfl (op_call (ltb rfl) fn44 rfl (of_pure n w)) ?_
  refine TriL.c1 rfl (op_mv (ltb rfl) rfl) ?_
  refine TriL.c1 rfl (op_ext (ltb rfl) rfl rfl) ?_
  refine TriL.c1 rfl (op_ext (ltb rfl) rfl rfl) ?_
  refine TriL.c1 rfl (op_as (ltb rfl) rfl) ?_
  refine TriL.c1 rfl (op_as (ltb rfl) rfl) ?_
  refine TriL.nil ?_
  refine Tri.seq ?_
  refine Tri.region ?_
  refine TriL.c1 rfl (op_mv (ltb rfl) rfl) ?_
  refine TriL.c1 rfl (op_mv (ltb rfl) rfl) ?_
  refine TriL.g1 rfl (ltb rfl) rfl hr (op_mv (ltb rfl) rfl) ?_
  refine TriL.g1 rfl (ltb rfl) rfl hr (op_mv (ltb rfl) rfl) ?_
  refine TriL.g2 rfl (ltb rfl) rfl hr (op_callo (ltb rfl) fn43 rfl (vput_pureO' (n := (8 * n + w).toNat) (by simp only [tagnum, hr, if_pos]; omega) (by omega)) rfl) ?_
  refine TriL.g1 rfl (ltb rfl) rfl hr (op_lit («as» := [_]) (ltb rfl) se54 zAe54 rfl rfl rfl (leb rfl)) ?_
  refine TriL.g2 rfl (ltb rfl) rfl hr (op_callh (ltb rfl) fn35 rfl rfl (plain_no H p [vput (8 * n + w).toNat] hi)) ?_
  refine TriL.c1 rfl (op_pickt (ltb rfl) rfl hr rfl) ?_
  refine TriL.c1 rfl (op_mv (ltb rfl) rfl) ?_
  refine TriL.skip rfl rfl (ltb rfl) rfl rfl ?_
  refine TriL.skip rfl rfl (ltb rfl) rfl rfl ?_
  refine TriL.skip rfl rfl (ltb rfl) rfl rfl ?_
  refine TriL.c1 rfl (op_pickf (ltb rfl) rfl rfl rfl) ?_
  refine TriL.c1 rfl (op_as (ltb rfl) rfl) ?_
  refine TriL.nil ?_
  refine Tri.ret ?_
  exact ⟨.inr rfl, (ResOK.r1 rfl (.tmp rfl .nil)), rfl⟩
theorem field_run (H : Hp) (id : Nat) (b : List UInt8) (fs : List AV) (n w : Int) (ps : List (List UInt8)) (ho : H.obj id = some (wr (bsl b) fs)) (hr : rightok n w = true) (hl : b.length + ps.flatten.length ≤ 1073741000) (hp : ps.length ≤ 1073741824) : Run Try.prog 42 [.op id 0, .int .i64 n, .int .i64 w, .sl (sls ps)] H (.bool true) (H.set id (wr (bsl (b ++ vput (8 * n + w).toNat ++ ps.flatten)) fs)) := by
  have hq := of_decide_eq_true hr
  have hm := vput_max (n := (8 * n + w).toNat) (by omega)
  refine Run.of_tri Try.func42 rfl rfl (ltb rfl) ?_
  refine Tri.seq ?_
  refine Tri.region ?_
  refine TriL.c1 rfl (op_as (ltb rfl) rfl) ?_
  refine TriL.nil ?_
  refine Tri.seq ?_
  refine Tri.region ?_
  refine TriL.c1 rfl (op_mv (ltb rfl) rfl) ?_
  refine TriL.c1 rfl (op_mv (ltb rfl) rfl) ?_
  refine TriL.c1 rfl (op_call (ltb rfl) fn44 rfl (of_pure n w)) ?_
  refine TriL.c1 rfl (op_mv (ltb rfl) rfl) ?_
  refine TriL.c1 rfl (op_ext (ltb rfl) rfl rfl) ?_
  refine TriL.c1 rfl (op_ext (ltb rfl) rfl rfl) ?_
  refine TriL.c1 rfl (op_as (ltb rfl) rfl) ?_
  refine TriL.c1 rfl (op_as (ltb rfl) rfl) ?_
  refine TriL.nil ?_
  refine Tri.seq ?_
  refine Tri.region ?_
  refine TriL.c1 rfl (op_mv (ltb rfl) rfl) ?_
  refine TriL.c1 rfl (op_mv (ltb rfl) rfl) ?_
  refine TriL.g1 rfl (ltb rfl) rfl hr (op_mv (ltb rfl) rfl) ?_
  refine TriL.g1 rfl (ltb rfl) rfl hr (op_mv (ltb rfl) rfl) ?_
  refine TriL.g2 rfl (ltb rfl) rfl hr (op_callo (ltb rfl) fn43 rfl (vput_pureO' (n := (8 * n + w).toNat) (by simp only [tagnum, hr, if_pos]; omega) (by omega)) rfl) ?_
  refine TriL.g1 rfl (ltb rfl) rfl hr (op_lit («as» := [_]) (ltb rfl) se54 zAe54 rfl rfl rfl (leb rfl)) ?_
  refine TriL.g2 rfl (ltb rfl) rfl hr (op_callh (ltb rfl) fn35 rfl rfl (plain_run H id b fs [vput (8 * n + w).toNat] ho (by simp only [List.flatten_cons, List.flatten_nil, List.append_nil]; omega) (by simp))) ?_
  refine TriL.c1 rfl (op_pickt (ltb rfl) rfl hr rfl) ?_
  refine TriL.c1 rfl (op_mv (ltb rfl) rfl) ?_
  refine TriL.g1 rfl (ltb rfl) rfl rfl (op_mv (ltb rfl) rfl) ?_
  refine TriL.g1 rfl (ltb rfl) rfl rfl (op_mv (ltb rfl) rfl) ?_
  refine TriL.g2 rfl (ltb rfl) rfl rfl (op_callh (ltb rfl) fn35 rfl rfl (plain_run _ id (b ++ [vput (8 * n + w).toNat].flatten) fs ps Hp.set_obj (by simp only [List.flatten_cons, List.flatten_nil, List.append_nil, List.length_append]; omega) hp)) ?_
  refine TriL.c1 rfl (op_pickt (ltb rfl) rfl rfl rfl) ?_
  refine TriL.c1 rfl (op_as (ltb rfl) rfl) ?_
  refine TriL.nil ?_
  refine Tri.ret ?_
  refine ⟨.inr rfl, ResOK.r1 rfl (.tmp rfl .nil), ?_⟩
  have e : (H.set id (wr (bsl (b ++ [vput (8 * n + w).toNat].flatten)) fs)).set id (wr (bsl (b ++ [vput (8 * n + w).toNat].flatten ++ ps.flatten)) fs) = H.set id (wr (bsl (b ++ vput (8 * n + w).toNat ++ ps.flatten)) fs) := by
    rw [Hp.set_set]; simp only [List.flatten_cons, List.flatten_nil, List.append_nil]
  exact congrArg (fun h => some (CV.hp h)) e
theorem varint_wrap (H H' : Hp) (p : AV) (n : Int) (x : Nat) (hx : x < 18446744073709551616) (c : Bool) (hf : Run Try.prog 42 [p, .int .i64 n, .int .i64 0, .sl (sls [vput x])] H (.bool c) H') : Run Try.prog 32 [p, .int .i64 n, .int .u64 (x : Int)] H (.bool c) H' := by
  refine Run.of_tri Try.func32 rfl rfl (ltb rfl) ?_
  refine Tri.seq ?_
  refine Tri.region ?_
  refine TriL.c1 rfl (op_as (ltb rfl) rfl) ?_
  refine TriL.nil ?_
  refine Tri.seq ?_
  refine Tri.region ?_
  refine TriL.c1 rfl (op_mv (ltb rfl) rfl) ?_
  refine TriL.c1 rfl (op_mv (ltb rfl) rfl) ?_
  refine TriL.c1 rfl (op_mv (ltb rfl) rfl) ?_
  refine TriL.c2 rfl (op_callo (ltb rfl) fn43 rfl (vput_pureO x hx) rfl) ?_
  refine TriL.c1 rfl (op_lit («as» := [_]) (ltb rfl) se54 zAe54 rfl rfl rfl (leb rfl)) ?_
  refine TriL.c2 rfl (op_callh (ltb rfl) fn42 rfl rfl hf) ?_
  refine TriL.c1 rfl (op_as (ltb rfl) rfl) ?_
  refine TriL.nil ?_
  refine Tri.ret ?_
  exact ⟨.inr rfl, (ResOK.r1 rfl (.tmp rfl .nil)), rfl⟩
theorem fixed4_wrap (H H' : Hp) (p : AV) (n : Int) (x : Nat) (hx : x < 4294967296) (c : Bool) (hf : Run Try.prog 42 [p, .int .i64 n, .int .i64 5, .sl (sls [fput x 4])] H (.bool c) H') : Run Try.prog 33 [p, .int .i64 n, .int .u32 (x : Int)] H (.bool c) H' := by
  refine Run.of_tri Try.func33 rfl rfl (ltb rfl) ?_
  refine Tri.seq ?_
  refine Tri.region ?_
  refine TriL.c1 rfl (op_as (ltb rfl) rfl) ?_
  refine TriL.nil ?_
  refine Tri.seq ?_
  refine Tri.region ?_
  refine TriL.c1 rfl (op_mv (ltb rfl) rfl) ?_
  refine TriL.c1 rfl (op_mv (ltb rfl) rfl) ?_
  refine TriL.c1 rfl (op_mv (ltb rfl) rfl) ?_
  refine TriL.c1 rfl (op_call (ltb rfl) fn56 rfl (put4_pure x hx)) ?_
  refine TriL.c1 rfl (op_lit («as» := [_]) (ltb rfl) se54 zAe54 rfl rfl rfl (leb rfl)) ?_
  refine TriL.c2 rfl (op_callh (ltb rfl) fn42 rfl rfl hf) ?_
  refine TriL.c1 rfl (op_as (ltb rfl) rfl) ?_
  refine TriL.nil ?_
  refine Tri.ret ?_
  exact ⟨.inr rfl, (ResOK.r1 rfl (.tmp rfl .nil)), rfl⟩
theorem fixed8_wrap (H H' : Hp) (p : AV) (n : Int) (x : Nat) (c : Bool) (hf : Run Try.prog 42 [p, .int .i64 n, .int .i64 1, .sl (sls [fput x 8])] H (.bool c) H') : Run Try.prog 34 [p, .int .i64 n, .int .u64 (x : Int)] H (.bool c) H' := by
  refine Run.of_tri Try.func34 rfl rfl (ltb rfl) ?_
  refine Tri.seq ?_
  refine Tri.region ?_
  refine TriL.c1 rfl (op_as (ltb rfl) rfl) ?_
  refine TriL.nil ?_
  refine Tri.seq ?_
  refine Tri.region ?_
  refine TriL.c1 rfl (op_mv (ltb rfl) rfl) ?_
  refine TriL.c1 rfl (op_mv (ltb rfl) rfl) ?_
  refine TriL.c1 rfl (op_mv (ltb rfl) rfl) ?_
  refine TriL.c1 rfl (op_call (ltb rfl) fn57 rfl (put8_pure x)) ?_
  refine TriL.c1 rfl (op_lit («as» := [_]) (ltb rfl) se54 zAe54 rfl rfl rfl (leb rfl)) ?_
  refine TriL.c2 rfl (op_callh (ltb rfl) fn42 rfl rfl hf) ?_
  refine TriL.c1 rfl (op_as (ltb rfl) rfl) ?_
  refine TriL.nil ?_
  refine Tri.ret ?_
  exact ⟨.inr rfl, (ResOK.r1 rfl (.tmp rfl .nil)), rfl⟩
theorem text_wrap (H H' : Hp) (p : AV) (n : Int) (x : List UInt8) (hx : x.length ≤ 1073741824) (c : Bool) (hf : Run Try.prog 42 [p, .int .i64 n, .int .i64 2, .sl (sls [vput x.length, x])] H (.bool c) H') : Run Try.prog 18 [p, .int .i64 n, .str x] H (.bool c) H' := by
  refine Run.of_tri Try.func18 rfl rfl (ltb rfl) ?_
  refine Tri.seq ?_
  refine Tri.region ?_
  refine TriL.c1 rfl (op_as (ltb rfl) rfl) ?_
  refine TriL.nil ?_
  refine Tri.seq ?_
  refine Tri.region ?_
  refine TriL.c1 rfl (op_mv (ltb rfl) rfl) ?_
  refine TriL.c1 rfl (op_mv (ltb rfl) rfl) ?_
  refine TriL.c1 rfl (op_mv (ltb rfl) rfl) ?_
  refine TriL.c1 rfl (op_lens (ltb rfl) un9 rfl) ?_
  refine TriL.c1 rfl (op_cvi (ltb rfl) un3 un50 rfl) ?_
  refine TriL.c2 rfl (op_callo (ltb rfl) fn43 rfl (vput_pureO' (n := x.length) (wru64 (by omega) (by omega)) (by omega)) rfl) ?_
  refine TriL.c1 rfl (op_mv (ltb rfl) rfl) ?_
  refine TriL.c1 rfl (op_s2b (ltb rfl) un9 un22 unel22 rfl) ?_
  refine TriL.c1 rfl (op_lit («as» := [_, _]) (ltb rfl) se54 zAe54 rfl rfl rfl (leb rfl)) ?_
  refine TriL.c2 rfl (op_callh (ltb rfl) fn42 rfl rfl hf) ?_
  refine TriL.c1 rfl (op_as (ltb rfl) rfl) ?_
  refine TriL.nil ?_
  refine Tri.ret ?_
  exact ⟨.inr rfl, (ResOK.r1 rfl (.tmp rfl .nil)), rfl⟩
theorem open_no (H : Hp) (p : AV) (n : Int) (hi : Run Try.prog 40 [p] H (.bool false) H) : Run Try.prog 17 [p, .int .i64 n] H (.bool false) H := by
  refine Run.of_tri Try.func17 rfl rfl (ltb rfl) ?_
  refine Tri.seq ?_
  refine Tri.region ?_
  refine TriL.c1 rfl (op_as (ltb rfl) rfl) ?_
  refine TriL.nil ?_
  refine Tri.seq ?_
  refine Tri.seq ?_
  refine Tri.region ?_
  refine TriL.c1 rfl (op_mv (ltb rfl) rfl) ?_
  refine TriL.c2 rfl (op_callh (ltb rfl) fn40 rfl rfl hi) ?_
  refine TriL.c1 rfl (op_un (ltb rfl) rfl rfl) ?_
  refine TriL.c1 rfl (op_mv (ltb rfl) rfl) ?_
  refine TriL.skip rfl rfl (ltb rfl) rfl rfl ?_
  refine TriL.skip rfl rfl (ltb rfl) rfl rfl ?_
  refine TriL.skip rfl rfl (ltb rfl) rfl rfl ?_
  refine TriL.c1 rfl (op_pickt (ltb rfl) rfl rfl rfl) ?_
  refine TriL.nil ?_
  refine Tri.condT rfl rfl ?_
  refine Tri.seq ?_
  refine Tri.region ?_
  refine TriL.c1 rfl (op_as (ltb rfl) rfl) ?_
  refine TriL.nil ?_
  refine Tri.ret ?_
  exact ⟨.inr rfl, (ResOK.r1 rfl (.tmp rfl .nil)), rfl⟩
theorem open_bad (H : Hp) (p : AV) (n : Int) (hi : Run Try.prog 40 [p] H (.bool true) H) (hr : rightok n 2 = false) : Run Try.prog 17 [p, .int .i64 n] H (.bool false) H := by
  refine Run.of_tri Try.func17 rfl rfl (ltb rfl) ?_
  refine Tri.seq ?_
  refine Tri.region ?_
  refine TriL.c1 rfl (op_as (ltb rfl) rfl) ?_
  refine TriL.nil ?_
  refine Tri.seq ?_
  refine Tri.seq ?_
  refine Tri.region ?_
  refine TriL.c1 rfl (op_mv (ltb rfl) rfl) ?_
  refine TriL.c2 rfl (op_callh (ltb rfl) fn40 rfl rfl hi) ?_
  refine TriL.c1 rfl (op_un (ltb rfl) rfl rfl) ?_
  refine TriL.c1 rfl (op_mv (ltb rfl) rfl) ?_
  refine TriL.g1 rfl (ltb rfl) rfl rfl (op_mv (ltb rfl) rfl) ?_
  refine TriL.g1 rfl (ltb rfl) rfl rfl (op_call (ltb rfl) fn41 rfl (hr ▸ right_pure n 2)) ?_
  refine TriL.g1 rfl (ltb rfl) rfl rfl (op_un (ltb rfl) rfl rfl) ?_
  refine TriL.c1 rfl (op_pickf (ltb rfl) rfl rfl rfl) ?_
  refine TriL.nil ?_
  refine Tri.condT rfl rfl ?_
  refine Tri.seq ?_
  refine Tri.region ?_
  refine TriL.c1 rfl (op_as (ltb rfl) rfl) ?_
  refine TriL.nil ?_
  refine Tri.ret ?_
  exact ⟨.inr rfl, (ResOK.r1 rfl (.tmp rfl .nil)), rfl⟩
theorem close_no (H : Hp) (p : AV) (hi : Run Try.prog 40 [p] H (.bool false) H) : Run Try.prog 19 [p] H (.bool false) H := by
  refine Run.of_tri Try.func19 rfl rfl (ltb rfl) ?_
  refine Tri.seq ?_
  refine Tri.region ?_
  refine TriL.c1 rfl (op_as (ltb rfl) rfl) ?_
  refine TriL.nil ?_
  refine Tri.seq ?_
  refine Tri.seq ?_
  refine Tri.region ?_
  refine TriL.c1 rfl (op_mv (ltb rfl) rfl) ?_
  refine TriL.c2 rfl (op_callh (ltb rfl) fn40 rfl rfl hi) ?_
  refine TriL.c1 rfl (op_un (ltb rfl) rfl rfl) ?_
  refine TriL.c1 rfl (op_mv (ltb rfl) rfl) ?_
  refine TriL.skip rfl rfl (ltb rfl) rfl rfl ?_
  refine TriL.skip rfl rfl (ltb rfl) rfl rfl ?_
  refine TriL.skip rfl rfl (ltb rfl) rfl rfl ?_
  refine TriL.skip rfl rfl (ltb rfl) rfl rfl ?_
  refine TriL.skip rfl rfl (ltb rfl) rfl rfl ?_
  refine TriL.skip rfl rfl (ltb rfl) rfl rfl ?_
  refine TriL.c1 rfl (op_pickt (ltb rfl) rfl rfl rfl) ?_
  refine TriL.nil ?_
  refine Tri.condT rfl rfl ?_
  refine Tri.seq ?_
  refine Tri.region ?_
  refine TriL.c1 rfl (op_as (ltb rfl) rfl) ?_
  refine TriL.nil ?_
  refine Tri.ret ?_
  exact ⟨.inr rfl, (ResOK.r1 rfl (.tmp rfl .nil)), rfl⟩
theorem close_bad (H : Hp) (id : Nat) (b : List UInt8) (ho : H.obj id = some (wr (bsl b) [])) (hi : Run Try.prog 40 [.op id 0] H (.bool true) H) : Run Try.prog 19 [.op id 0] H (.bool false) H := by
  refine Run.of_tri Try.func19 rfl rfl (ltb rfl) ?_
  refine Tri.seq ?_
  refine Tri.region ?_
  refine TriL.c1 rfl (op_as (ltb rfl) rfl) ?_
  refine TriL.nil ?_
  refine Tri.seq ?_
  refine Tri.seq ?_
  refine Tri.region ?_
  refine TriL.c1 rfl (op_mv (ltb rfl) rfl) ?_
  refine TriL.c2 rfl (op_callh (ltb rfl) fn40 rfl rfl hi) ?_
  refine TriL.c1 rfl (op_un (ltb rfl) rfl rfl) ?_
  refine TriL.c1 rfl (op_mv (ltb rfl) rfl) ?_
  refine TriL.g1 rfl (ltb rfl) rfl rfl (op_mv (ltb rfl) rfl) ?_
  refine TriL.g1 rfl (ltb rfl) rfl rfl (op_nckc (ltb rfl) rfl) ?_
  refine TriL.g1 rfl (ltb rfl) rfl rfl (op_fac (ltb rfl) fo59_1 rfl) ?_
  refine TriL.g1 rfl (ltb rfl) rfl rfl (op_ldc (ltb rfl) lk57 rfl rfl ho rfl) ?_
  refine TriL.g1 rfl (ltb rfl) rfl rfl (op_lensl (ltb rfl) un57 rfl) ?_
  refine TriL.g1 rfl (ltb rfl) rfl rfl (op_bin (ltb rfl) rfl rfl rfl) ?_
  refine TriL.c1 rfl (op_pickf (ltb rfl) rfl rfl rfl) ?_
  refine TriL.nil ?_
  refine Tri.condT rfl rfl ?_
  refine Tri.seq ?_
  refine Tri.region ?_
  refine TriL.c1 rfl (op_as (ltb rfl) rfl) ?_
  refine TriL.nil ?_
  refine Tri.ret ?_
  exact ⟨.inr rfl, (ResOK.r1 rfl (.tmp rfl .nil)), rfl⟩
theorem len_no (H : Hp) (p : AV) (hi : Run Try.prog 40 [p] H (.bool false) H) : Run Try.prog 29 [p] H (.int .i64 0) H := by
  refine Run.of_tri Try.func29 rfl rfl (ltb rfl) ?_
  refine Tri.seq ?_
  refine Tri.region ?_
  refine TriL.c1 rfl (op_as (ltb rfl) rfl) ?_
  refine TriL.nil ?_
  refine Tri.seq ?_
  refine Tri.seq ?_
  refine Tri.region ?_
  refine TriL.c1 rfl (op_mv (ltb rfl) rfl) ?_
  refine TriL.c2 rfl (op_callh (ltb rfl) fn40 rfl rfl hi) ?_
  refine TriL.c1 rfl (op_un (ltb rfl) rfl rfl) ?_
  refine TriL.nil ?_
  refine Tri.condT rfl rfl ?_
  refine Tri.seq ?_
  refine Tri.region ?_
  refine TriL.c1 rfl (op_as (ltb rfl) rfl) ?_
  refine TriL.nil ?_
  refine Tri.ret ?_
  exact ⟨.inr rfl, (ResOK.r1 rfl (.tmp rfl .nil)), rfl⟩
theorem deep_no (H : Hp) (p : AV) (hi : Run Try.prog 40 [p] H (.bool false) H) : Run Try.prog 31 [p] H (.int .i64 0) H := by
  refine Run.of_tri Try.func31 rfl rfl (ltb rfl) ?_
  refine Tri.seq ?_
  refine Tri.region ?_
  refine TriL.c1 rfl (op_as (ltb rfl) rfl) ?_
  refine TriL.nil ?_
  refine Tri.seq ?_
  refine Tri.seq ?_
  refine Tri.region ?_
  refine TriL.c1 rfl (op_mv (ltb rfl) rfl) ?_
  refine TriL.c2 rfl (op_callh (ltb rfl) fn40 rfl rfl hi) ?_
  refine TriL.c1 rfl (op_un (ltb rfl) rfl rfl) ?_
  refine TriL.nil ?_
  refine Tri.condT rfl rfl ?_
  refine Tri.seq ?_
  refine Tri.region ?_
  refine TriL.c1 rfl (op_as (ltb rfl) rfl) ?_
  refine TriL.nil ?_
  refine Tri.ret ?_
  exact ⟨.inr rfl, (ResOK.r1 rfl (.tmp rfl .nil)), rfl⟩
theorem bytes_no (H : Hp) (p : AV) (hi : Run Try.prog 40 [p] H (.bool false) H) : Run Try.prog 21 [p] H (.sl []) H := by
  refine Run.of_tri Try.func21 rfl rfl (ltb rfl) ?_
  refine Tri.seq ?_
  refine Tri.region ?_
  refine TriL.c1 rfl (op_as (ltb rfl) rfl) ?_
  refine TriL.nil ?_
  refine Tri.seq ?_
  refine Tri.seq ?_
  refine Tri.region ?_
  refine TriL.c1 rfl (op_mv (ltb rfl) rfl) ?_
  refine TriL.c2 rfl (op_callh (ltb rfl) fn31 rfl rfl (deep_no H p hi)) ?_
  refine TriL.c1 rfl (op_bin (ltb rfl) rfl rfl rfl) ?_
  refine TriL.c1 rfl (op_mv (ltb rfl) rfl) ?_
  refine TriL.g1 rfl (ltb rfl) rfl rfl (op_mv (ltb rfl) rfl) ?_
  refine TriL.g2 rfl (ltb rfl) rfl rfl (op_callh (ltb rfl) fn40 rfl rfl hi) ?_
  refine TriL.g1 rfl (ltb rfl) rfl rfl (op_un (ltb rfl) rfl rfl) ?_
  refine TriL.c1 rfl (op_pickf (ltb rfl) rfl rfl rfl) ?_
  refine TriL.nil ?_
  refine Tri.condT rfl rfl ?_
  refine Tri.seq ?_
  refine Tri.region ?_
  refine TriL.c1 rfl (op_as (ltb rfl) rfl) ?_
  refine TriL.nil ?_
  refine Tri.ret ?_
  exact ⟨.inr rfl, (ResOK.r1 rfl (.tmp rfl .nil)), rfl⟩
theorem bytes_bad (H : Hp) (id : Nat) (b fs : List AV) (ho : H.obj id = some (wr b fs)) (hf : 0 < fs.length) : Run Try.prog 21 [.op id 0] H (.sl []) H := by
  refine Run.of_tri Try.func21 rfl rfl (ltb rfl) ?_
  refine Tri.seq ?_
  refine Tri.region ?_
  refine TriL.c1 rfl (op_as (ltb rfl) rfl) ?_
  refine TriL.nil ?_
  refine Tri.seq ?_
  refine Tri.seq ?_
  refine Tri.region ?_
  refine TriL.c1 rfl (op_mv (ltb rfl) rfl) ?_
  refine TriL.c2 rfl (op_callh (ltb rfl) fn31 rfl rfl (deep_run H id _ _ ho)) ?_
  refine TriL.c1 rfl (op_bin (ltb rfl) rfl rfl rfl) ?_
  refine TriL.c1 rfl (op_mv (ltb rfl) rfl) ?_
  refine TriL.skip rfl rfl (ltb rfl) rfl (decide_eq_true (by omega)) ?_
  refine TriL.skip rfl rfl (ltb rfl) rfl (decide_eq_true (by omega)) ?_
  refine TriL.skip rfl rfl (ltb rfl) rfl (decide_eq_true (by omega)) ?_
  refine TriL.c1 rfl (op_pickt (ltb rfl) rfl (decide_eq_true (by omega)) rfl) ?_
  refine TriL.nil ?_
  refine Tri.condT rfl rfl ?_
  refine Tri.seq ?_
  refine Tri.region ?_
  refine TriL.c1 rfl (op_as (ltb rfl) rfl) ?_
  refine TriL.nil ?_
  refine Tri.ret ?_
  exact ⟨.inr rfl, (ResOK.r1 rfl (.tmp rfl .nil)), rfl⟩
end Go.Proofs.Ytecjdohpfijmpaa.X
