/- emit: field, Varint, Fixed4, Fixed8, Text; what a writer that is none answers. -/
import Derived.Test.YtecjdohpfijmpaaYE
import Derived.Test.YtecjdohpfijmpaaYB
set_option linter.unusedVariables false
set_option linter.unusedSimpArgs false
namespace Go.Proofs.Ytecjdohpfijmpaa.X
open Go Go.RowKit Go.Proofs
theorem fn35 : isFn Try.prog 35 = true := by kernel_rfl
theorem fn42 : isFn Try.prog 42 = true := by kernel_rfl
theorem fn43 : isFn Try.prog 43 = true := by kernel_rfl
theorem fn44 : isFn Try.prog 44 = true := by kernel_rfl
theorem fn56 : isFn Try.prog 56 = true := by kernel_rfl
theorem fn57 : isFn Try.prog 57 = true := by kernel_rfl
theorem se54 : se Try.prog 54 = some (22, 1, 24) := by kernel_rfl
theorem zAe54 : zeroA Try.prog 22 = some [AV.sl []] := by kernel_rfl
theorem Hp.set_obj {H : Hp} {id : Nat} {cs : List Hc} : (H.set id cs).obj id = some cs := by simp [Hp.set]
theorem Hp.set_set {H : Hp} {id : Nat} {cs ds : List Hc} : (H.set id cs).set id ds = H.set id ds := by
  simp only [Hp.set]
  congr 1
  funext i
  split <;> rfl
theorem vput_pureO' {m : Int} {n : Nat} (e : m = n) (h : n < 18446744073709551616) : PureO Try.prog 43 [.int .u64 m] 5 1 (bsl (vput n)) := e ▸ vput_pureO n h
def deadw : List Hc := [.v .nsl, .v .nsl, .v (.bool false)]
theorem is_nil (H : Hp) : Run Try.prog 40 [.nilp] H (.bool false) H := by
  refine Run.of_tri Try.func40 rfl rfl (ltb rfl) ?_
  refine Tri.seq ?_
  refine Tri.region ?_
  refine TriL.c1 rfl (op_as (ltb rfl) rfl) ?_
  refine TriL.nil ?_
  refine Tri.seq ?_
  refine Tri.region ?_
  refine TriL.c1 rfl (op_mv (ltb rfl) rfl) ?_
  refine TriL.c1 rfl (op_nen (ltb rfl) pt31 rfl rfl) ?_
  refine TriL.c1 rfl (op_mv (ltb rfl) rfl) ?_
  refine TriL.skip rfl rfl (ltb rfl) rfl rfl ?_
  refine TriL.skip rfl rfl (ltb rfl) rfl rfl ?_
  refine TriL.skip rfl rfl (ltb rfl) rfl rfl ?_
  refine TriL.skip rfl rfl (ltb rfl) rfl rfl ?_
  refine TriL.c1 rfl (op_pickf (ltb rfl) rfl rfl rfl) ?_
  refine TriL.c1 rfl (op_as (ltb rfl) rfl) ?_
  refine TriL.nil ?_
  refine Tri.ret ?_
  exact ⟨.inr rfl, (ResOK.r1 rfl (.tmp rfl .nil)), rfl⟩
theorem is_dead (H : Hp) (id : Nat) (ho : H.obj id = some deadw) : Run Try.prog 40 [.op id 0] H (.bool false) H := by
  refine Run.of_tri Try.func40 rfl rfl (ltb rfl) ?_
  refine Tri.seq ?_
  refine Tri.region ?_
  refine TriL.c1 rfl (op_as (ltb rfl) rfl) ?_
  refine TriL.nil ?_
  refine Tri.seq ?_
  refine Tri.region ?_
  refine TriL.c1 rfl (op_mv (ltb rfl) rfl) ?_
  refine TriL.c1 rfl (op_nen (ltb rfl) pt31 rfl rfl) ?_
  refine TriL.c1 rfl (op_mv (ltb rfl) rfl) ?_
  refine TriL.g1 rfl (ltb rfl) rfl rfl (op_mv (ltb rfl) rfl) ?_
  refine TriL.g1 rfl (ltb rfl) rfl rfl (op_nckc (ltb rfl) rfl) ?_
  refine TriL.g1 rfl (ltb rfl) rfl rfl (op_fac (ltb rfl) fo59_2 rfl) ?_
  refine TriL.g1 rfl (ltb rfl) rfl rfl (op_ldc (ltb rfl) lk4 rfl rfl ho rfl) ?_
  refine TriL.c1 rfl (op_pickt (ltb rfl) rfl rfl rfl) ?_
  refine TriL.c1 rfl (op_as (ltb rfl) rfl) ?_
  refine TriL.nil ?_
  refine Tri.ret ?_
  exact ⟨.inr rfl, (ResOK.r1 rfl (.tmp rfl .nil)), rfl⟩
theorem plain_no (H : Hp) (p : AV) (ps : List (List UInt8)) (hi : Run Try.prog 40 [p] H (.bool false) H) : Run Try.prog 35 [p, .sl (sls ps)] H (.bool false) H := by
  refine Run.of_tri Try.func35 rfl rfl (ltb rfl) ?_
  refine Tri.seq ?_
  refine Tri.region ?_
  refine TriL.c1 rfl (op_as (ltb rfl) rfl) ?_
  refine TriL.nil ?_
  refine Tri.seq ?_
  refine Tri.seq ?_
  refine Tri.region ?_
  refine TriL.c1 rfl (op_mv (ltb rfl) rfl) ?_
  refine TriL.c2 rfl (op_callh (ltb rfl) fn40 rfl rfl hi) ?_
  refine TriL.c1 rfl (op_un (ltb rfl) rfl rfl) ?_
  refine TriL.nil ?_
  refine Tri.condT rfl rfl ?_
  refine Tri.seq ?_
  refine Tri.region ?_
  refine TriL.c1 rfl (op_as (ltb rfl) rfl) ?_
  refine TriL.nil ?_
  refine Tri.ret ?_
  exact ⟨.inr rfl, (ResOK.r1 rfl (.tmp rfl .nil)), rfl⟩
theorem field_bad (H : Hp) (p : AV) (n w : Int) (ps : List (List UInt8)) (hr : rightok n w = false) : Run Try.prog 42 [p, .int .i64 n, .int .i64 w, .sl (sls ps)] H (.bool false) H := by
  refine Run.of_tri Try.func42 rfl rfl (ltb rfl) ?_
  refine Tri.seq ?_
  refine Tri.region ?_
  refine TriL.c1 rfl (op_as (ltb rfl) rfl) ?_
  refine TriL.nil ?_
  refine Tri.seq ?_
  refine Tri.region ?_
  refine TriL.c1 rfl (op_mv (ltb rfl) rfl) ?_
  refine TriL.c1 rfl (op_mv (ltb rfl) rfl) ?_
  refine TriL.c1 rfl (op_call (ltb rfl) fn44 rfl (of_pure n w)) ?_
  refine TriL.c1 rfl (op_mv (ltb rfl) rfl) ?_
  refine TriL.c1 rfl (op_ext (ltb rfl) rfl rfl) ?_
  refine TriL.c1 rfl (op_ext (ltb rfl) rfl rfl) ?_
  refine TriL.c1 rfl (op_as (ltb rfl) rfl) ?_
  refine TriL.c1 rfl (op_as (ltb rfl) rfl) ?_
  refine TriL.nil ?_
  refine Tri.seq ?_
  refine Tri.region ?_
  refine TriL.c1 rfl (op_mv (ltb rfl) rfl) ?_
  refine TriL.c1 rfl (op_mv (ltb rfl) rfl) ?_
  refine TriL.skip rfl rfl (ltb rfl) rfl hr ?_
  refine TriL.skip rfl rfl (ltb rfl) rfl hr ?_
  refine TriL.skip rfl rfl (ltb rfl) rfl hr ?_
  refine TriL.skip rfl rfl (ltb rfl) rfl hr ?_
  refine TriL.skip rfl rfl (ltb rfl) rfl hr ?_
  refine TriL.c1 rfl (op_pickf (ltb rfl) rfl hr rfl) ?_
  refine TriL.c1 rfl (op_mv (ltb rfl) rfl) ?_
  refine TriL.skip rfl rfl (ltb rfl) rfl rfl ?_
  refine TriL.skip rfl rfl (ltb rfl) rfl rfl ?_
  refine TriL.skip rfl rfl (ltb rfl) rfl rfl ?_
  refine TriL.c1 rfl (op_pickf (ltb rfl) rfl rfl rfl) ?_
  refine TriL.c1 rfl (op_as (ltb rfl) rfl) ?_
  refine TriL.nil ?_
  refine Tri.ret ?_
  exact ⟨.inr rfl, (ResOK.r1 rfl (.tmp rfl .nil)), rfl⟩
theorem field_no (H : Hp) (p : AV) (n w : Int) (ps : List (List UInt8)) (hr : rightok n w = true) (hi : Run Try.prog 40 [p] H (.bool false) H) : Run Try.prog 42 [p, .int .i64 n, .int .i64 w, .sl (sls ps)] H (.bool false) H := by
  have hq := of_decide_eq_true hr
  refine Run.of_tri Try.func42 rfl rfl (ltb rfl) ?_
  refine Tri.seq ?_
  refine Tri.region ?_
  refine TriL.c1 rfl (op_as (ltb rfl) rfl) ?_
  refine TriL.nil ?_
  refine Tri.seq ?_
  refine Tri.region ?_
  refine TriL.c1 rfl (op_mv (ltb rfl) rfl) ?_
  refine TriL.c1 rfl (op_mv (ltb rfl) rfl) ?_
  refine TriL.c1 rfl (op_call (ltb rfl) fn44 rfl (of_pure n w)) ?_
  refine TriL.c1 rfl (op_mv (ltb rfl) rfl) ?_
  refine TriL.c1 rfl (op_ext (ltb rfl) rfl rfl) ?_
  refine TriL.c1 rfl (op_ext (ltb rfl) rfl rfl) ?_
  refine TriL.c1 rfl (op_as (ltb rfl) rfl) ?_
  refine TriL.c1 rfl (op_as (ltb rfl) rfl) ?_
  refine TriL.nil ?_
  refine Tri.seq ?_
  refine Tri.region ?_
  refine TriL.c1 rfl (op_mv (ltb rfl) rfl) ?_
  refine TriL.c1 rfl (op_mv (ltb rfl) rfl) ?_
  refine TriL.g1 rfl (ltb rfl) rfl hr (op_mv (ltb rfl) rfl) ?_
  refine TriL.g1 rfl (ltb rfl) rfl hr (op_mv (ltb rfl) rfl) ?_
  refine TriL.g2 rfl (ltb rfl) rfl hr (op_callo (ltb rfl) fn43 rfl (vput_pureO' (n := (8 * n + w).toNat) (by simp only [tagnum, hr, if_pos]; omega) (by omega)) rfl) ?_
  refine TriL.g1 rfl (ltb rfl) rfl hr (op_lit («as» := [_]) (ltb rfl) se54 zAe54 rfl rfl rfl (leb rfl)) ?_
  refine TriL.g2 rfl (ltb rfl) rfl hr (op_callh (ltb rfl) fn35 rfl rfl (plain_no H p [vput (8 * n + w).toNat] hi)) ?_
  refine TriL.c1 rfl (op_pickt (ltb rfl) rfl hr rfl) ?_
  refine TriL.c1 rfl (op_mv (ltb rfl) rfl) ?_
  refine TriL.skip rfl rfl (ltb rfl) rfl rfl ?_
  refine TriL.skip rfl rfl (ltb rfl) rfl rfl ?_
  refine TriL.skip rfl rfl (ltb rfl) rfl rfl ?_
  refine TriL.c1 rfl (op_pickf (ltb rfl) rfl rfl rfl) ?_
  refine TriL.c1 rfl (op_as (ltb rfl) rfl) ?_
  refine TriL.nil ?_
  refine Tri.ret ?_
  exact ⟨.inr rfl, (ResOK.r1 rfl (.tmp rfl .nil)), rfl⟩
theorem field_run (H : Hp) (id : Nat) (b : List UInt8) (fs : List AV) (n w : Int) (ps : List (List UInt8)) (ho : H.obj id = some (wr (bsl b) fs)) (hr : rightok n w = true) (hl : b.length + ps.flatten.length ≤ 1073741000) (hp : ps.length ≤ 1073741824) : Run Try.prog 42 [.op id 0, .int .i64 n, .int .i64 w, .sl (sls ps)] H (.bool true) (H.set id (wr (bsl (b ++ vput (8 * n + w).toNat ++ ps.flatten)) fs)) := by
  have hq := of_decide_eq_true hr
  have hm := vput_max (n := (8 * n + w).toNat) (by omega)
  refine Run.of_tri Try.func42 rfl rfl (ltb rfl) ?_
  refine Tri.seq ?_
  refine Tri.region ?_
  refine TriL.c1 rfl (op_as (ltb rfl) rfl) ?_
  refine TriL.nil ?_
  refine Tri.seq ?_
  refine Tri.region ?_
  refine TriL.c1 rfl (op_mv (ltb rfl) rfl) ?_
  refine TriL.c1 rfl (op_mv (ltb rfl) rfl) ?_
  refine TriL.c1 rfl (op_call (ltb rfl) fn44 rfl (of_pure n w)) ?_
  refine TriL.c1 rfl (op_mv (ltb rfl) rfl) ?_
  refine TriL.c1 rfl (op_ext (ltb rfl) rfl rfl) ?_
  refine TriL.c1 rfl (op_ext (ltb rfl) rfl rfl) ?_
  refine TriL.c1 rfl (op_as (ltb rfl) rfl) ?_
  refine TriL.c1 rfl (op_as (ltb rfl) rfl) ?_
  refine TriL.nil ?_
  refine Tri.seq ?_
  refine Tri.region ?_
  refine TriL.c1 rfl (op_mv (ltb rfl) rfl) ?_
  refine TriL.c1 rfl (op_mv (ltb rfl) rfl) ?_
  refine TriL.g1 rfl (ltb rfl) rfl hr (op_mv (ltb rfl) rfl) ?_
  refine TriL.g1 rfl (ltb rfl) rfl hr (op_mv (ltb rfl) rfl) ?_
  refine TriL.g2 rfl (ltb rfl) rfl hr (op_callo (ltb rfl) fn43 rfl (vput_pureO' (n := (8 * n + w).toNat) (by simp only [tagnum, hr, if_pos]; omega) (by omega)) rfl) ?_
  refine TriL.g1 rfl (ltb rfl) rfl hr (op_lit («as» := [_]) (ltb rfl) se54 zAe54 rfl rfl rfl (leb rfl)) ?_
  refine TriL.g2 rfl (ltb rfl) rfl hr (op_callh (ltb rfl) fn35 rfl rfl (plain_run H id b fs [vput (8 * n + w).toNat] ho (by simp only [List.flatten_cons, List.flatten_nil, List.append_nil]; omega) (by simp))) ?_
  refine TriL.c1 rfl (op_pickt (ltb rfl) rfl hr rfl) ?_
  refine TriL.c1 rfl (op_mv (ltb rfl) rfl) ?_
  refine TriL.g1 rfl (ltb rfl) rfl rfl (op_mv (ltb rfl) rfl) ?_
  refine TriL.g1 rfl (ltb rfl) rfl rfl (op_mv (ltb rfl) rfl) ?_
  refine TriL.g2 rfl (ltb rfl) rfl rfl (op_callh (ltb rfl) fn35 rfl rfl (plain_run _ id (b ++ [vput (8 * n + w).toNat].flatten) fs ps Hp.set_obj (by simp only [List.flatten_cons, List.flatten_nil, List.append_nil, List.length_append]; omega) hp)) ?_
  refine TriL.c1 rfl (op_pickt (ltb rfl) rfl rfl rfl) ?_
  refine TriL.c1 rfl (op_as (ltb rfl) rfl) ?_
  refine TriL.nil ?_
  refine Tri.ret ?_
  refine ⟨.inr rfl, ResOK.r1 rfl (.tmp rfl .nil), ?_⟩
  have e : (H.set id (wr (bsl (b ++ [vput (8 * n + w).toNat].flatten)) fs)).set id (wr (bsl (b ++ [vput (8 * n + w).toNat].flatten ++ ps.flatten)) fs) = H.set id (wr (bsl (b ++ vput (8 * n + w).toNat ++ ps.flatten)) fs) := by
    rw [Hp.set_set]; simp only [List.flatten_cons, List.flatten_nil, List.append_nil]
  exact congrArg (fun h => some (CV.hp h)) e
theorem varint_wrap (H H' : Hp) (p : AV) (n : Int) (x : Nat) (hx : x < 18446744073709551616) (c : Bool) (hf : Run Try.prog 42 [p, .int .i64 n, .int .i64 0, .sl (sls [vput x])] H (.bool c) H') : Run Try.prog 32 [p, .int .i64 n, .int .u64 (x : Int)] H (.bool c) H' := by
  refine Run.of_tri Try.func32 rfl rfl (ltb rfl) ?_
  refine Tri.seq ?_
  refine Tri.region ?_
  refine TriL.c1 rfl (op_as (ltb rfl) rfl) ?_
  refine TriL.nil ?_
  refine Tri.seq ?_
  refine Tri.region ?_
  refine TriL.c1 rfl (op_mv (ltb rfl) rfl) ?_
  refine TriL.c1 rfl (op_mv (ltb rfl) rfl) ?_
  refine TriL.c1 rfl (op_mv (ltb rfl) rfl) ?_
  refine TriL.c2 rfl (op_callo (ltb rfl) fn43 rfl (vput_pureO x hx) rfl) ?_
  refine TriL.c1 rfl (op_lit («as» := [_]) (ltb rfl) se54 zAe54 rfl rfl rfl (leb rfl)) ?_
  refine TriL.c2 rfl (op_callh (ltb rfl) fn42 rfl rfl hf) ?_
  refine TriL.c1 rfl (op_as (ltb rfl) rfl) ?_
  refine TriL.nil ?_
  refine Tri.ret ?_
  exact ⟨.inr rfl, (ResOK.r1 rfl (.tmp rfl .nil)), rfl⟩
theorem fixed4_wrap (H H' : Hp) (p : AV) (n : Int) (x : Nat) (hx : x < 4294967296) (c : Bool) (hf : Run Try.prog 42 [p, .int .i64 n, .int .i64 5, .sl (sls [fput x 4])] H (.bool c) H') : Run Try.prog 33 [p, .int .i64 n, .int .u32 (x : Int)] H (.bool c) H' := by
  refine Run.of_tri Try.func33 rfl rfl (ltb rfl) ?_
  refine Tri.seq ?_
  refine Tri.region ?_
  refine TriL.c1 rfl (op_as (ltb rfl) rfl) ?_
  refine TriL.nil ?_
  refine Tri.seq ?_
  refine Tri.region ?_
  refine TriL.c1 rfl (op_mv (ltb rfl) rfl) ?_
  refine TriL.c1 rfl (op_mv (ltb rfl) rfl) ?_
  refine TriL.c1 rfl (op_mv (ltb rfl) rfl) ?_
  refine TriL.c1 rfl (op_call (ltb rfl) fn56 rfl (put4_pure x hx)) ?_
  refine TriL.c1 rfl (op_lit («as» := [_]) (ltb rfl) se54 zAe54 rfl rfl rfl (leb rfl)) ?_
  refine TriL.c2 rfl (op_callh (ltb rfl) fn42 rfl rfl hf) ?_
  refine TriL.c1 rfl (op_as (ltb rfl) rfl) ?_
  refine TriL.nil ?_
  refine Tri.ret ?_
  exact ⟨.inr rfl, (ResOK.r1 rfl (.tmp rfl .nil)), rfl⟩
theorem fixed8_wrap (H H' : Hp) (p : AV) (n : Int) (x : Nat) (c : Bool) (hf : Run Try.prog 42 [p, .int .i64 n, .int .i64 1, .sl (sls [fput x 8])] H (.bool c) H') : Run Try.prog 34 [p, .int .i64 n, .int .u64 (x : Int)] H (.bool c) H' := by
  refine Run.of_tri Try.func34 rfl rfl (ltb rfl) ?_
  refine Tri.seq ?_
  refine Tri.region ?_
  refine TriL.c1 rfl (op_as (ltb rfl) rfl) ?_
  refine TriL.nil ?_
  refine Tri.seq ?_
  refine Tri.region ?_
  refine TriL.c1 rfl (op_mv (ltb rfl) rfl) ?_
  refine TriL.c1 rfl (op_mv (ltb rfl) rfl) ?_
  refine TriL.c1 rfl (op_mv (ltb rfl) rfl) ?_
  refine TriL.c1 rfl (op_call (ltb rfl) fn57 rfl (put8_pure x)) ?_
  refine TriL.c1 rfl (op_lit («as» := [_]) (ltb rfl) se54 zAe54 rfl rfl rfl (leb rfl)) ?_
  refine TriL.c2 rfl (op_callh (ltb rfl) fn42 rfl rfl hf) ?_
  refine TriL.c1 rfl (op_as (ltb rfl) rfl) ?_
  refine TriL.nil ?_
  refine Tri.ret ?_
  exact ⟨.inr rfl, (ResOK.r1 rfl (.tmp rfl .nil)), rfl⟩
theorem text_wrap (H H' : Hp) (p : AV) (n : Int) (x : List UInt8) (hx : x.length ≤ 1073741824) (c : Bool) (hf : Run Try.prog 42 [p, .int .i64 n, .int .i64 2, .sl (sls [vput x.length, x])] H (.bool c) H') : Run Try.prog 18 [p, .int .i64 n, .str x] H (.bool c) H' := by
  refine Run.of_tri Try.func18 rfl rfl (ltb rfl) ?_
  refine Tri.seq ?_
  refine Tri.region ?_
  refine TriL.c1 rfl (op_as (ltb rfl) rfl) ?_
  refine TriL.nil ?_
  refine Tri.seq ?_
  refine Tri.region ?_
  refine TriL.c1 rfl (op_mv (ltb rfl) rfl) ?_
  refine TriL.c1 rfl (op_mv (ltb rfl) rfl) ?_
  refine TriL.c1 rfl (op_mv (ltb rfl) rfl) ?_
  refine TriL.c1 rfl (op_lens (ltb rfl) un9 rfl) ?_
  refine TriL.c1 rfl (op_cvi (ltb rfl) un3 un50 rfl) ?_
  refine TriL.c2 rfl (op_callo (ltb rfl) fn43 rfl (vput_pureO' (n := x.length) (wru64 (by omega) (by omega)) (by omega)) rfl) ?_
  refine TriL.c1 rfl (op_mv (ltb rfl) rfl) ?_
  refine TriL.c1 rfl (op_s2b (ltb rfl) un9 un22 unel22 rfl) ?_
  refine TriL.c1 rfl (op_lit («as» := [_, _]) (ltb rfl) se54 zAe54 rfl rfl rfl (leb rfl)) ?_
  refine TriL.c2 rfl (op_callh (ltb rfl) fn42 rfl rfl hf) ?_
  refine TriL.c1 rfl (op_as (ltb rfl) rfl) ?_
  refine TriL.nil ?_
  refine Tri.ret ?_
  exact ⟨.inr rfl, (ResOK.r1 rfl (.tmp rfl .nil)), rfl⟩
theorem open_no (H : Hp) (p : AV) (n : Int) (hi : Run Try.prog 40 [p] H (.bool false) H) : Run Try.prog 17 [p, .int .i64 n] H (.bool false) H := by
  refine Run.of_tri Try.func17 rfl rfl (ltb rfl) ?_
  refine Tri.seq ?_
  refine Tri.region ?_
  refine TriL.c1 rfl (op_as (ltb rfl) rfl) ?_
  refine TriL.nil ?_
  refine Tri.seq ?_
  refine Tri.seq ?_
  refine Tri.region ?_
  refine TriL.c1 rfl (op_mv (ltb rfl) rfl) ?_
  refine TriL.c2 rfl (op_callh (ltb rfl) fn40 rfl rfl hi) ?_
  refine TriL.c1 rfl (op_un (ltb rfl) rfl rfl) ?_
  refine TriL.c1 rfl (op_mv (ltb rfl) rfl) ?_
  refine TriL.skip rfl rfl (ltb rfl) rfl rfl ?_
  refine TriL.skip rfl rfl (ltb rfl) rfl rfl ?_
  refine TriL.skip rfl rfl (ltb rfl) rfl rfl ?_
  refine TriL.c1 rfl (op_pickt (ltb rfl) rfl rfl rfl) ?_
  refine TriL.nil ?_
  refine Tri.condT rfl rfl ?_
  refine Tri.seq ?_
  refine Tri.region ?_
  refine TriL.c1 rfl (op_as (ltb rfl) rfl) ?_
  refine TriL.nil ?_
  refine Tri.ret ?_
  exact ⟨.inr rfl, (ResOK.r1 rfl (.tmp rfl .nil)), rfl⟩
theorem open_bad (H : Hp) (p : AV) (n : Int) (hi : Run Try.prog 40 [p] H (.bool true) H) (hr : rightok n 2 = false) : Run Try.prog 17 [p, .int .i64 n] H (.bool false) H := by
  refine Run.of_tri Try.func17 rfl rfl (ltb rfl) ?_
  refine Tri.seq ?_
  refine Tri.region ?_
  refine TriL.c1 rfl (op_as (ltb rfl) rfl) ?_
  refine TriL.nil ?_
  refine Tri.seq ?_
  refine Tri.seq ?_
  refine Tri.region ?_
  refine TriL.c1 rfl (op_mv (ltb rfl) rfl) ?_
  refine TriL.c2 rfl (op_callh (ltb rfl) fn40 rfl rfl hi) ?_
  refine TriL.c1 rfl (op_un (ltb rfl) rfl rfl) ?_
  refine TriL.c1 rfl (op_mv (ltb rfl) rfl) ?_
  refine TriL.g1 rfl (ltb rfl) rfl rfl (op_mv (ltb rfl) rfl) ?_
  refine TriL.g1 rfl (ltb rfl) rfl rfl (op_call (ltb rfl) fn41 rfl (hr ▸ right_pure n 2)) ?_
  refine TriL.g1 rfl (ltb rfl) rfl rfl (op_un (ltb rfl) rfl rfl) ?_
  refine TriL.c1 rfl (op_pickf (ltb rfl) rfl rfl rfl) ?_
  refine TriL.nil ?_
  refine Tri.condT rfl rfl ?_
  refine Tri.seq ?_
  refine Tri.region ?_
  refine TriL.c1 rfl (op_as (ltb rfl) rfl) ?_
  refine TriL.nil ?_
  refine Tri.ret ?_
  exact ⟨.inr rfl, (ResOK.r1 rfl (.tmp rfl .nil)), rfl⟩
theorem close_no (H : Hp) (p : AV) (hi : Run Try.prog 40 [p] H (.bool false) H) : Run Try.prog 19 [p] H (.bool false) H := by
  refine Run.of_tri Try.func19 rfl rfl (ltb rfl) ?_
  refine Tri.seq ?_
  refine Tri.region ?_
  refine TriL.c1 rfl (op_as (ltb rfl) rfl) ?_
  refine TriL.nil ?_
  refine Tri.seq ?_
  refine Tri.seq ?_
  refine Tri.region ?_
  refine TriL.c1 rfl (op_mv (ltb rfl) rfl) ?_
  refine TriL.c2 rfl (op_callh (ltb rfl) fn40 rfl rfl hi) ?_
  refine TriL.c1 rfl (op_un (ltb rfl) rfl rfl) ?_
  refine TriL.c1 rfl (op_mv (ltb rfl) rfl) ?_
  refine TriL.skip rfl rfl (ltb rfl) rfl rfl ?_
  refine TriL.skip rfl rfl (ltb rfl) rfl rfl ?_
  refine TriL.skip rfl rfl (ltb rfl) rfl rfl ?_
  refine TriL.skip rfl rfl (ltb rfl) rfl rfl ?_
  refine TriL.skip rfl rfl (ltb rfl) rfl rfl ?_
  refine TriL.skip rfl rfl (ltb rfl) rfl rfl ?_
  refine TriL.c1 rfl (op_pickt (ltb rfl) rfl rfl rfl) ?_
  refine TriL.nil ?_
  refine Tri.condT rfl rfl ?_
  refine Tri.seq ?_
  refine Tri.region ?_
  refine TriL.c1 rfl (op_as (ltb rfl) rfl) ?_
  refine TriL.nil ?_
  refine Tri.ret ?_
  exact ⟨.inr rfl, (ResOK.r1 rfl (.tmp rfl .nil)), rfl⟩
theorem close_bad (H : Hp) (id : Nat) (b : List UInt8) (ho : H.obj id = some (wr (bsl b) [])) (hi : Run Try.prog 40 [.op id 0] H (.bool true) H) : Run Try.prog 19 [.op id 0] H (.bool false) H := by
  refine Run.of_tri Try.func19 rfl rfl (ltb rfl) ?_
  refine Tri.seq ?_
  refine Tri.region ?_
  refine TriL.c1 rfl (op_as (ltb rfl) rfl) ?_
  refine TriL.nil ?_
  refine Tri.seq ?_
  refine Tri.seq ?_
  refine Tri.region ?_
  refine TriL.c1 rfl (op_mv (ltb rfl) rfl) ?_
  refine TriL.c2 rfl (op_callh (ltb rfl) fn40 rfl rfl hi) ?_
  refine TriL.c1 rfl (op_un (ltb rfl) rfl rfl) ?_
  refine TriL.c1 rfl (op_mv (ltb rfl) rfl) ?_
  refine TriL.g1 rfl (ltb rfl) rfl rfl (op_mv (ltb rfl) rfl) ?_
  refine TriL.g1 rfl (ltb rfl) rfl rfl (op_nckc (ltb rfl) rfl) ?_
  refine TriL.g1 rfl (ltb rfl) rfl rfl (op_fac (ltb rfl) fo59_1 rfl) ?_
  refine TriL.g1 rfl (ltb rfl) rfl rfl (op_ldc (ltb rfl) lk57 rfl rfl ho rfl) ?_
  refine TriL.g1 rfl (ltb rfl) rfl rfl (op_lensl (ltb rfl) un57 rfl) ?_
  refine TriL.g1 rfl (ltb rfl) rfl rfl (op_bin (ltb rfl) rfl rfl rfl) ?_
  refine TriL.c1 rfl (op_pickf (ltb rfl) rfl rfl rfl) ?_
  refine TriL.nil ?_
  refine Tri.condT rfl rfl ?_
  refine Tri.seq ?_
  refine Tri.region ?_
  refine TriL.c1 rfl (op_as (ltb rfl) rfl) ?_
  refine TriL.nil ?_
  refine Tri.ret ?_
  exact ⟨.inr rfl, (ResOK.r1 rfl (.tmp rfl .nil)), rfl⟩
theorem len_no (H : Hp) (p : AV) (hi : Run Try.prog 40 [p] H (.bool false) H) : Run Try.prog 29 [p] H (.int .i64 0) H := by
  refine Run.of_tri Try.func29 rfl rfl (ltb rfl) ?_
  refine Tri.seq ?_
  refine Tri.region ?_
  refine TriL.c1 rfl (op_as (ltb rfl) rfl) ?_
  refine TriL.nil ?_
  refine Tri.seq ?_
  refine Tri.seq ?_
  refine Tri.region ?_
  refine TriL.c1 rfl (op_mv (ltb rfl) rfl) ?_
  refine TriL.c2 rfl (op_callh (ltb rfl) fn40 rfl rfl hi) ?_
  refine TriL.c1 rfl (op_un (ltb rfl) rfl rfl) ?_
  refine TriL.nil ?_
  refine Tri.condT rfl rfl ?_
  refine Tri.seq ?_
  refine Tri.region ?_
  refine TriL.c1 rfl (op_as (ltb rfl) rfl) ?_
  refine TriL.nil ?_
  refine Tri.ret ?_
  exact ⟨.inr rfl, (ResOK.r1 rfl (.tmp rfl .nil)), rfl⟩
theorem deep_no (H : Hp) (p : AV) (hi : Run Try.prog 40 [p] H (.bool false) H) : Run Try.prog 31 [p] H (.int .i64 0) H := by
  refine Run.of_tri Try.func31 rfl rfl (ltb rfl) ?_
  refine Tri.seq ?_
  refine Tri.region ?_
  refine TriL.c1 rfl (op_as (ltb rfl) rfl) ?_
  refine TriL.nil ?_
  refine Tri.seq ?_
  refine Tri.seq ?_
  refine Tri.region ?_
  refine TriL.c1 rfl (op_mv (ltb rfl) rfl) ?_
  refine TriL.c2 rfl (op_callh (ltb rfl) fn40 rfl rfl hi) ?_
  refine TriL.c1 rfl (op_un (ltb rfl) rfl rfl) ?_
  refine TriL.nil ?_
  refine Tri.condT rfl rfl ?_
  refine Tri.seq ?_
  refine Tri.region ?_
  refine TriL.c1 rfl (op_as (ltb rfl) rfl) ?_
  refine TriL.nil ?_
  refine Tri.ret ?_
  exact ⟨.inr rfl, (ResOK.r1 rfl (.tmp rfl .nil)), rfl⟩
theorem bytes_no (H : Hp) (p : AV) (hi : Run Try.prog 40 [p] H (.bool false) H) : Run Try.prog 21 [p] H (.sl []) H := by
  refine Run.of_tri Try.func21 rfl rfl (ltb rfl) ?_
  refine Tri.seq ?_
  refine Tri.region ?_
  refine TriL.c1 rfl (op_as (ltb rfl) rfl) ?_
  refine TriL.nil ?_
  refine Tri.seq ?_
  refine Tri.seq ?_
  refine Tri.region ?_
  refine TriL.c1 rfl (op_mv (ltb rfl) rfl) ?_
  refine TriL.c2 rfl (op_callh (ltb rfl) fn31 rfl rfl (deep_no H p hi)) ?_
  refine TriL.c1 rfl (op_bin (ltb rfl) rfl rfl rfl) ?_
  refine TriL.c1 rfl (op_mv (ltb rfl) rfl) ?_
  refine TriL.g1 rfl (ltb rfl) rfl rfl (op_mv (ltb rfl) rfl) ?_
  refine TriL.g2 rfl (ltb rfl) rfl rfl (op_callh (ltb rfl) fn40 rfl rfl hi) ?_
  refine TriL.g1 rfl (ltb rfl) rfl rfl (op_un (ltb rfl) rfl rfl) ?_
  refine TriL.c1 rfl (op_pickf (ltb rfl) rfl rfl rfl) ?_
  refine TriL.nil ?_
  refine Tri.condT rfl rfl ?_
  refine Tri.seq ?_
  refine Tri.region ?_
  refine TriL.c1 rfl (op_as (ltb rfl) rfl) ?_
  refine TriL.nil ?_
  refine Tri.ret ?_
  exact ⟨.inr rfl, (ResOK.r1 rfl (.tmp rfl .nil)), rfl⟩
theorem bytes_bad (H : Hp) (id : Nat) (b fs : List AV) (ho : H.obj id = some (wr b fs)) (hf : 0 < fs.length) : Run Try.prog 21 [.op id 0] H (.sl []) H := by
  refine Run.of_tri Try.func21 rfl rfl (ltb rfl) ?_
  refine Tri.seq ?_
  refine Tri.region ?_
  refine TriL.c1 rfl (op_as (ltb rfl) rfl) ?_
  refine TriL.nil ?_
  refine Tri.seq ?_
  refine Tri.seq ?_
  refine Tri.region ?_
  refine TriL.c1 rfl (op_mv (ltb rfl) rfl) ?_
  refine TriL.c2 rfl (op_callh (ltb rfl) fn31 rfl rfl (deep_run H id _ _ ho)) ?_
  refine TriL.c1 rfl (op_bin (ltb rfl) rfl rfl rfl) ?_
  refine TriL.c1 rfl (op_mv (ltb rfl) rfl) ?_
  refine TriL.skip rfl rfl (ltb rfl) rfl (decide_eq_true (by omega)) ?_
  refine TriL.skip rfl rfl (ltb rfl) rfl (decide_eq_true (by omega)) ?_
  refine TriL.skip rfl rfl (ltb rfl) rfl (decide_eq_true (by omega)) ?_
  refine TriL.c1 rfl (op_pickt (ltb rfl) rfl (decide_eq_true (by omega)) rfl) ?_
  refine TriL.nil ?_
  refine Tri.condT rfl rfl ?_
  refine Tri.seq ?_
  refine Tri.region ?_
  refine TriL.c1 rfl (op_as (ltb rfl) rfl) ?_
  refine TriL.nil ?_
  refine Tri.ret ?_
  exact ⟨.inr rfl, (ResOK.r1 rfl (.tmp rfl .nil)), rfl⟩
end Go.Proofs.Ytecjdohpfijmpaa.X
/- emit: Close. -/
set_option linter.unusedVariables false
set_option linter.unusedSimpArgs false
namespace Go.Proofs.Ytecjdohpfijmpaa.X
open Go Go.RowKit Go.Proofs
theorem fn45 : isFn Try.prog 45 = true := by kernel_rfl
theorem fo72_0 : fo Try.prog 72 0 = some 0 := by kernel_rfl
theorem fo72_1 : fo Try.prog 72 1 = some 1 := by kernel_rfl
theorem ie57 : ie Try.prog 57 = some 2 := by kernel_rfl
theorem lk3 : lk Try.prog 3 = some (false, 1) := by kernel_rfl
theorem lk72 : lk Try.prog 72 = some (true, 2) := by kernel_rfl
theorem zA72 : zeroA Try.prog 72 = some [AV.int IntKind.i64 (0), AV.int IntKind.i64 (0)] := by kernel_rfl
/-- a frame that is closed: its tag, its length, then what is in it -/
def shut (b : List UInt8) (n : Int) (k : Nat) : List UInt8 := b.take k ++ (vput (8 * n + 2).toNat ++ vput (b.length - k)) ++ b.drop k
theorem okEls_bsl' (b : List UInt8) : okEls 1 (bsl b) = true := okEls_bsl b
theorem fm_frm (fs : List AV) (h : ∀ f ∈ fs, ∃ a b, f = frm a b) (n k : Int) : (((fs ++ [frm n k]).flatMap AV.cells).drop (fs.length * 2)) = [.int .i64 n, .int .i64 k] := by
  have hl : (fs.flatMap AV.cells).length = fs.length * 2 := flat_len fun e he => by obtain ⟨a, b, rfl⟩ := h e he; rfl
  rw [List.flatMap_append, List.drop_append_of_le_length (by omega), List.drop_of_length_le (by omega)]; rfl
theorem close_run (H : Hp) (id : Nat) (b : List UInt8) (fs : List AV) (n : Int) (k : Nat) (ho : H.obj id = some (wr (bsl b) (fs ++ [frm n k]))) (hfs : ∀ f ∈ fs, ∃ a b, f = frm a b) (hr : rightok n 2 = true) (hk : k ≤ b.length) (hl : b.length ≤ 1073741000) (hf : fs.length ≤ 1048576) :
    Run Try.prog 19 [.op id 0] H (.bool true) (H.set id (wr (bsl (shut b n k)) fs)) := by
  have hq := of_decide_eq_true hr
  have hm1 := vput_max (n := (8 * n + 2).toNat) (by omega)
  have hm2 := vput_max (n := b.length - k) (by omega)
  have hlen : (fs ++ [frm n k]).length = fs.length + 1 := by simp
  have hz : ((((fs ++ [frm n k]).length : Nat) : Int) == 0) = false := by rw [hlen]; simp; omega
  have hn1 : IntKind.i64.wrap ((((fs ++ [frm n k]).length : Nat) : Int) - 1) = (fs.length : Int) := by rw [hlen, wr64] <;> omega
  have hnn : ((fs.length : Nat) : Int).toNat = fs.length := rfl
  have hfr : List.take (IntKind.i64.wrap ((((fs ++ [frm n k]).length : Nat) : Int) - 1)).toNat (fs ++ [frm n k]) = fs := by rw [hn1, hnn, List.take_append_of_le_length (by omega), List.take_length]
  have hbl := bsl_len b
  have hw2 : IntKind.u64.wrap (IntKind.i64.wrap (((bsl b).length : Int) - (k : Int))) = ((b.length - k : Nat) : Int) := by rw [hbl, wr64 (by omega) (by omega), wru64 (by omega) (by omega)]; omega
  refine Run.of_tri Try.func19 rfl rfl (ltb rfl) ?_
  refine Tri.seq ?_
  refine Tri.region ?_
  refine TriL.c1 rfl (op_as (ltb rfl) rfl) ?_
  refine TriL.nil ?_
  refine Tri.seq ?_
  refine Tri.seq ?_
  refine Tri.region ?_
  refine TriL.c1 rfl (op_mv (ltb rfl) rfl) ?_
  refine TriL.c2 rfl (op_callh (ltb rfl) fn40 rfl rfl (is_run H id _ _ ho)) ?_
  refine TriL.c1 rfl (op_un (ltb rfl) rfl rfl) ?_
  refine TriL.c1 rfl (op_mv (ltb rfl) rfl) ?_
  refine TriL.g1 rfl (ltb rfl) rfl rfl (op_mv (ltb rfl) rfl) ?_
  refine TriL.g1 rfl (ltb rfl) rfl rfl (op_nckc (ltb rfl) rfl) ?_
  refine TriL.g1 rfl (ltb rfl) rfl rfl (op_fac (ltb rfl) fo59_1 rfl) ?_
  refine TriL.g1 rfl (ltb rfl) rfl rfl (op_ldc (ltb rfl) lk57 rfl rfl ho rfl) ?_
  refine TriL.g1 rfl (ltb rfl) rfl rfl (op_lensl (ltb rfl) un57 rfl) ?_
  refine TriL.g1 rfl (ltb rfl) rfl rfl (op_bin (ltb rfl) rfl rfl rfl) ?_
  refine TriL.c1 rfl (op_pickf (ltb rfl) rfl rfl rfl) ?_
  refine TriL.nil ?_
  refine Tri.condF rfl (hz) ?_
  refine Tri.skip ?_
  refine Tri.seq ?_
  refine Tri.ofKept (Kept.opn 100 id 100 rfl ho rfl rfl (Kept.lp 0 100 rfl rfl (Kept.now ?_)))
  refine Tri.drawn mixed rfl ?_
  refine TriD.c1 rfl (op_mv (ltb rfl) rfl) ?_
  refine TriD.c1 rfl (op_nckl (ltb rfl) rfl) ?_
  refine TriD.c1 rfl (op_fal (ltb rfl) fo59_1 rfl) ?_
  refine TriD.c1 rfl (op_ldo (ltb rfl) lk57 rfl rfl rfl) ?_
  refine TriD.c1 rfl (op_mv (ltb rfl) rfl) ?_
  refine TriD.c1 rfl (op_nckl (ltb rfl) rfl) ?_
  refine TriD.c1 rfl (op_fal (ltb rfl) fo59_1 rfl) ?_
  refine TriD.c1 rfl (op_ldo (ltb rfl) lk57 rfl rfl rfl) ?_
  refine TriD.c1 rfl (op_lenom (ltb rfl) un57 rfl) ?_
  refine TriD.c1 rfl (op_bin (ltb rfl) rfl rfl rfl) ?_
  refine TriD.c1 rfl (op_iam (ltb rfl) ie57 rfl rfl rfl (by rw [hn1]; omega) (by rw [hn1]; omega)) ?_
  refine TriD.c1 rfl (op_ldt (ltb rfl) lk72 rfl rfl (by rw [hn1, hnn, fm_frm fs hfs]; rfl)) ?_
  refine TriD.c2 rfl (op_all (ltb rfl) zA72 rfl) ?_
  refine TriD.c1 rfl (op_stl lk72 rfl rfl rfl rfl rfl (leb rfl)) ?_
  refine TriD.nil (by kernel_rfl) (Kept.now ?_)
  refine Tri.seq ?_
  refine Tri.drawn mixed rfl ?_
  refine TriD.c1 rfl (op_mv (ltb rfl) rfl) ?_
  refine TriD.c1 rfl (op_mv (ltb rfl) rfl) ?_
  refine TriD.c1 rfl (op_nckl (ltb rfl) rfl) ?_
  refine TriD.c1 rfl (op_fal (ltb rfl) fo59_1 rfl) ?_
  refine TriD.c1 rfl (op_ldo (ltb rfl) lk57 rfl rfl rfl) ?_
  refine TriD.c1 rfl (op_mv (ltb rfl) rfl) ?_
  refine TriD.c1 rfl (op_nckl (ltb rfl) rfl) ?_
  refine TriD.c1 rfl (op_fal (ltb rfl) fo59_1 rfl) ?_
  refine TriD.c1 rfl (op_ldo (ltb rfl) lk57 rfl rfl rfl) ?_
  refine TriD.c1 rfl (op_lenom (ltb rfl) un57 rfl) ?_
  refine TriD.c1 rfl (op_bin (ltb rfl) rfl rfl rfl) ?_
  refine TriD.c3 rfl (op_cutom (ltb rfl) ie57 rfl rfl rfl rfl (by rw [hn1]; omega) (by rw [hn1]; omega) rfl) ?_
  refine TriD.c1 rfl (op_nckl (ltb rfl) rfl) ?_
  refine TriD.c1 rfl (op_fal (ltb rfl) fo59_1 rfl) ?_
  refine TriD.c1 rfl (op_sto lk57 rfl rfl rfl rfl rfl (leb rfl)) ?_
  refine TriD.nil (by kernel_rfl) (Kept.op 0 rfl rfl (Kept.cls 100 rfl rfl rfl rfl (Kept.now ?_)))
  rw [hfr, Hp.del_set]
  refine Tri.seq ?_  -- region 5 emit.go:84
  refine Tri.region ?_
  refine TriL.c1 rfl (op_fal (ltb rfl) fo72_0 rfl) ?_
  refine TriL.c1 rfl (op_ldl (ltb rfl) lk3 rfl rfl rfl) ?_
  refine TriL.c1 rfl (op_call (ltb rfl) fn44 rfl (of_pure n 2)) ?_
  refine TriL.c1 rfl (op_mv (ltb rfl) rfl) ?_
  refine TriL.c1 rfl (op_ext (ltb rfl) rfl rfl) ?_
  refine TriL.c1 rfl (op_ext (ltb rfl) rfl rfl) ?_
  refine TriL.c1 rfl (op_as (ltb rfl) rfl) ?_
  refine TriL.c1 rfl (op_as (ltb rfl) rfl) ?_
  refine TriL.nil ?_
  refine Tri.seq ?_
  refine Tri.drawn mixed rfl ?_
  refine TriD.c1 rfl (op_mv (ltb rfl) rfl) ?_
  refine TriD.c1 rfl (op_fal (ltb rfl) fo72_1 rfl) ?_
  refine TriD.c1 rfl (op_ldl (ltb rfl) lk3 rfl rfl rfl) ?_
  refine TriD.c1 rfl (op_mv (ltb rfl) rfl) ?_
  refine TriD.c2 rfl (op_callo (ltb rfl) fn43 rfl (vput_pureO' (n := (8 * n + 2).toNat) (by simp only [tagnum, hr, if_pos]; omega) (by omega)) rfl) ?_
  refine TriD.c1 rfl (op_mv (ltb rfl) rfl) ?_
  refine TriD.c1 rfl (op_nckc (ltb rfl) rfl) ?_
  refine TriD.c1 rfl (op_fac (ltb rfl) fo59_0 rfl) ?_
  refine TriD.c1 rfl (op_ldc (ltb rfl) lk22 rfl rfl Hp.set_obj rfl) ?_
  refine TriD.c1 rfl (op_lensl (ltb rfl) un22 rfl) ?_
  refine TriD.c1 rfl (op_fal (ltb rfl) fo72_1 rfl) ?_
  refine TriD.c1 rfl (op_ldl (ltb rfl) lk3 rfl rfl rfl) ?_
  refine TriD.c1 rfl (op_bin (ltb rfl) rfl rfl rfl) ?_
  refine TriD.c1 rfl (op_cvi (ltb rfl) un3 un50 rfl) ?_
  refine TriD.c2 rfl (op_callo (ltb rfl) fn43 rfl (vput_pureO' (n := b.length - k) hw2 (by omega)) rfl) ?_
  refine TriD.c3 rfl (op_app (ltb rfl) se22 rfl rfl rfl (okEls_bsl _) rfl (by rw [bsl_len, bsl_len]; omega) (by rw [bsl_len, bsl_len]; omega)) ?_
  rw [← bsl_app]
  refine TriD.c2 rfl (op_callh (ltb rfl) fn45 rfl rfl (lay_run (H.set id (wr (bsl b) fs)) id k b (vput (8 * n + 2).toNat ++ vput (b.length - k)) fs Hp.set_obj hk (by rw [List.length_append]; omega))) ?_
  refine TriD.nil (by kernel_rfl) (Kept.now ?_)
  refine Tri.seq ?_
  refine Tri.region ?_
  refine TriL.c1 rfl (op_as (ltb rfl) rfl) ?_
  refine TriL.nil ?_
  refine Tri.ret ?_
  refine ⟨.inr rfl, ResOK.r1 rfl (.tmp rfl .nil), ?_⟩
  have e : (H.set id (wr (bsl b) fs)).set id (wr (bsl (shut b n k)) fs) = H.set id (wr (bsl (shut b n k)) fs) := Hp.set_set
  exact congrArg (fun h => some (CV.hp h)) e
end Go.Proofs.Ytecjdohpfijmpaa.X
/- the page's example; EmitNil. -/
set_option linter.unusedVariables false
set_option linter.unusedSimpArgs false
namespace Go.Proofs.Ytecjdohpfijmpaa.X
open Go Go.RowKit Go.Proofs
theorem fn15 : isFn Try.prog 15 = true := by kernel_rfl
theorem fn16 : isFn Try.prog 16 = true := by kernel_rfl
theorem fn17 : isFn Try.prog 17 = true := by kernel_rfl
theorem fn18 : isFn Try.prog 18 = true := by kernel_rfl
theorem fn19 : isFn Try.prog 19 = true := by kernel_rfl
theorem fn21 : isFn Try.prog 21 = true := by kernel_rfl
theorem fn29 : isFn Try.prog 29 = true := by kernel_rfl
theorem fn32 : isFn Try.prog 32 = true := by kernel_rfl
theorem fn33 : isFn Try.prog 33 = true := by kernel_rfl
theorem fn34 : isFn Try.prog 34 = true := by kernel_rfl
/-- a new object -/
def Hp.add (H : Hp) (cs : List Hc) : Hp := (⟨H.next + 1, H.obj⟩ : Hp).set H.next cs
theorem new_add (H : Hp) : Run Try.prog 16 [] H (.op H.next 0) (H.add (wr [] [])) := new_run H
theorem Hp.add_obj {H : Hp} {cs : List Hc} : (H.add cs).obj H.next = some cs := Hp.set_obj
theorem vput_300 : vput 300 = [172, 2] := by rw [vput_hi (by decide), vput_lo (by decide)]; rfl
theorem live_b : shut ([] ++ vput (8 * 2 + 0 : Int).toNat ++ [vput 300].flatten) 1 0 = [10, 3, 16, 172, 2] := by
  rw [vput_300, vput_lo (n := (8 * 2 + 0 : Int).toNat) (by decide)]
  simp only [shut, List.flatten_cons, List.flatten_nil]
  rw [vput_lo (n := (8 * 1 + 2 : Int).toNat) (by decide), vput_lo (by decide)]; rfl
theorem field_dead (H : Hp) (p : AV) (n w : Int) (ps : List (List UInt8)) (hi : Run Try.prog 40 [p] H (.bool false) H) : Run Try.prog 42 [p, .int .i64 n, .int .i64 w, .sl (sls ps)] H (.bool false) H := by
  cases hr : rightok n w with
  | true => exact field_no H p n w ps hr hi
  | false => exact field_bad H p n w ps hr
theorem fixed4_wrap' (H H' : Hp) (p : AV) (n m : Int) (x : Nat) (e : m = x) (hx : x < 4294967296) (c : Bool) (hf : Run Try.prog 42 [p, .int .i64 n, .int .i64 5, .sl (sls [fput x 4])] H (.bool c) H') : Run Try.prog 33 [p, .int .i64 n, .int .u32 m] H (.bool c) H' := e ▸ fixed4_wrap H H' p n x hx c hf
theorem wru64_mod (n : Nat) : IntKind.u64.wrap (n : Int) = ((n % 18446744073709551616 : Nat) : Int) := by simp only [IntKind.wrap, IntKind.bits, IntKind.signed]; simp
theorem wru32_mod (n : Nat) : IntKind.u32.wrap (n : Int) = ((n % 4294967296 : Nat) : Int) := by simp only [IntKind.wrap, IntKind.bits, IntKind.signed]; simp
theorem live_run (H : Hp) : Run Try.prog 15 [] H (.bool true) (H.add (wr (bsl [10, 3, 16, 172, 2]) [])) := by
  refine Run.of_tri Try.func15 rfl rfl (Nat.zero_le _) ?_
  refine Tri.seq ?_
  refine Tri.region ?_
  refine TriL.c1 rfl (op_as (ltb rfl) rfl) ?_
  refine TriL.nil ?_
  refine Tri.seq ?_
  refine Tri.region ?_
  refine TriL.c2 rfl (op_callh (ltb rfl) fn16 rfl rfl (new_add H)) ?_
  refine TriL.c1 rfl (op_as (ltb rfl) rfl) ?_
  refine TriL.nil ?_
  refine Tri.seq ?_
  refine Tri.region ?_
  refine TriL.c1 rfl (op_mv (ltb rfl) rfl) ?_
  refine TriL.c2 rfl (op_callh (ltb rfl) fn17 rfl rfl (open_run (H.add (wr [] [])) H.next 1 [] [] Hp.add_obj rfl (by decide))) ?_
  refine TriL.c1 rfl (op_mv (ltb rfl) rfl) ?_
  refine TriL.g1 rfl (ltb rfl) rfl rfl (op_mv (ltb rfl) rfl) ?_
  refine TriL.g2 rfl (ltb rfl) rfl rfl (op_callh (ltb rfl) fn32 rfl rfl (varint_wrap _ _ (.op H.next 0) 2 300 (by decide) true (field_run _ H.next [] [frm 1 0] 2 0 [vput 300] Hp.set_obj rfl (by rw [vput_300]; decide) (by simp)))) ?_
  refine TriL.c1 rfl (op_pickt (ltb rfl) rfl rfl rfl) ?_
  refine TriL.c1 rfl (op_mv (ltb rfl) rfl) ?_
  refine TriL.g1 rfl (ltb rfl) rfl rfl (op_mv (ltb rfl) rfl) ?_
  refine TriL.g2 rfl (ltb rfl) rfl rfl (op_callh (ltb rfl) fn19 rfl rfl (close_run _ H.next _ [] 1 0 Hp.set_obj (by simp) rfl (by omega) (by rw [vput_300, vput_lo (by decide)]; simp) (by decide))) ?_
  refine TriL.c1 rfl (op_pickt (ltb rfl) rfl rfl rfl) ?_
  refine TriL.c1 rfl (op_as (ltb rfl) rfl) ?_
  refine TriL.nil ?_
  refine Tri.seq ?_
  refine Tri.region ?_
  refine TriL.c1 rfl (op_mv (ltb rfl) rfl) ?_
  refine TriL.c1 rfl (op_mv (ltb rfl) rfl) ?_
  refine TriL.g1 rfl (ltb rfl) rfl rfl (op_mv (ltb rfl) rfl) ?_
  refine TriL.g2 rfl (ltb rfl) rfl rfl (op_callh (ltb rfl) fn21 rfl rfl (bytes_run _ H.next _ Hp.set_obj (by rw [live_b]; simp))) ?_
  rw [live_b]
  refine TriL.g1 rfl (ltb rfl) rfl rfl (op_lit («as» := [_, _, _, _, _]) (ltb rfl) se22 zAe22 rfl rfl rfl (leb rfl)) ?_
  refine TriL.g1 rfl (ltb rfl) rfl rfl (op_call (ltb rfl) fn13 rfl (bytes_pure _ [10, 3, 16, 172, 2])) ?_
  refine TriL.c1 rfl (op_pickt (ltb rfl) rfl rfl rfl) ?_
  refine TriL.c1 rfl (op_as (ltb rfl) rfl) ?_
  refine TriL.nil ?_
  refine Tri.ret ?_
  refine ⟨.inr rfl, (ResOK.r1 rfl (.tmp rfl .nil)).cast (by simp), ?_⟩
  have e : ((((H.add (wr [] [])).set H.next (wr (bsl []) ([] ++ [frm 1 (bsl []).length]))).set H.next (wr (bsl ([] ++ vput (8 * 2 + 0 : Int).toNat ++ [vput 300].flatten)) [frm 1 0])).set H.next (wr (bsl [10, 3, 16, 172, 2]) [])) = H.add (wr (bsl [10, 3, 16, 172, 2]) []) := by
    rw [Hp.set_set, Hp.set_set, Hp.add, Hp.set_set]; rfl
  exact congrArg (fun h => some (CV.hp h)) e
theorem text_wrap' (H H' : Hp) (p : AV) (n : Int) (x : List UInt8) (c : Bool) (hf : Run Try.prog 42 [p, .int .i64 n, .int .i64 2, .sl (sls [vput (x.length % 18446744073709551616), x])] H (.bool c) H') : Run Try.prog 18 [p, .int .i64 n, .str x] H (.bool c) H' := by
  refine Run.of_tri Try.func18 rfl rfl (ltb rfl) ?_
  refine Tri.seq ?_
  refine Tri.region ?_
  refine TriL.c1 rfl (op_as (ltb rfl) rfl) ?_
  refine TriL.nil ?_
  refine Tri.seq ?_
  refine Tri.region ?_
  refine TriL.c1 rfl (op_mv (ltb rfl) rfl) ?_
  refine TriL.c1 rfl (op_mv (ltb rfl) rfl) ?_
  refine TriL.c1 rfl (op_mv (ltb rfl) rfl) ?_
  refine TriL.c1 rfl (op_lens (ltb rfl) un9 rfl) ?_
  refine TriL.c1 rfl (op_cvi (ltb rfl) un3 un50 rfl) ?_
  refine TriL.c2 rfl (op_callo (ltb rfl) fn43 rfl (vput_pureO' (wru64_mod x.length) (by omega)) rfl) ?_
  refine TriL.c1 rfl (op_mv (ltb rfl) rfl) ?_
  refine TriL.c1 rfl (op_s2b (ltb rfl) un9 un22 unel22 rfl) ?_
  refine TriL.c1 rfl (op_lit («as» := [_, _]) (ltb rfl) se54 zAe54 rfl rfl rfl (leb rfl)) ?_
  refine TriL.c2 rfl (op_callh (ltb rfl) fn42 rfl rfl hf) ?_
  refine TriL.c1 rfl (op_as (ltb rfl) rfl) ?_
  refine TriL.nil ?_
  refine Tri.ret ?_
  exact ⟨.inr rfl, (ResOK.r1 rfl (.tmp rfl .nil)), rfl⟩
def hh (H : Hp) (i : Nat) : Hp := if i ≤ 1 then H else H.add deadw
def StN (H : Hp) (num : Int) (n : Nat) (x : List UInt8) (j : Int) : St := [(.h, .hp H), (.s 0, .sv (.v (.int .i64 num))), (.s 1, .sv (.v (.int .u64 (n : Int)))), (.s 2, .sv (.v (.str x))), (.s 7, .sv (.v (.int .i64 j)))]
theorem nil_run (H : Hp) (num : Int) (n : Nat) (hn : n < 18446744073709551616) (x : List UInt8) : Run Try.prog 8 [.int .i64 num, .int .u64 (n : Int), .str x] H (.bool true) ((H.add deadw).add (wr (bsl [10, 3, 16, 172, 2]) [])) := by
  refine Run.of_tri Try.func8 rfl rfl (ltb rfl) ?_
  refine Tri.seq ?_
  refine Tri.region ?_
  refine TriL.c1 rfl (op_as (ltb rfl) rfl) ?_
  refine TriL.nil ?_
  refine Tri.seq ?_
  refine Tri.seq ?_
  refine Tri.region ?_
  refine TriL.c1 rfl (op_as (ltb rfl) rfl) ?_
  refine TriL.kept (Kept.keep [.h, .s 0, .s 1, .s 2, .s 7] rfl (by decide) (Kept.now ?_))
  refine Tri.blk ?_
  -- LOOP 1: KEEP
  refine Tri.loop (fun q s => ∃ (i : Nat) (j : Int), s = StN (hh H i) num n x j ∧ j = i ∧ i ≤ 2 ∧ q = 2 - i) ?_ (n := 2) ⟨0, 0, rfl, rfl, by omega, rfl⟩
  rintro q s ⟨i, j, rfl, hj, hi, rfl⟩
  refine Tri.seq ?_
  refine Tri.seq ?_
  refine Tri.region ?_
  refine TriL.c1 rfl (op_mv (ltb rfl) rfl) ?_
  refine TriL.c1 rfl (op_bin (ltb rfl) rfl rfl rfl) ?_
  refine TriL.nil ?_
  refine Tri.cond rfl (fun hc1 => ?_) (fun hc1 => ?_)
  · have hlt : i < 2 := by have := of_decide_eq_true hc1; omega
    refine Tri.skip ?_
    refine Tri.seq ?_
    refine Tri.blk ?_
    refine Tri.seq ?_
    refine Tri.region ?_
    refine TriL.c1 rfl (op_as (ltb rfl) rfl) ?_
    refine TriL.nil ?_
    refine Tri.seq ?_
    refine Tri.seq ?_
    refine Tri.region ?_
    refine TriL.c1 rfl (op_mv (ltb rfl) rfl) ?_
    refine TriL.c1 rfl (op_bin (ltb rfl) rfl rfl rfl) ?_
    refine TriL.nil ?_
    refine Tri.cond rfl (fun hc2 => ?_) (fun hc2 => ?_)
    · have hi1 : i = 1 := by have := eq_of_beq hc2; omega
      refine Tri.region ?_
      refine TriL.c1 rfl (op_bldn (ltb rfl) spl59 zN59 rfl rfl) ?_
      refine TriL.c2 rfl (op_box (ltb rfl) rfl rfl rfl) ?_
      refine TriL.c1 rfl (op_as (ltb rfl) rfl) ?_
      refine TriL.kept (Kept.pub 16 rfl rfl (Kept.op 8 rfl rfl (Kept.cls 16 rfl rfl rfl rfl (Kept.now ?_))))
      refine Tri.seq ?_
      refine Tri.seq ?_
      refine Tri.region ?_
      refine TriL.c1 rfl (op_mv (ltb rfl) rfl) ?_
      refine TriL.c1 rfl (op_mv (ltb rfl) rfl) ?_
      refine TriL.c1 rfl (op_mv (ltb rfl) rfl) ?_
      refine TriL.c2 rfl (op_callh (ltb rfl) fn32 rfl rfl (varint_wrap _ _ _ num n hn false (field_dead _ _ num 0 [vput n] (is_dead _ _ Hp.set_obj)))) ?_
      refine TriL.c1 rfl (op_mv (ltb rfl) rfl) ?_
      refine TriL.g1 rfl (ltb rfl) rfl rfl (op_mv (ltb rfl) rfl) ?_
      refine TriL.g1 rfl (ltb rfl) rfl rfl (op_mv (ltb rfl) rfl) ?_
      refine TriL.g1 rfl (ltb rfl) rfl rfl (op_mv (ltb rfl) rfl) ?_
      refine TriL.g1 rfl (ltb rfl) rfl rfl (op_cvi (ltb rfl) un50 un62 rfl) ?_
      refine TriL.g2 rfl (ltb rfl) rfl rfl (op_callh (ltb rfl) fn33 rfl rfl (fixed4_wrap' _ _ _ num _ (n % 4294967296) (wru32_mod n) (by omega) false (field_dead _ _ num 5 [fput (n % 4294967296) 4] (is_dead _ _ Hp.set_obj)))) ?_
      refine TriL.c1 rfl (op_pickf (ltb rfl) rfl rfl rfl) ?_
      refine TriL.c1 rfl (op_mv (ltb rfl) rfl) ?_
      refine TriL.g1 rfl (ltb rfl) rfl rfl (op_mv (ltb rfl) rfl) ?_
      refine TriL.g1 rfl (ltb rfl) rfl rfl (op_mv (ltb rfl) rfl) ?_
      refine TriL.g1 rfl (ltb rfl) rfl rfl (op_mv (ltb rfl) rfl) ?_
      refine TriL.g2 rfl (ltb rfl) rfl rfl (op_callh (ltb rfl) fn34 rfl rfl (fixed8_wrap _ _ _ num n false (field_dead _ _ num 1 [fput n 8] (is_dead _ _ Hp.set_obj)))) ?_
      refine TriL.c1 rfl (op_pickf (ltb rfl) rfl rfl rfl) ?_
      refine TriL.c1 rfl (op_mv (ltb rfl) rfl) ?_
      refine TriL.g1 rfl (ltb rfl) rfl rfl (op_mv (ltb rfl) rfl) ?_
      refine TriL.g1 rfl (ltb rfl) rfl rfl (op_mv (ltb rfl) rfl) ?_
      refine TriL.g1 rfl (ltb rfl) rfl rfl (op_mv (ltb rfl) rfl) ?_
      refine TriL.g2 rfl (ltb rfl) rfl rfl (op_callh (ltb rfl) fn18 rfl rfl (text_wrap' _ _ _ num x false (field_dead _ _ num 2 [vput (x.length % 18446744073709551616), x] (is_dead _ _ Hp.set_obj)))) ?_
      refine TriL.c1 rfl (op_pickf (ltb rfl) rfl rfl rfl) ?_
      refine TriL.c1 rfl (op_mv (ltb rfl) rfl) ?_
      refine TriL.g1 rfl (ltb rfl) rfl rfl (op_mv (ltb rfl) rfl) ?_
      refine TriL.g1 rfl (ltb rfl) rfl rfl (op_mv (ltb rfl) rfl) ?_
      refine TriL.g2 rfl (ltb rfl) rfl rfl (op_callh (ltb rfl) fn17 rfl rfl (open_no _ _ num (is_dead _ _ Hp.set_obj))) ?_
      refine TriL.c1 rfl (op_pickf (ltb rfl) rfl rfl rfl) ?_
      refine TriL.c1 rfl (op_mv (ltb rfl) rfl) ?_
      refine TriL.g1 rfl (ltb rfl) rfl rfl (op_mv (ltb rfl) rfl) ?_
      refine TriL.g2 rfl (ltb rfl) rfl rfl (op_callh (ltb rfl) fn19 rfl rfl (close_no _ _ (is_dead _ _ Hp.set_obj))) ?_
      refine TriL.c1 rfl (op_pickf (ltb rfl) rfl rfl rfl) ?_
      refine TriL.c1 rfl (op_mv (ltb rfl) rfl) ?_
      refine TriL.g1 rfl (ltb rfl) rfl rfl (op_mv (ltb rfl) rfl) ?_
      refine TriL.g1 rfl (ltb rfl) rfl rfl (op_mv (ltb rfl) rfl) ?_
      refine TriL.g1 rfl (ltb rfl) rfl rfl (op_s2b (ltb rfl) un9 un22 unel22 rfl) ?_
      refine TriL.g1 rfl (ltb rfl) rfl rfl (op_lit («as» := [_]) (ltb rfl) se54 zAe54 rfl rfl rfl (leb rfl)) ?_
      refine TriL.g2 rfl (ltb rfl) rfl rfl (op_callh (ltb rfl) fn35 rfl rfl (plain_no _ _ [x] (is_dead _ _ Hp.set_obj))) ?_
      refine TriL.c1 rfl (op_pickf (ltb rfl) rfl rfl rfl) ?_
      refine TriL.nil ?_
      refine Tri.condF rfl rfl ?_
      refine Tri.skip ?_
      refine Tri.seq ?_
      refine Tri.region ?_
      refine TriL.c1 rfl (op_mv (ltb rfl) rfl) ?_
      refine TriL.c2 rfl (op_callh (ltb rfl) fn29 rfl rfl (len_no _ _ (is_dead _ _ Hp.set_obj))) ?_
      refine TriL.c1 rfl (op_bin (ltb rfl) rfl rfl rfl) ?_
      refine TriL.c1 rfl (op_mv (ltb rfl) rfl) ?_
      refine TriL.g1 rfl (ltb rfl) rfl rfl (op_mv (ltb rfl) rfl) ?_
      refine TriL.g2 rfl (ltb rfl) rfl rfl (op_callh (ltb rfl) fn31 rfl rfl (deep_no _ _ (is_dead _ _ Hp.set_obj))) ?_
      refine TriL.g1 rfl (ltb rfl) rfl rfl (op_bin (ltb rfl) rfl rfl rfl) ?_
      refine TriL.c1 rfl (op_pickf (ltb rfl) rfl rfl rfl) ?_
      refine TriL.c1 rfl (op_mv (ltb rfl) rfl) ?_
      refine TriL.g1 rfl (ltb rfl) rfl rfl (op_mv (ltb rfl) rfl) ?_
      refine TriL.g2 rfl (ltb rfl) rfl rfl (op_callh (ltb rfl) fn21 rfl rfl (bytes_no _ _ (is_dead _ _ Hp.set_obj))) ?_
      refine TriL.g1 rfl (ltb rfl) rfl rfl (op_lenl (ltb rfl) un22 rfl) ?_
      refine TriL.g1 rfl (ltb rfl) rfl rfl (op_bin (ltb rfl) rfl rfl rfl) ?_
      refine TriL.c1 rfl (op_pickf (ltb rfl) rfl rfl rfl) ?_
      refine TriL.nil ?_
      refine Tri.condF rfl rfl ?_
      refine Tri.skip ?_
      refine Tri.region ?_
      refine TriL.c1 rfl (op_mv (ltb rfl) rfl) ?_
      refine TriL.c1 rfl (op_bin (ltb rfl) rfl rfl rfl) ?_
      refine TriL.c1 rfl (op_as (ltb rfl) rfl) ?_
      refine TriL.kept (Kept.keep [.h, .s 0, .s 1, .s 2, .s 7] rfl (by decide) (Kept.now ?_))
      refine ⟨2 - (i + 1), by omega, i + 1, IntKind.i64.wrap (j + 1), ?_, by rw [hj, wr64] <;> omega, by omega, rfl⟩
      subst hi1
      rfl
    · have hi1 : i ≠ 1 := by intro e; subst e; subst hj; cases hc2
      refine Tri.skip ?_
      refine Tri.seq ?_
      refine Tri.seq ?_
      refine Tri.region ?_
      refine TriL.c1 rfl (op_mv (ltb rfl) rfl) ?_
      refine TriL.c1 rfl (op_mv (ltb rfl) rfl) ?_
      refine TriL.c1 rfl (op_mv (ltb rfl) rfl) ?_
      refine TriL.c2 rfl (op_callh (ltb rfl) fn32 rfl rfl (varint_wrap _ _ _ num n hn false (field_dead _ _ num 0 [vput n] (is_nil _)))) ?_
      refine TriL.c1 rfl (op_mv (ltb rfl) rfl) ?_
      refine TriL.g1 rfl (ltb rfl) rfl rfl (op_mv (ltb rfl) rfl) ?_
      refine TriL.g1 rfl (ltb rfl) rfl rfl (op_mv (ltb rfl) rfl) ?_
      refine TriL.g1 rfl (ltb rfl) rfl rfl (op_mv (ltb rfl) rfl) ?_
      refine TriL.g1 rfl (ltb rfl) rfl rfl (op_cvi (ltb rfl) un50 un62 rfl) ?_
      refine TriL.g2 rfl (ltb rfl) rfl rfl (op_callh (ltb rfl) fn33 rfl rfl (fixed4_wrap' _ _ _ num _ (n % 4294967296) (wru32_mod n) (by omega) false (field_dead _ _ num 5 [fput (n % 4294967296) 4] (is_nil _)))) ?_
      refine TriL.c1 rfl (op_pickf (ltb rfl) rfl rfl rfl) ?_
      refine TriL.c1 rfl (op_mv (ltb rfl) rfl) ?_
      refine TriL.g1 rfl (ltb rfl) rfl rfl (op_mv (ltb rfl) rfl) ?_
      refine TriL.g1 rfl (ltb rfl) rfl rfl (op_mv (ltb rfl) rfl) ?_
      refine TriL.g1 rfl (ltb rfl) rfl rfl (op_mv (ltb rfl) rfl) ?_
      refine TriL.g2 rfl (ltb rfl) rfl rfl (op_callh (ltb rfl) fn34 rfl rfl (fixed8_wrap _ _ _ num n false (field_dead _ _ num 1 [fput n 8] (is_nil _)))) ?_
      refine TriL.c1 rfl (op_pickf (ltb rfl) rfl rfl rfl) ?_
      refine TriL.c1 rfl (op_mv (ltb rfl) rfl) ?_
      refine TriL.g1 rfl (ltb rfl) rfl rfl (op_mv (ltb rfl) rfl) ?_
      refine TriL.g1 rfl (ltb rfl) rfl rfl (op_mv (ltb rfl) rfl) ?_
      refine TriL.g1 rfl (ltb rfl) rfl rfl (op_mv (ltb rfl) rfl) ?_
      refine TriL.g2 rfl (ltb rfl) rfl rfl (op_callh (ltb rfl) fn18 rfl rfl (text_wrap' _ _ _ num x false (field_dead _ _ num 2 [vput (x.length % 18446744073709551616), x] (is_nil _)))) ?_
      refine TriL.c1 rfl (op_pickf (ltb rfl) rfl rfl rfl) ?_
      refine TriL.c1 rfl (op_mv (ltb rfl) rfl) ?_
      refine TriL.g1 rfl (ltb rfl) rfl rfl (op_mv (ltb rfl) rfl) ?_
      refine TriL.g1 rfl (ltb rfl) rfl rfl (op_mv (ltb rfl) rfl) ?_
      refine TriL.g2 rfl (ltb rfl) rfl rfl (op_callh (ltb rfl) fn17 rfl rfl (open_no _ _ num (is_nil _))) ?_
      refine TriL.c1 rfl (op_pickf (ltb rfl) rfl rfl rfl) ?_
      refine TriL.c1 rfl (op_mv (ltb rfl) rfl) ?_
      refine TriL.g1 rfl (ltb rfl) rfl rfl (op_mv (ltb rfl) rfl) ?_
      refine TriL.g2 rfl (ltb rfl) rfl rfl (op_callh (ltb rfl) fn19 rfl rfl (close_no _ _ (is_nil _))) ?_
      refine TriL.c1 rfl (op_pickf (ltb rfl) rfl rfl rfl) ?_
      refine TriL.c1 rfl (op_mv (ltb rfl) rfl) ?_
      refine TriL.g1 rfl (ltb rfl) rfl rfl (op_mv (ltb rfl) rfl) ?_
      refine TriL.g1 rfl (ltb rfl) rfl rfl (op_mv (ltb rfl) rfl) ?_
      refine TriL.g1 rfl (ltb rfl) rfl rfl (op_s2b (ltb rfl) un9 un22 unel22 rfl) ?_
      refine TriL.g1 rfl (ltb rfl) rfl rfl (op_lit («as» := [_]) (ltb rfl) se54 zAe54 rfl rfl rfl (leb rfl)) ?_
      refine TriL.g2 rfl (ltb rfl) rfl rfl (op_callh (ltb rfl) fn35 rfl rfl (plain_no _ _ [x] (is_nil _))) ?_
      refine TriL.c1 rfl (op_pickf (ltb rfl) rfl rfl rfl) ?_
      refine TriL.nil ?_
      refine Tri.condF rfl rfl ?_
      refine Tri.skip ?_
      refine Tri.seq ?_
      refine Tri.region ?_
      refine TriL.c1 rfl (op_mv (ltb rfl) rfl) ?_
      refine TriL.c2 rfl (op_callh (ltb rfl) fn29 rfl rfl (len_no _ _ (is_nil _))) ?_
      refine TriL.c1 rfl (op_bin (ltb rfl) rfl rfl rfl) ?_
      refine TriL.c1 rfl (op_mv (ltb rfl) rfl) ?_
      refine TriL.g1 rfl (ltb rfl) rfl rfl (op_mv (ltb rfl) rfl) ?_
      refine TriL.g2 rfl (ltb rfl) rfl rfl (op_callh (ltb rfl) fn31 rfl rfl (deep_no _ _ (is_nil _))) ?_
      refine TriL.g1 rfl (ltb rfl) rfl rfl (op_bin (ltb rfl) rfl rfl rfl) ?_
      refine TriL.c1 rfl (op_pickf (ltb rfl) rfl rfl rfl) ?_
      refine TriL.c1 rfl (op_mv (ltb rfl) rfl) ?_
      refine TriL.g1 rfl (ltb rfl) rfl rfl (op_mv (ltb rfl) rfl) ?_
      refine TriL.g2 rfl (ltb rfl) rfl rfl (op_callh (ltb rfl) fn21 rfl rfl (bytes_no _ _ (is_nil _))) ?_
      refine TriL.g1 rfl (ltb rfl) rfl rfl (op_lenl (ltb rfl) un22 rfl) ?_
      refine TriL.g1 rfl (ltb rfl) rfl rfl (op_bin (ltb rfl) rfl rfl rfl) ?_
      refine TriL.c1 rfl (op_pickf (ltb rfl) rfl rfl rfl) ?_
      refine TriL.nil ?_
      refine Tri.condF rfl rfl ?_
      refine Tri.skip ?_
      refine Tri.region ?_
      refine TriL.c1 rfl (op_mv (ltb rfl) rfl) ?_
      refine TriL.c1 rfl (op_bin (ltb rfl) rfl rfl rfl) ?_
      refine TriL.c1 rfl (op_as (ltb rfl) rfl) ?_
      refine TriL.kept (Kept.keep [.h, .s 0, .s 1, .s 2, .s 7] rfl (by decide) (Kept.now ?_))
      refine ⟨2 - (i + 1), by omega, i + 1, IntKind.i64.wrap (j + 1), ?_, by rw [hj, wr64] <;> omega, by omega, rfl⟩
      obtain rfl : i = 0 := by omega
      rfl
  · have hge : i = 2 := by have := of_decide_eq_false hc1; omega
    subst hge
    refine Tri.exit ?_
    refine Tri.seq ?_
    refine Tri.region ?_
    refine TriL.c2 rfl (op_callh (ltb rfl) fn15 rfl rfl (live_run _)) ?_
    refine TriL.c1 rfl (op_as (ltb rfl) rfl) ?_
    refine TriL.nil ?_
    refine Tri.ret ?_
    exact ⟨.inr rfl, (ResOK.r1 rfl (.tmp rfl .nil)), rfl⟩
end Go.Proofs.Ytecjdohpfijmpaa.X
/- The reference's tags and numbers: Right, Split, Get. -/
set_option linter.unusedVariables false
set_option linter.unusedSimpArgs false
namespace Go.Proofs.Ytecjdohpfijmpaa.X
open Go Go.RowKit Go.Proofs
theorem fn60 : isFn Try.prog 60 = true := by kernel_rfl
theorem beq_eq_decide_of {a b : Int} {p : Prop} [Decidable p] (h : a = b ↔ p) : (a == b) = decide p := by
  by_cases hp : p
  · rw [decide_eq_true hp]; exact beq_iff_eq.2 (h.2 hp)
  · rw [decide_eq_false hp]; exact beq_eq_false_iff_ne.2 (fun e => hp (h.1 e))
theorem right4_pure (n w : Int) : Pure Try.prog 60 [.int .i64 n, .int .i64 w] (.bool (rightok n w)) := by
  refine Pure.of_tri Try.func60 rfl rfl (ltb rfl) fun H => ?_
  refine Tri.seq ?_
  refine Tri.region ?_
  refine TriL.c1 rfl (op_as (ltb rfl) rfl) ?_
  refine TriL.nil ?_
  refine Tri.seq ?_
  refine Tri.region ?_
  refine TriL.c1 rfl (op_mv (ltb rfl) rfl) ?_
  refine TriL.c1 rfl (op_bin (ltb rfl) rfl rfl rfl) ?_
  refine TriL.c1 rfl (op_mv (ltb rfl) rfl) ?_
  refine TriL.split (d := 7) rfl (fun hg1 => ?_) (fun hg1 => ?_)
  · refine TriL.g1 rfl (ltb rfl) rfl hg1 (op_mv (ltb rfl) rfl) ?_
    refine TriL.g1 rfl (ltb rfl) rfl hg1 (op_bin (ltb rfl) rfl rfl rfl) ?_
    refine TriL.c1 rfl (op_pickt (ltb rfl) rfl hg1 rfl) ?_
    refine TriL.c1 rfl (op_mv (ltb rfl) rfl) ?_
    refine TriL.split (d := 11) rfl (fun hg2 => ?_) (fun hg2 => ?_)
    · refine TriL.g1 rfl (ltb rfl) rfl hg2 (op_mv (ltb rfl) rfl) ?_
      refine TriL.g1 rfl (ltb rfl) rfl hg2 (op_bin (ltb rfl) rfl rfl rfl) ?_
      refine TriL.g1 rfl (ltb rfl) rfl hg2 (op_mv (ltb rfl) rfl) ?_
      refine TriL.split (d := 14) rfl (fun hg3 => ?_) (fun hg3 => ?_)
      · refine TriL.skipu rfl rfl (ltb rfl) (ltb rfl) rfl hg3 ?_
        refine TriL.skipu rfl rfl (ltb rfl) (ltb rfl) rfl hg3 ?_
        refine TriL.g1 rfl (ltb rfl) rfl hg2 (op_pickt (ltb rfl) rfl hg3 rfl) ?_
        refine TriL.g1 rfl (ltb rfl) rfl hg2 (op_mv (ltb rfl) rfl) ?_
        refine TriL.skipu rfl rfl (ltb rfl) (ltb rfl) rfl rfl ?_
        refine TriL.skipu rfl rfl (ltb rfl) (ltb rfl) rfl rfl ?_
        refine TriL.g1 rfl (ltb rfl) rfl hg2 (op_pickt (ltb rfl) rfl rfl rfl) ?_
        refine TriL.g1 rfl (ltb rfl) rfl hg2 (op_mv (ltb rfl) rfl) ?_
        refine TriL.skipu rfl rfl (ltb rfl) (ltb rfl) rfl rfl ?_
        refine TriL.skipu rfl rfl (ltb rfl) (ltb rfl) rfl rfl ?_
        refine TriL.g1 rfl (ltb rfl) rfl hg2 (op_pickt (ltb rfl) rfl rfl rfl) ?_
        refine TriL.c1 rfl (op_pickt (ltb rfl) rfl hg2 rfl) ?_
        refine TriL.c1 rfl (op_as (ltb rfl) rfl) ?_
        refine TriL.nil ?_
        refine Tri.ret ?_
        exact ⟨.inr rfl, (ResOK.r1 rfl (.tmp rfl .nil)).cast (congrArg AV.bool (by (try simp only [decide_eq_true_eq, decide_eq_false_iff_not, beq_iff_eq, beq_eq_false_iff_ne, ne_eq] at *); (try simp only [rightok]); first | exact beq_eq_decide_of (by omega) | exact decide_eq_decide.2 (by omega) | exact (decide_eq_true (by omega)).symm | exact (decide_eq_false (by omega)).symm)), rfl⟩
      · refine TriL.g1 rfl (ltb rfl) rfl hg3 (op_mv (ltb rfl) rfl) ?_
        refine TriL.g1 rfl (ltb rfl) rfl hg3 (op_bin (ltb rfl) rfl rfl rfl) ?_
        refine TriL.g1 rfl (ltb rfl) rfl hg2 (op_pickf (ltb rfl) rfl hg3 rfl) ?_
        refine TriL.g1 rfl (ltb rfl) rfl hg2 (op_mv (ltb rfl) rfl) ?_
        refine TriL.split (d := 18) rfl (fun hg4 => ?_) (fun hg4 => ?_)
        · refine TriL.skipu rfl rfl (ltb rfl) (ltb rfl) rfl hg4 ?_
          refine TriL.skipu rfl rfl (ltb rfl) (ltb rfl) rfl hg4 ?_
          refine TriL.g1 rfl (ltb rfl) rfl hg2 (op_pickt (ltb rfl) rfl hg4 rfl) ?_
          refine TriL.g1 rfl (ltb rfl) rfl hg2 (op_mv (ltb rfl) rfl) ?_
          refine TriL.skipu rfl rfl (ltb rfl) (ltb rfl) rfl rfl ?_
          refine TriL.skipu rfl rfl (ltb rfl) (ltb rfl) rfl rfl ?_
          refine TriL.g1 rfl (ltb rfl) rfl hg2 (op_pickt (ltb rfl) rfl rfl rfl) ?_
          refine TriL.c1 rfl (op_pickt (ltb rfl) rfl hg2 rfl) ?_
          refine TriL.c1 rfl (op_as (ltb rfl) rfl) ?_
          refine TriL.nil ?_
          refine Tri.ret ?_
          exact ⟨.inr rfl, (ResOK.r1 rfl (.tmp rfl .nil)).cast (congrArg AV.bool (by (try simp only [decide_eq_true_eq, decide_eq_false_iff_not, beq_iff_eq, beq_eq_false_iff_ne, ne_eq] at *); (try simp only [rightok]); first | exact beq_eq_decide_of (by omega) | exact decide_eq_decide.2 (by omega) | exact (decide_eq_true (by omega)).symm | exact (decide_eq_false (by omega)).symm)), rfl⟩
        · refine TriL.g1 rfl (ltb rfl) rfl hg4 (op_mv (ltb rfl) rfl) ?_
          refine TriL.g1 rfl (ltb rfl) rfl hg4 (op_bin (ltb rfl) rfl rfl rfl) ?_
          refine TriL.g1 rfl (ltb rfl) rfl hg2 (op_pickf (ltb rfl) rfl hg4 rfl) ?_
          refine TriL.g1 rfl (ltb rfl) rfl hg2 (op_mv (ltb rfl) rfl) ?_
          refine TriL.split (d := 22) rfl (fun hg5 => ?_) (fun hg5 => ?_)
          · refine TriL.skipu rfl rfl (ltb rfl) (ltb rfl) rfl hg5 ?_
            refine TriL.skipu rfl rfl (ltb rfl) (ltb rfl) rfl hg5 ?_
            refine TriL.g1 rfl (ltb rfl) rfl hg2 (op_pickt (ltb rfl) rfl hg5 rfl) ?_
            refine TriL.c1 rfl (op_pickt (ltb rfl) rfl hg2 rfl) ?_
            refine TriL.c1 rfl (op_as (ltb rfl) rfl) ?_
            refine TriL.nil ?_
            refine Tri.ret ?_
            exact ⟨.inr rfl, (ResOK.r1 rfl (.tmp rfl .nil)).cast (congrArg AV.bool (by (try simp only [decide_eq_true_eq, decide_eq_false_iff_not, beq_iff_eq, beq_eq_false_iff_ne, ne_eq] at *); (try simp only [rightok]); first | exact beq_eq_decide_of (by omega) | exact decide_eq_decide.2 (by omega) | exact (decide_eq_true (by omega)).symm | exact (decide_eq_false (by omega)).symm)), rfl⟩
          · refine TriL.g1 rfl (ltb rfl) rfl hg5 (op_mv (ltb rfl) rfl) ?_
            refine TriL.g1 rfl (ltb rfl) rfl hg5 (op_bin (ltb rfl) rfl rfl rfl) ?_
            refine TriL.g1 rfl (ltb rfl) rfl hg2 (op_pickf (ltb rfl) rfl hg5 rfl) ?_
            refine TriL.c1 rfl (op_pickt (ltb rfl) rfl hg2 rfl) ?_
            refine TriL.c1 rfl (op_as (ltb rfl) rfl) ?_
            refine TriL.nil ?_
            refine Tri.ret ?_
            exact ⟨.inr rfl, (ResOK.r1 rfl (.tmp rfl .nil)).cast (congrArg AV.bool (by (try simp only [decide_eq_true_eq, decide_eq_false_iff_not, beq_iff_eq, beq_eq_false_iff_ne, ne_eq] at *); (try simp only [rightok]); first | exact beq_eq_decide_of (by omega) | exact decide_eq_decide.2 (by omega) | exact (decide_eq_true (by omega)).symm | exact (decide_eq_false (by omega)).symm)), rfl⟩
    · refine TriL.skipu rfl rfl (ltb rfl) (ltb rfl) rfl hg2 ?_
      refine TriL.skipu rfl rfl (ltb rfl) (ltb rfl) rfl hg2 ?_
      refine TriL.skipu rfl rfl (ltb rfl) (ltb rfl) rfl hg2 ?_
      refine TriL.skipg rfl rfl (ltb rfl) (ltb rfl) rfl ?_
      refine TriL.skipg rfl rfl (ltb rfl) (ltb rfl) rfl ?_
      refine TriL.skipu rfl rfl (ltb rfl) (ltb rfl) rfl hg2 ?_
      refine TriL.skipu rfl rfl (ltb rfl) (ltb rfl) rfl hg2 ?_
      refine TriL.skipg rfl rfl (ltb rfl) (ltb rfl) rfl ?_
      refine TriL.skipg rfl rfl (ltb rfl) (ltb rfl) rfl ?_
      refine TriL.skipu rfl rfl (ltb rfl) (ltb rfl) rfl hg2 ?_
      refine TriL.skipu rfl rfl (ltb rfl) (ltb rfl) rfl hg2 ?_
      refine TriL.skipg rfl rfl (ltb rfl) (ltb rfl) rfl ?_
      refine TriL.skipg rfl rfl (ltb rfl) (ltb rfl) rfl ?_
      refine TriL.skipu rfl rfl (ltb rfl) (ltb rfl) rfl hg2 ?_
      refine TriL.c1 rfl (op_pickf (ltb rfl) rfl hg2 rfl) ?_
      refine TriL.c1 rfl (op_as (ltb rfl) rfl) ?_
      refine TriL.nil ?_
      refine Tri.ret ?_
      exact ⟨.inr rfl, (ResOK.r1 rfl (.tmp rfl .nil)).cast (congrArg AV.bool (by (try simp only [decide_eq_true_eq, decide_eq_false_iff_not, beq_iff_eq, beq_eq_false_iff_ne, ne_eq] at *); (try simp only [rightok]); first | exact beq_eq_decide_of (by omega) | exact decide_eq_decide.2 (by omega) | exact (decide_eq_true (by omega)).symm | exact (decide_eq_false (by omega)).symm)), rfl⟩
  · refine TriL.skipu rfl rfl (ltb rfl) (ltb rfl) rfl hg1 ?_
    refine TriL.skipu rfl rfl (ltb rfl) (ltb rfl) rfl hg1 ?_
    refine TriL.c1 rfl (op_pickf (ltb rfl) rfl hg1 rfl) ?_
    refine TriL.c1 rfl (op_mv (ltb rfl) rfl) ?_
    refine TriL.skipu rfl rfl (ltb rfl) (ltb rfl) rfl rfl ?_
    refine TriL.skipu rfl rfl (ltb rfl) (ltb rfl) rfl rfl ?_
    refine TriL.skipu rfl rfl (ltb rfl) (ltb rfl) rfl rfl ?_
    refine TriL.skipg rfl rfl (ltb rfl) (ltb rfl) rfl ?_
    refine TriL.skipg rfl rfl (ltb rfl) (ltb rfl) rfl ?_
    refine TriL.skipu rfl rfl (ltb rfl) (ltb rfl) rfl rfl ?_
    refine TriL.skipu rfl rfl (ltb rfl) (ltb rfl) rfl rfl ?_
    refine TriL.skipg rfl rfl (ltb rfl) (ltb rfl) rfl ?_
    refine TriL.skipg rfl rfl (ltb rfl) (ltb rfl) rfl ?_
    refine TriL.skipu rfl rfl (ltb rfl) (ltb rfl) rfl rfl ?_
    refine TriL.skipu rfl rfl (ltb rfl) (ltb rfl) rfl rfl ?_
    refine TriL.skipg rfl rfl (ltb rfl) (ltb rfl) rfl ?_
    refine TriL.skipg rfl rfl (ltb rfl) (ltb rfl) rfl ?_
    refine TriL.skipu rfl rfl (ltb rfl) (ltb rfl) rfl rfl ?_
    refine TriL.c1 rfl (op_pickf (ltb rfl) rfl rfl rfl) ?_
    refine TriL.c1 rfl (op_as (ltb rfl) rfl) ?_
    refine TriL.nil ?_
    refine Tri.ret ?_
    exact ⟨.inr rfl, (ResOK.r1 rfl (.tmp rfl .nil)).cast (congrArg AV.bool (by (try simp only [decide_eq_true_eq, decide_eq_false_iff_not, beq_iff_eq, beq_eq_false_iff_ne, ne_eq] at *); (try simp only [rightok]); first | exact beq_eq_decide_of (by omega) | exact decide_eq_decide.2 (by omega) | exact (decide_eq_true (by omega)).symm | exact (decide_eq_false (by omega)).symm)), rfl⟩
theorem split_ok (u : Nat) (h : rightok ((u / 8 : Nat) : Int) ((u % 8 : Nat) : Int) = true) : Pure Try.prog 47 [.int .u64 (u : Int)] (.tup [.int .i64 ((u / 8 : Nat) : Int), .int .i64 ((u % 8 : Nat) : Int), .bool true]) := by
  have hq := of_decide_eq_true h
  have e1 : IntKind.u64.wrap ((u : Int).tdiv 8) = ((u / 8 : Nat) : Int) := by rw [Int.tdiv_eq_ediv_of_nonneg (by omega), wru64 (by omega) (by omega)]; omega
  have e2 : (u : Int).tmod 8 = ((u % 8 : Nat) : Int) := by rw [Int.tmod_eq_emod_of_nonneg (by omega)]; omega
  refine Pure.of_tri Try.func47 rfl rfl (ltb rfl) fun H => ?_
  refine Tri.seq ?_
  refine Tri.region ?_
  refine TriL.c1 rfl (op_as (ltb rfl) rfl) ?_
  refine TriL.c1 rfl (op_as (ltb rfl) rfl) ?_
  refine TriL.c1 rfl (op_as (ltb rfl) rfl) ?_
  refine TriL.nil ?_
  refine Tri.seq ?_
  refine Tri.seq ?_
  refine Tri.region ?_
  refine TriL.c1 rfl (op_mv (ltb rfl) rfl) ?_
  refine TriL.c1 rfl (op_bin (ltb rfl) rfl rfl rfl) ?_
  refine TriL.c1 rfl (op_bin (ltb rfl) rfl rfl rfl) ?_
  refine TriL.c1 rfl (op_mv (ltb rfl) rfl) ?_
  refine TriL.g1 rfl (ltb rfl) rfl (by rw [e1]; exact decide_eq_false (by omega)) (op_mv (ltb rfl) rfl) ?_
  refine TriL.g1 rfl (ltb rfl) rfl (by rw [e1]; exact decide_eq_false (by omega)) (op_bin (ltb rfl) rfl rfl rfl) ?_
  refine TriL.g1 rfl (ltb rfl) rfl (by rw [e1]; exact decide_eq_false (by omega)) (op_cvi (ltb rfl) un50 un3 rfl) ?_
  refine TriL.g1 rfl (ltb rfl) rfl (by rw [e1]; exact decide_eq_false (by omega)) (op_mv (ltb rfl) rfl) ?_
  refine TriL.g1 rfl (ltb rfl) rfl (by rw [e1]; exact decide_eq_false (by omega)) (op_bin (ltb rfl) rfl rfl rfl) ?_
  refine TriL.g1 rfl (ltb rfl) rfl (by rw [e1]; exact decide_eq_false (by omega)) (op_cvi (ltb rfl) un50 un3 rfl) ?_
  refine TriL.g1 rfl (ltb rfl) rfl (by rw [e1]; exact decide_eq_false (by omega)) (op_call (ltb rfl) fn60 rfl (right4_pure _ _)) ?_
  refine TriL.g1 rfl (ltb rfl) rfl (by rw [e1]; exact decide_eq_false (by omega)) (op_un (ltb rfl) rfl rfl) ?_
  refine TriL.c1 rfl (op_pickf (ltb rfl) rfl (by rw [e1]; exact decide_eq_false (by omega)) rfl) ?_
  refine TriL.nil ?_
  refine Tri.condF rfl (by rw [e1, e2, wr64 (n := ((u / 8 : Nat) : Int)) (by omega) (by omega), wr64 (n := ((u % 8 : Nat) : Int)) (by omega) (by omega), h]; rfl) ?_
  refine Tri.skip ?_
  refine Tri.seq ?_
  refine Tri.region ?_
  refine TriL.c1 rfl (op_mv (ltb rfl) rfl) ?_
  refine TriL.c1 rfl (op_bin (ltb rfl) rfl rfl rfl) ?_
  refine TriL.c1 rfl (op_cvi (ltb rfl) un50 un3 rfl) ?_
  refine TriL.c1 rfl (op_mv (ltb rfl) rfl) ?_
  refine TriL.c1 rfl (op_bin (ltb rfl) rfl rfl rfl) ?_
  refine TriL.c1 rfl (op_cvi (ltb rfl) un50 un3 rfl) ?_
  refine TriL.c1 rfl (op_as (ltb rfl) rfl) ?_
  refine TriL.c1 rfl (op_as (ltb rfl) rfl) ?_
  refine TriL.c1 rfl (op_as (ltb rfl) rfl) ?_
  refine TriL.nil ?_
  refine Tri.ret ?_
  exact ⟨.inr rfl, (ResOK.r3 rfl (.tmp rfl (.tmp rfl (.tmp rfl .nil)))).cast (by rw [e1, e2, wr64 (n := ((u / 8 : Nat) : Int)) (by omega) (by omega), wr64 (n := ((u % 8 : Nat) : Int)) (by omega) (by omega)]), rfl⟩
/-- the number that bytes begin with, and how many bytes it has: from the place i on, 'n' so far, the next bits worth 'm' -/
def vgetA : Nat → List UInt8 → Nat → Nat → Nat → Nat × Nat
  | 0, _, _, _, _ => (0, 0)
  | _ + 1, [], _, _, _ => (0, 0)
  | k + 1, c :: r, i, n, m => if k = 0 ∧ 1 < c.toNat then (0, 0) else if c.toNat < 128 then ((n + c.toNat % 128 * m % 18446744073709551616) % 18446744073709551616, i + 1) else vgetA k r (i + 1) ((n + c.toNat % 128 * m % 18446744073709551616) % 18446744073709551616) (m * 128 % 18446744073709551616)
def vget (b : List UInt8) : Nat × Nat := vgetA 10 b 0 0 1
theorem vgetA_put : ∀ (x k : Nat) (r : List UInt8) (i n m : Nat), n + x * m < 18446744073709551616 → 1 ≤ m → (k = 0 → m = 9223372036854775808) → m * 128 ^ k = 9223372036854775808 → vgetA (k + 1) (vput x ++ r) i n m = (n + x * m, i + (vput x).length) := by
  intro x
  induction x using Nat.strongRecOn with
  | _ x ih =>
    intro k r i n m h hm hk0 hk
    by_cases hx : x < 128
    · have hc : (UInt8.ofNat x).toNat = x := by rw [UInt8.toNat_ofNat_of_lt' (by simp [UInt8.size]; omega)]
      have h1 : ¬ (k = 0 ∧ 1 < (UInt8.ofNat x).toNat) := by
        rintro ⟨h1, h2⟩
        have := hk0 h1
        rw [hc] at h2; subst this; omega
      have hxm : x * m < 18446744073709551616 := by omega
      rw [vput_lo hx, List.cons_append, List.nil_append, vgetA, if_neg h1, if_pos (by rw [hc]; exact hx), hc, Nat.mod_eq_of_lt hx, Nat.mod_eq_of_lt hxm, Nat.mod_eq_of_lt h]
      rfl
    · have hc : (UInt8.ofNat (x % 128 + 128)).toNat = x % 128 + 128 := by rw [UInt8.toNat_ofNat_of_lt' (by simp [UInt8.size]; omega)]
      have hk1 : k ≠ 0 := by
        intro e
        have := hk0 e
        subst this; omega
      have hmod : (x % 128 + 128) % 128 = x % 128 := by omega
      have hsum : x * m = x % 128 * m + x / 128 * (m * 128) := by
        rw [show x / 128 * (m * 128) = (x / 128 * 128) * m by rw [Nat.mul_comm m 128, ← Nat.mul_assoc], ← Nat.add_mul]
        congr 1; omega
      have hm2 : m * 128 < 18446744073709551616 := by
        have : m * 128 ≤ x * m := by rw [Nat.mul_comm x m]; exact Nat.mul_le_mul_left _ (by omega)
        omega
      have hp : x % 128 * m < 18446744073709551616 := by omega
      have hn : n + x % 128 * m < 18446744073709551616 := by omega
      obtain ⟨k', rfl⟩ : ∃ k', k = k' + 1 := ⟨k - 1, by omega⟩
      rw [vput_hi hx, List.cons_append, vgetA, if_neg (fun e => hk1 e.1), if_neg (by rw [hc]; omega), hc, hmod, Nat.mod_eq_of_lt hp, Nat.mod_eq_of_lt hn, Nat.mod_eq_of_lt hm2]
      have hk2 : m * 128 * 128 ^ k' = 9223372036854775808 := by rw [← hk, Nat.pow_succ, Nat.mul_assoc, Nat.mul_comm 128]
      rw [ih (x / 128) (by omega) k' r (i + 1) _ (m * 128) (by omega) (by omega) (fun e => by subst e; simpa using hk2) hk2, List.length_cons]
      congr 1
      · omega
      · omega
theorem vget_put (x : Nat) (r : List UInt8) (h : x < 18446744073709551616) : vget (vput x ++ r) = (x, (vput x).length) := by
  rw [vget, vgetA_put x 9 r 0 0 1 (by omega) (by omega) (by omega) (by decide)]; simp
def StG (H : Hp) (b : List UInt8) (n m i : Nat) (j : Int) : St := [(.h, .hp H), (.s 0, .sv (.v (.sl (bsl b)))), (.s 4, .sv (.v (.int .u64 (n : Int)))), (.s 5, .sv (.v (.int .u64 (m : Int)))), (.s 6, .sv (.v (.int .i64 j)))]
theorem getw (c : UInt8) (n m : Nat) : IntKind.u64.wrap ((n : Int) + IntKind.u64.wrap (IntKind.u64.wrap (((c.toNat : Nat) : Int).tmod 128) * (m : Int))) = (((n + c.toNat % 128 * m % 18446744073709551616) % 18446744073709551616 : Nat) : Int) := by
  have e : ((c.toNat : Nat) : Int).tmod 128 = ((c.toNat % 128 : Nat) : Int) := by rw [Int.tmod_eq_emod_of_nonneg (by omega)]; omega
  rw [e, wru64 (n := ((c.toNat % 128 : Nat) : Int)) (by omega) (by omega), ← Int.natCast_mul, wru64_mod, ← Int.natCast_add, wru64_mod]
theorem getm (m : Nat) : IntKind.u64.wrap ((m : Int) * 128) = ((m * 128 % 18446744073709551616 : Nat) : Int) := by
  rw [show ((m : Int) * 128) = ((m * 128 : Nat) : Int) by rw [Int.natCast_mul]; rfl, wru64_mod]
theorem tup2 {a b c d : AV} (h : a = c) (k : b = d) : AV.tup [a, b] = AV.tup [c, d] := by rw [h, k]
theorem get1_pure (b : List UInt8) : Pure Try.prog 61 [.sl (bsl b)] (.tup [.int .u64 ((vget b).1 : Nat), .int .i64 ((vget b).2 : Nat)]) := by
  refine Pure.of_tri Try.func61 rfl rfl (ltb rfl) fun H => ?_
  refine Tri.seq ?_
  refine Tri.region ?_
  refine TriL.c1 rfl (op_as (ltb rfl) rfl) ?_
  refine TriL.c1 rfl (op_as (ltb rfl) rfl) ?_
  refine TriL.nil ?_
  refine Tri.seq ?_
  refine Tri.region ?_
  refine TriL.c1 rfl (op_as (ltb rfl) rfl) ?_
  refine TriL.c1 rfl (op_as (ltb rfl) rfl) ?_
  refine TriL.nil ?_
  refine Tri.seq ?_
  refine Tri.seq ?_
  refine Tri.region ?_
  refine TriL.c1 rfl (op_as (ltb rfl) rfl) ?_
  refine TriL.kept (Kept.keep [.h, .s 0, .s 4, .s 5, .s 6] rfl (by decide) (Kept.now ?_))
  refine Tri.blk ?_
  -- LOOP 1: KEEP
  refine Tri.loop (fun q s => ∃ (i n m : Nat) (j : Int), s = StG H b n m i j ∧ j = i ∧ i ≤ 10 ∧ vget b = vgetA (10 - i) (b.drop i) i n m ∧ q = 10 - i) ?_ (n := 10) ⟨0, 0, 1, 0, rfl, rfl, by omega, rfl, rfl⟩
  rintro q s ⟨i, n, m, j, rfl, hj, hi, hv, rfl⟩
  have hbl := bsl_len b
  refine Tri.seq ?_
  refine Tri.seq ?_
  refine Tri.region ?_
  refine TriL.c1 rfl (op_mv (ltb rfl) rfl) ?_
  refine TriL.c1 rfl (op_mv (ltb rfl) rfl) ?_
  refine TriL.c1 rfl (op_lenl (ltb rfl) un22 rfl) ?_
  refine TriL.c1 rfl (op_bin (ltb rfl) rfl rfl rfl) ?_
  refine TriL.c1 rfl (op_mv (ltb rfl) rfl) ?_
  refine TriL.split (d := 11) rfl (fun hg1 => ?_) (fun hg1 => ?_)
  · refine TriL.g1 rfl (ltb rfl) rfl hg1 (op_mv (ltb rfl) rfl) ?_
    refine TriL.g1 rfl (ltb rfl) rfl hg1 (op_bin (ltb rfl) rfl rfl rfl) ?_
    refine TriL.c1 rfl (op_pickt (ltb rfl) rfl hg1 rfl) ?_
    refine TriL.nil ?_
    refine Tri.cond rfl (fun hc2 => ?_) (fun hc2 => ?_)
    · have hlt : i < b.length := by have := of_decide_eq_true hg1; omega
      have h10 : i < 10 := by have := of_decide_eq_true hc2; omega
      obtain ⟨c, hc⟩ : ∃ c, b[i]? = some c := ⟨b[i], List.getElem?_eq_getElem hlt⟩
      have hdr : b.drop i = c :: b.drop (i + 1) := by rw [List.drop_eq_getElem_cons hlt]; congr 1; rw [List.getElem?_eq_getElem hlt] at hc; cases hc; rfl
      have hkk : 10 - i = (9 - i) + 1 := by omega
      have hv1 := hv
      rw [hdr, hkk, vgetA] at hv1
      refine Tri.skip ?_
      refine Tri.seq ?_
      refine Tri.blk ?_
      refine Tri.seq ?_
      refine Tri.seq ?_
      refine Tri.region ?_
      refine TriL.c1 rfl (op_mv (ltb rfl) rfl) ?_
      refine TriL.c1 rfl (op_bin (ltb rfl) rfl rfl rfl) ?_
      refine TriL.c1 rfl (op_mv (ltb rfl) rfl) ?_
      refine TriL.split (d := 19) rfl (fun hg3 => ?_) (fun hg3 => ?_)
      · refine TriL.g1 rfl (ltb rfl) rfl hg3 (op_mv (ltb rfl) rfl) ?_
        refine TriL.g1 rfl (ltb rfl) rfl hg3 (op_mv (ltb rfl) rfl) ?_
        refine TriL.g1 rfl (ltb rfl) rfl hg3 (op_iak (ltb rfl) ie22 rfl rfl (by omega) (bsl_get hj hc) rfl) ?_
        refine TriL.g1 rfl (ltb rfl) rfl hg3 (op_ldk (ltb rfl) lk5 rfl rfl) ?_
        refine TriL.g1 rfl (ltb rfl) rfl hg3 (op_bin (ltb rfl) rfl rfl rfl) ?_
        refine TriL.c1 rfl (op_pickt (ltb rfl) rfl hg3 rfl) ?_
        refine TriL.nil ?_
        refine Tri.cond rfl (fun hc4 => ?_) (fun hc4 => ?_)
        · refine Tri.seq ?_
          refine Tri.region ?_
          refine TriL.c1 rfl (op_as (ltb rfl) rfl) ?_
          refine TriL.c1 rfl (op_as (ltb rfl) rfl) ?_
          refine TriL.nil ?_
          refine Tri.ret ?_
          exact ⟨.inr rfl, (ResOK.r2 rfl (.tmp rfl (.tmp rfl .nil))).cast (by rw [if_pos ⟨by have := eq_of_beq hg3; omega, by have := of_decide_eq_true hc4; omega⟩] at hv1; rw [hv1]; rfl), rfl⟩
        · rw [if_neg (by have := of_decide_eq_false hc4; omega)] at hv1
          refine Tri.skip ?_
          refine Tri.seq ?_
          refine Tri.region ?_
          refine TriL.c1 rfl (op_mv (ltb rfl) rfl) ?_
          refine TriL.c1 rfl (op_mv (ltb rfl) rfl) ?_
          refine TriL.c1 rfl (op_mv (ltb rfl) rfl) ?_
          refine TriL.c1 rfl (op_iak (ltb rfl) ie22 rfl rfl (by omega) (bsl_get hj hc) rfl) ?_
          refine TriL.c1 rfl (op_ldk (ltb rfl) lk5 rfl rfl) ?_
          refine TriL.c1 rfl (op_bin (ltb rfl) rfl rfl rfl) ?_
          refine TriL.c1 rfl (op_cvi (ltb rfl) un5 un50 rfl) ?_
          refine TriL.c1 rfl (op_mv (ltb rfl) rfl) ?_
          refine TriL.c1 rfl (op_bin (ltb rfl) rfl rfl rfl) ?_
          refine TriL.c1 rfl (op_bin (ltb rfl) rfl rfl rfl) ?_
          refine TriL.c1 rfl (op_as (ltb rfl) rfl) ?_
          refine TriL.nil ?_
          refine Tri.seq ?_
          refine Tri.region ?_
          refine TriL.c1 rfl (op_mv (ltb rfl) rfl) ?_
          refine TriL.c1 rfl (op_bin (ltb rfl) rfl rfl rfl) ?_
          refine TriL.c1 rfl (op_as (ltb rfl) rfl) ?_
          refine TriL.nil ?_
          refine Tri.seq ?_
          refine Tri.region ?_
          refine TriL.c1 rfl (op_mv (ltb rfl) rfl) ?_
          refine TriL.c1 rfl (op_mv (ltb rfl) rfl) ?_
          refine TriL.c1 rfl (op_iak (ltb rfl) ie22 rfl rfl (by omega) (bsl_get hj hc) rfl) ?_
          refine TriL.c1 rfl (op_ldk (ltb rfl) lk5 rfl rfl) ?_
          refine TriL.c1 rfl (op_bin (ltb rfl) rfl rfl rfl) ?_
          refine TriL.nil ?_
          refine Tri.cond rfl (fun hc5 => ?_) (fun hc5 => ?_)
          · refine Tri.seq ?_
            refine Tri.region ?_
            refine TriL.c1 rfl (op_mv (ltb rfl) rfl) ?_
            refine TriL.c1 rfl (op_mv (ltb rfl) rfl) ?_
            refine TriL.c1 rfl (op_bin (ltb rfl) rfl rfl rfl) ?_
            refine TriL.c1 rfl (op_as (ltb rfl) rfl) ?_
            refine TriL.c1 rfl (op_as (ltb rfl) rfl) ?_
            refine TriL.nil ?_
            refine Tri.ret ?_
            exact ⟨.inr rfl, (ResOK.r2 rfl (.tmp rfl (.tmp rfl .nil))).cast (by rw [if_pos (by have := of_decide_eq_true hc5; omega)] at hv1; rw [hv1, getw, hj, wr64 (by omega) (by omega)]; rfl), rfl⟩
          · refine Tri.skip ?_
            refine Tri.region ?_
            refine TriL.c1 rfl (op_mv (ltb rfl) rfl) ?_
            refine TriL.c1 rfl (op_bin (ltb rfl) rfl rfl rfl) ?_
            refine TriL.c1 rfl (op_as (ltb rfl) rfl) ?_
            refine TriL.kept (Kept.keep [.h, .s 0, .s 4, .s 5, .s 6] rfl (by decide) (Kept.now ?_))
            refine ⟨10 - (i + 1), by omega, i + 1, (n + c.toNat % 128 * m % 18446744073709551616) % 18446744073709551616, m * 128 % 18446744073709551616, IntKind.i64.wrap (j + 1), ?_, by rw [hj, wr64] <;> omega, by omega, ?_, rfl⟩
            · rw [getw, getm]; rfl
            · have hnl : ¬ c.toNat < 128 := by have := of_decide_eq_false hc5; omega
              rw [hv1, if_neg hnl, show 10 - (i + 1) = 9 - i by omega]
      · rw [if_neg (by have := beq_eq_false_iff_ne.1 hg3; omega)] at hv1
        refine TriL.skipu rfl rfl (ltb rfl) (ltb rfl) rfl hg3 ?_
        refine TriL.skipu rfl rfl (ltb rfl) (ltb rfl) rfl hg3 ?_
        refine TriL.skipu rfl rfl (ltb rfl) (ltb rfl) rfl hg3 ?_
        refine TriL.skipu rfl rfl (ltb rfl) (ltb rfl) rfl hg3 ?_
        refine TriL.skipu rfl rfl (ltb rfl) (ltb rfl) rfl hg3 ?_
        refine TriL.c1 rfl (op_pickf (ltb rfl) rfl hg3 rfl) ?_
        refine TriL.nil ?_
        refine Tri.condF rfl rfl ?_
        refine Tri.skip ?_
        refine Tri.seq ?_
        refine Tri.region ?_
        refine TriL.c1 rfl (op_mv (ltb rfl) rfl) ?_
        refine TriL.c1 rfl (op_mv (ltb rfl) rfl) ?_
        refine TriL.c1 rfl (op_mv (ltb rfl) rfl) ?_
        refine TriL.c1 rfl (op_iak (ltb rfl) ie22 rfl rfl (by omega) (bsl_get hj hc) rfl) ?_
        refine TriL.c1 rfl (op_ldk (ltb rfl) lk5 rfl rfl) ?_
        refine TriL.c1 rfl (op_bin (ltb rfl) rfl rfl rfl) ?_
        refine TriL.c1 rfl (op_cvi (ltb rfl) un5 un50 rfl) ?_
        refine TriL.c1 rfl (op_mv (ltb rfl) rfl) ?_
        refine TriL.c1 rfl (op_bin (ltb rfl) rfl rfl rfl) ?_
        refine TriL.c1 rfl (op_bin (ltb rfl) rfl rfl rfl) ?_
        refine TriL.c1 rfl (op_as (ltb rfl) rfl) ?_
        refine TriL.nil ?_
        refine Tri.seq ?_
        refine Tri.region ?_
        refine TriL.c1 rfl (op_mv (ltb rfl) rfl) ?_
        refine TriL.c1 rfl (op_bin (ltb rfl) rfl rfl rfl) ?_
        refine TriL.c1 rfl (op_as (ltb rfl) rfl) ?_
        refine TriL.nil ?_
        refine Tri.seq ?_
        refine Tri.region ?_
        refine TriL.c1 rfl (op_mv (ltb rfl) rfl) ?_
        refine TriL.c1 rfl (op_mv (ltb rfl) rfl) ?_
        refine TriL.c1 rfl (op_iak (ltb rfl) ie22 rfl rfl (by omega) (bsl_get hj hc) rfl) ?_
        refine TriL.c1 rfl (op_ldk (ltb rfl) lk5 rfl rfl) ?_
        refine TriL.c1 rfl (op_bin (ltb rfl) rfl rfl rfl) ?_
        refine TriL.nil ?_
        refine Tri.cond rfl (fun hc6 => ?_) (fun hc6 => ?_)
        · refine Tri.seq ?_
          refine Tri.region ?_
          refine TriL.c1 rfl (op_mv (ltb rfl) rfl) ?_
          refine TriL.c1 rfl (op_mv (ltb rfl) rfl) ?_
          refine TriL.c1 rfl (op_bin (ltb rfl) rfl rfl rfl) ?_
          refine TriL.c1 rfl (op_as (ltb rfl) rfl) ?_
          refine TriL.c1 rfl (op_as (ltb rfl) rfl) ?_
          refine TriL.nil ?_
          refine Tri.ret ?_
          exact ⟨.inr rfl, (ResOK.r2 rfl (.tmp rfl (.tmp rfl .nil))).cast (by rw [if_pos (by have := of_decide_eq_true hc6; omega)] at hv1; rw [hv1, getw, hj, wr64 (by omega) (by omega)]; rfl), rfl⟩
        · refine Tri.skip ?_
          refine Tri.region ?_
          refine TriL.c1 rfl (op_mv (ltb rfl) rfl) ?_
          refine TriL.c1 rfl (op_bin (ltb rfl) rfl rfl rfl) ?_
          refine TriL.c1 rfl (op_as (ltb rfl) rfl) ?_
          refine TriL.kept (Kept.keep [.h, .s 0, .s 4, .s 5, .s 6] rfl (by decide) (Kept.now ?_))
          refine ⟨10 - (i + 1), by omega, i + 1, (n + c.toNat % 128 * m % 18446744073709551616) % 18446744073709551616, m * 128 % 18446744073709551616, IntKind.i64.wrap (j + 1), ?_, by rw [hj, wr64] <;> omega, by omega, ?_, rfl⟩
          · rw [getw, getm]; rfl
          · have hnl : ¬ c.toNat < 128 := by have := of_decide_eq_false hc6; omega
            rw [hv1, if_neg hnl, show 10 - (i + 1) = 9 - i by omega]
    · refine Tri.exit ?_
      refine Tri.seq ?_
      refine Tri.region ?_
      refine TriL.c1 rfl (op_as (ltb rfl) rfl) ?_
      refine TriL.c1 rfl (op_as (ltb rfl) rfl) ?_
      refine TriL.nil ?_
      refine Tri.ret ?_
      exact ⟨.inr rfl, (ResOK.r2 rfl (.tmp rfl (.tmp rfl .nil))).cast (by rw [show 10 - i = 0 by have := of_decide_eq_false hc2; omega] at hv; rw [hv]; rfl), rfl⟩
  · refine TriL.skipu rfl rfl (ltb rfl) (ltb rfl) rfl hg1 ?_
    refine TriL.skipu rfl rfl (ltb rfl) (ltb rfl) rfl hg1 ?_
    refine TriL.c1 rfl (op_pickf (ltb rfl) rfl hg1 rfl) ?_
    refine TriL.nil ?_
    refine Tri.condF rfl rfl ?_
    refine Tri.exit ?_
    refine Tri.seq ?_
    refine Tri.region ?_
    refine TriL.c1 rfl (op_as (ltb rfl) rfl) ?_
    refine TriL.c1 rfl (op_as (ltb rfl) rfl) ?_
    refine TriL.nil ?_
    refine Tri.ret ?_
    exact ⟨.inr rfl, (ResOK.r2 rfl (.tmp rfl (.tmp rfl .nil))).cast (by rw [List.drop_of_length_le (by have := of_decide_eq_false hg1; omega)] at hv; rw [hv]; cases 10 - i <;> rfl), rfl⟩
end Go.Proofs.Ytecjdohpfijmpaa.X
/- The reference's cursor, where it does not fail. -/
set_option linter.unusedVariables false
set_option linter.unusedSimpArgs false
namespace Go.Proofs.Ytecjdohpfijmpaa.X
open Go Go.RowKit Go.Proofs
theorem fn47 : isFn Try.prog 47 = true := by kernel_rfl
theorem fn48 : isFn Try.prog 48 = true := by kernel_rfl
theorem fn50 : isFn Try.prog 50 = true := by kernel_rfl
theorem fn51 : isFn Try.prog 51 = true := by kernel_rfl
theorem fn61 : isFn Try.prog 61 = true := by kernel_rfl
theorem fo43_0 : fo Try.prog 43 0 = some 0 := by kernel_rfl
theorem fo43_1 : fo Try.prog 43 1 = some 1 := by kernel_rfl
theorem fo43_2 : fo Try.prog 43 2 = some 2 := by kernel_rfl
theorem fo43_3 : fo Try.prog 43 3 = some 3 := by kernel_rfl
theorem ie41 : ie Try.prog 41 = some 1 := by kernel_rfl
theorem lk41 : lk Try.prog 41 = some (false, 1) := by kernel_rfl
theorem se41 : se Try.prog 41 = some (3, 1, 8) := by kernel_rfl
theorem spl43 : spl Try.prog 43 = some [(0, 1), (1, 1), (2, 1), (3, 1)] := by kernel_rfl
theorem un41 : Try.prog.underlying 41 = some (TypeDesc.slice 3) := Try.underlying41
theorem zAe41 : zeroA Try.prog 3 = some [AV.int IntKind.i64 (0)] := by kernel_rfl
theorem zN43 : zeroN Try.prog 43 = some [.nsl, .int .i64 0, .nsl, .bool false] := by kernel_rfl
def il (l : List Nat) : List AV := l.map fun (e : Nat) => .int .i64 (e : Int)
theorem il_len (l : List Nat) : (il l).length = l.length := by simp [il]
theorem il_app (l m : List Nat) : il (l ++ m) = il l ++ il m := by simp [il]
theorem il_fm (l : List Nat) : (il l).flatMap AV.cells = il l := by
  induction l with
  | nil => rfl
  | cons a l ih => simp only [il, List.map_cons, List.flatMap_cons] at ih ⊢; rw [ih]; rfl
theorem il_last (es : List Nat) (e : Nat) : ((il (es ++ [e])).flatMap AV.cells).drop (es.length * 1) = [.int .i64 (e : Int)] := by
  rw [il_fm, il_app, Nat.mul_one, List.drop_append_of_le_length (by rw [il_len]; omega), List.drop_of_length_le (by rw [il_len]; exact Nat.le_refl _)]; rfl
/-- a cursor: its bytes, the place, the frames' ends -/
def curs (b : List UInt8) (p : Nat) (ends : List Nat) (bad : Bool) : List Hc := [.v (.sl (bsl b)), .v (.int .i64 (p : Int)), .row 3 1 (il ends), .v (.bool bad)]
theorem bsl_es (b : List UInt8) : ∀ e ∈ bsl b, e.cells.length = 1 := by
  intro e he; simp only [bsl, List.mem_map] at he; obtain ⟨c, _, rfl⟩ := he; rfl
theorem bsl_cut (b : List UInt8) (i j : Nat) : ((bsl b).drop i).take j = bsl ((b.drop i).take j) := by simp [bsl]
theorem get1_pure' {xs : List AV} {b : List UInt8} {n k : Nat} (e : xs = bsl b) (h : vget b = (n, k)) : Pure Try.prog 61 [.sl xs] (.tup [.int .u64 (n : Int), .int .i64 (k : Int)]) := by
  subst e; have := get1_pure b; rw [h] at this; exact this
theorem from_run (H : Hp) (b : List UInt8) : Run Try.prog 20 [.sl (bsl b)] H (.op H.next 0) (H.add (curs b 0 [b.length] false)) := by
  refine Run.of_tri Try.func20 rfl rfl (ltb rfl) ?_
  refine Tri.seq ?_
  refine Tri.region ?_
  refine TriL.c1 rfl (op_as (ltb rfl) rfl) ?_
  refine TriL.nil ?_
  refine Tri.seq ?_
  refine Tri.region ?_
  refine TriL.c1 rfl (op_mv (ltb rfl) rfl) ?_
  refine TriL.c1 rfl (op_mv (ltb rfl) rfl) ?_
  refine TriL.c1 rfl (op_lenl (ltb rfl) un22 rfl) ?_
  refine TriL.c2 rfl (op_littm («as» := [_]) (ltb rfl) se41 zAe41 rfl rfl rfl (leb rfl) rfl) ?_
  refine TriL.bldbox (ltb rfl) (ltb rfl) spl43 zN43 rfl rfl rfl ?_
  refine TriL.c1 rfl (op_as (ltb rfl) rfl) ?_
  refine TriL.kept (Kept.pub 8 rfl rfl (Kept.op 2 rfl rfl (Kept.cls 8 rfl rfl rfl rfl (Kept.now ?_))))
  refine Tri.ret ?_
  refine ⟨.inr rfl, ResOK.r1 rfl (.tmp rfl .nil), ?_⟩
  rw [show curs b 0 [b.length] false = [.v (.sl (bsl b)), .v (.int .i64 0), .row 3 1 [.int .i64 ((bsl b).length : Int)], .v (.bool false)] by rw [bsl_len]; rfl]
  rfl
theorem end_run (H : Hp) (id : Nat) (b : List UInt8) (p : Nat) (es : List Nat) (e : Nat) (bad : Bool) (ho : H.obj id = some (curs b p (es ++ [e]) bad)) (hl : es.length ≤ 1048576) : Run Try.prog 51 [.op id 0] H (.int .i64 (e : Int)) H := by
  have hll : (il (es ++ [e])).length = es.length + 1 := by rw [il_len]; simp
  have hn : IntKind.i64.wrap (((il (es ++ [e])).length : Int) - 1) = (es.length : Int) := by rw [hll, wr64] <;> omega
  have hnn : ((es.length : Nat) : Int).toNat = es.length := rfl
  refine Run.of_tri Try.func51 rfl rfl (ltb rfl) ?_
  refine Tri.seq ?_
  refine Tri.region ?_
  refine TriL.c1 rfl (op_as (ltb rfl) rfl) ?_
  refine TriL.nil ?_
  refine Tri.seq ?_
  refine Tri.ofKept (Kept.opn 100 id 100 rfl ho rfl rfl (Kept.lp 0 100 rfl rfl (Kept.now ?_)))
  refine Tri.drawn mixed rfl ?_
  refine TriD.c1 rfl (op_mv (ltb rfl) rfl) ?_
  refine TriD.c1 rfl (op_nckl (ltb rfl) rfl) ?_
  refine TriD.c1 rfl (op_fal (ltb rfl) fo43_2 rfl) ?_
  refine TriD.c1 rfl (op_ldo (ltb rfl) lk41 rfl rfl rfl) ?_
  refine TriD.c1 rfl (op_mv (ltb rfl) rfl) ?_
  refine TriD.c1 rfl (op_nckl (ltb rfl) rfl) ?_
  refine TriD.c1 rfl (op_fal (ltb rfl) fo43_2 rfl) ?_
  refine TriD.c1 rfl (op_ldo (ltb rfl) lk41 rfl rfl rfl) ?_
  refine TriD.c1 rfl (op_lenom (ltb rfl) un41 rfl) ?_
  refine TriD.c1 rfl (op_bin (ltb rfl) rfl rfl rfl) ?_
  refine TriD.c1 rfl (op_iam (ltb rfl) ie41 rfl rfl rfl (by rw [hn]; omega) (by rw [hn, hll]; omega)) ?_
  refine TriD.c1 rfl (op_ldt (ltb rfl) lk3 rfl rfl (by rw [hn, hnn, il_last]; rfl)) ?_
  refine TriD.c1 rfl (op_as (ltb rfl) rfl) ?_
  refine TriD.nil (by kernel_rfl) (Kept.op 0 rfl rfl (Kept.cls 100 rfl rfl rfl rfl (Kept.now ?_)))
  refine Tri.ret ?_
  refine ⟨.inr rfl, ResOK.r1 rfl (.tmp rfl .nil), ?_⟩
  have e : (H.del id).set id (curs b p (es ++ [e]) bad) = H := by rw [Hp.del_set, Hp.set_same ho]
  exact congrArg (fun h => some (CV.hp h)) e
theorem cvarint_run (H : Hp) (id : Nat) (b : List UInt8) (p : Nat) (es : List Nat) (e n k : Nat) (ho : H.obj id = some (curs b p (es ++ [e]) false)) (hl : es.length ≤ 1048576) (hg : vget ((b.drop p).take (e - p)) = (n, k)) (hk : 0 < k) (h1 : p + k ≤ e) (h2 : e ≤ b.length) (hb : b.length ≤ 4611686018427387904) : Run Try.prog 48 [.op id 0] H (.int .u64 (n : Int)) (H.set id (curs b (p + k) (es ++ [e]) false)) := by
  refine Run.of_tri Try.func48 rfl rfl (ltb rfl) ?_
  refine Tri.seq ?_
  refine Tri.region ?_
  refine TriL.c1 rfl (op_as (ltb rfl) rfl) ?_
  refine TriL.nil ?_
  refine Tri.seq ?_
  refine Tri.seq ?_
  refine Tri.region ?_
  refine TriL.c1 rfl (op_mv (ltb rfl) rfl) ?_
  refine TriL.c1 rfl (op_nckc (ltb rfl) rfl) ?_
  refine TriL.c1 rfl (op_fac (ltb rfl) fo43_3 rfl) ?_
  refine TriL.c1 rfl (op_ldc (ltb rfl) lk4 rfl rfl ho rfl) ?_
  refine TriL.nil ?_
  refine Tri.condF rfl rfl ?_
  refine Tri.skip ?_
  refine Tri.seq ?_
  refine Tri.drawn mixed rfl ?_
  refine TriD.c1 rfl (op_mv (ltb rfl) rfl) ?_
  refine TriD.c1 rfl (op_nckc (ltb rfl) rfl) ?_
  refine TriD.c1 rfl (op_fac (ltb rfl) fo43_0 rfl) ?_
  refine TriD.c1 rfl (op_ldc (ltb rfl) lk22 rfl rfl ho rfl) ?_
  refine TriD.c1 rfl (op_mv (ltb rfl) rfl) ?_
  refine TriD.c1 rfl (op_nckc (ltb rfl) rfl) ?_
  refine TriD.c1 rfl (op_fac (ltb rfl) fo43_1 rfl) ?_
  refine TriD.c1 rfl (op_ldc (ltb rfl) lk3 rfl rfl ho rfl) ?_
  refine TriD.c1 rfl (op_mv (ltb rfl) rfl) ?_
  refine TriD.c1 rfl (op_callk (ltb rfl) fn51 rfl rfl (end_run H id b p es e false ho hl)) ?_
  refine TriD.c1 rfl (op_cutl (ltb rfl) ie22 rfl (bsl_es b) rfl rfl (by omega) (by omega) (by rw [bsl_len]; omega)) ?_
  refine TriD.c1 rfl (op_call (ltb rfl) fn61 rfl (get1_pure' (b := (b.drop p).take (e - p)) (by rw [← bsl_cut]; rfl) hg)) ?_
  refine TriD.c1 rfl (op_mv (ltb rfl) rfl) ?_
  refine TriD.c1 rfl (op_ext (ltb rfl) rfl rfl) ?_
  refine TriD.c1 rfl (op_ext (ltb rfl) rfl rfl) ?_
  refine TriD.c1 rfl (op_as (ltb rfl) rfl) ?_
  refine TriD.c1 rfl (op_as (ltb rfl) rfl) ?_
  refine TriD.nil (by kernel_rfl) (Kept.now ?_)
  refine Tri.seq ?_
  refine Tri.seq ?_
  refine Tri.region ?_
  refine TriL.c1 rfl (op_mv (ltb rfl) rfl) ?_
  refine TriL.c1 rfl (op_bin (ltb rfl) rfl rfl rfl) ?_
  refine TriL.nil ?_
  refine Tri.condF rfl (by simp; omega) ?_
  refine Tri.skip ?_
  refine Tri.seq ?_
  refine Tri.region ?_
  refine TriL.c1 rfl (op_mv (ltb rfl) rfl) ?_
  refine TriL.c1 rfl (op_mv (ltb rfl) rfl) ?_
  refine TriL.c1 rfl (op_nckc (ltb rfl) rfl) ?_
  refine TriL.c1 rfl (op_fac (ltb rfl) fo43_1 rfl) ?_
  refine TriL.c1 rfl (op_ldc (ltb rfl) lk3 rfl rfl ho rfl) ?_
  refine TriL.c1 rfl (op_mv (ltb rfl) rfl) ?_
  refine TriL.c1 rfl (op_bin (ltb rfl) rfl rfl rfl) ?_
  refine TriL.c1 rfl (op_nckc (ltb rfl) rfl) ?_
  refine TriL.c1 rfl (op_fac (ltb rfl) fo43_1 rfl) ?_
  refine TriL.c1 rfl (op_stc lk3 rfl rfl ho rfl rfl rfl) ?_
  refine TriL.nil ?_
  refine Tri.seq ?_
  refine Tri.region ?_
  refine TriL.c1 rfl (op_mv (ltb rfl) rfl) ?_
  refine TriL.c1 rfl (op_as (ltb rfl) rfl) ?_
  refine TriL.nil ?_
  refine Tri.ret ?_
  refine ⟨.inr rfl, ResOK.r1 rfl (.tmp rfl .nil), ?_⟩
  have e : H.set id [.v (.sl (bsl b)), .v (.int .i64 (IntKind.i64.wrap ((p : Int) + (k : Int)))), .row 3 1 (il (es ++ [e])), .v (.bool false)] = H.set id (curs b (p + k) (es ++ [e]) false) := by
    rw [wr64 (by omega) (by omega)]; rfl
  exact congrArg (fun h => some (CV.hp h)) e
theorem clong_run (H : Hp) (id : Nat) (b : List UInt8) (p : Nat) (es : List Nat) (e n k : Nat) (ho : H.obj id = some (curs b p (es ++ [e]) false)) (hl : es.length ≤ 1048576) (hg : vget ((b.drop p).take (e - p)) = (n, k)) (hk : 0 < k) (h1 : p + k ≤ e) (h2 : e ≤ b.length) (hb : b.length ≤ 4611686018427387904) (h3 : p + k + n ≤ e) : Run Try.prog 50 [.op id 0] H (.int .i64 (n : Int)) (H.set id (curs b (p + k) (es ++ [e]) false)) := by
  refine Run.of_tri Try.func50 rfl rfl (ltb rfl) ?_
  refine Tri.seq ?_
  refine Tri.region ?_
  refine TriL.c1 rfl (op_as (ltb rfl) rfl) ?_
  refine TriL.nil ?_
  refine Tri.seq ?_
  refine Tri.region ?_
  refine TriL.c1 rfl (op_mv (ltb rfl) rfl) ?_
  refine TriL.c2 rfl (op_callh (ltb rfl) fn48 rfl rfl (cvarint_run H id b p es e n k ho hl hg hk h1 h2 hb)) ?_
  refine TriL.c1 rfl (op_as (ltb rfl) rfl) ?_
  refine TriL.nil ?_
  refine Tri.seq ?_
  refine Tri.seq ?_
  refine Tri.drawn mixed rfl ?_
  refine TriD.c1 rfl (op_mv (ltb rfl) rfl) ?_
  refine TriD.c1 rfl (op_nckc (ltb rfl) rfl) ?_
  refine TriD.c1 rfl (op_fac (ltb rfl) fo43_3 rfl) ?_
  refine TriD.c1 rfl (op_ldc (ltb rfl) lk4 rfl rfl Hp.set_obj rfl) ?_
  refine TriD.c1 rfl (op_un (ltb rfl) rfl rfl) ?_
  refine TriD.c1 rfl (op_mv (ltb rfl) rfl) ?_
  refine TriD.g1 rfl (ltb rfl) rfl rfl (op_mv (ltb rfl) rfl) ?_
  refine TriD.g1 rfl (ltb rfl) rfl rfl (op_mv (ltb rfl) rfl) ?_
  refine TriD.g1 rfl (ltb rfl) rfl rfl (op_callk (ltb rfl) fn51 rfl rfl (end_run _ id b _ es e false Hp.set_obj hl)) ?_
  refine TriD.g1 rfl (ltb rfl) rfl rfl (op_mv (ltb rfl) rfl) ?_
  refine TriD.g1 rfl (ltb rfl) rfl rfl (op_nckc (ltb rfl) rfl) ?_
  refine TriD.g1 rfl (ltb rfl) rfl rfl (op_fac (ltb rfl) fo43_1 rfl) ?_
  refine TriD.g1 rfl (ltb rfl) rfl rfl (op_ldc (ltb rfl) lk3 rfl rfl Hp.set_obj rfl) ?_
  refine TriD.g1 rfl (ltb rfl) rfl rfl (op_bin (ltb rfl) rfl rfl rfl) ?_
  refine TriD.g1 rfl (ltb rfl) rfl rfl (op_cvi (ltb rfl) un3 un50 rfl) ?_
  refine TriD.g1 rfl (ltb rfl) rfl rfl (op_bin (ltb rfl) rfl rfl rfl) ?_
  refine TriD.c1 rfl (op_pickt (ltb rfl) rfl rfl rfl) ?_
  refine TriD.nil (by kernel_rfl) (Kept.now ?_)
  refine Tri.condF rfl (by rw [wr64 (by omega) (by omega), wru64 (by omega) (by omega)]; exact decide_eq_false (by omega)) ?_
  refine Tri.skip ?_
  refine Tri.seq ?_
  refine Tri.seq ?_
  refine Tri.region ?_
  refine TriL.c1 rfl (op_mv (ltb rfl) rfl) ?_
  refine TriL.c1 rfl (op_nckc (ltb rfl) rfl) ?_
  refine TriL.c1 rfl (op_fac (ltb rfl) fo43_3 rfl) ?_
  refine TriL.c1 rfl (op_ldc (ltb rfl) lk4 rfl rfl Hp.set_obj rfl) ?_
  refine TriL.nil ?_
  refine Tri.condF rfl rfl ?_
  refine Tri.skip ?_
  refine Tri.seq ?_
  refine Tri.region ?_
  refine TriL.c1 rfl (op_mv (ltb rfl) rfl) ?_
  refine TriL.c1 rfl (op_cvi (ltb rfl) un50 un3 rfl) ?_
  refine TriL.c1 rfl (op_as (ltb rfl) rfl) ?_
  refine TriL.nil ?_
  refine Tri.ret ?_
  exact ⟨.inr rfl, (ResOK.r1 rfl (.tmp rfl .nil)).cast (congrArg (AV.int .i64) (wr64 (by omega) (by omega))), rfl⟩
theorem ctag_run (H : Hp) (id : Nat) (b : List UInt8) (p : Nat) (es : List Nat) (e n k : Nat) (ho : H.obj id = some (curs b p (es ++ [e]) false)) (hl : es.length ≤ 1048576) (hg : vget ((b.drop p).take (e - p)) = (n, k)) (hk : 0 < k) (h1 : p + k ≤ e) (h2 : e ≤ b.length) (hb : b.length ≤ 4611686018427387904) (hr : rightok ((n / 8 : Nat) : Int) ((n % 8 : Nat) : Int) = true) : Run Try.prog 22 [.op id 0] H (.tup [.int .i64 ((n / 8 : Nat) : Int), .int .i64 ((n % 8 : Nat) : Int)]) (H.set id (curs b (p + k) (es ++ [e]) false)) := by
  refine Run.of_tri Try.func22 rfl rfl (ltb rfl) ?_
  refine Tri.seq ?_
  refine Tri.region ?_
  refine TriL.c1 rfl (op_as (ltb rfl) rfl) ?_
  refine TriL.c1 rfl (op_as (ltb rfl) rfl) ?_
  refine TriL.nil ?_
  refine Tri.seq ?_
  refine Tri.region ?_
  refine TriL.c1 rfl (op_mv (ltb rfl) rfl) ?_
  refine TriL.c2 rfl (op_callh (ltb rfl) fn48 rfl rfl (cvarint_run H id b p es e n k ho hl hg hk h1 h2 hb)) ?_
  refine TriL.c1 rfl (op_call (ltb rfl) fn47 rfl (split_ok n hr)) ?_
  refine TriL.c1 rfl (op_mv (ltb rfl) rfl) ?_
  refine TriL.c1 rfl (op_ext (ltb rfl) rfl rfl) ?_
  refine TriL.c1 rfl (op_ext (ltb rfl) rfl rfl) ?_
  refine TriL.c1 rfl (op_ext (ltb rfl) rfl rfl) ?_
  refine TriL.c1 rfl (op_as (ltb rfl) rfl) ?_
  refine TriL.c1 rfl (op_as (ltb rfl) rfl) ?_
  refine TriL.c1 rfl (op_as (ltb rfl) rfl) ?_
  refine TriL.nil ?_
  refine Tri.seq ?_
  refine Tri.seq ?_
  refine Tri.region ?_
  refine TriL.c1 rfl (op_mv (ltb rfl) rfl) ?_
  refine TriL.c1 rfl (op_nckc (ltb rfl) rfl) ?_
  refine TriL.c1 rfl (op_fac (ltb rfl) fo43_3 rfl) ?_
  refine TriL.c1 rfl (op_ldc (ltb rfl) lk4 rfl rfl Hp.set_obj rfl) ?_
  refine TriL.c1 rfl (op_un (ltb rfl) rfl rfl) ?_
  refine TriL.c1 rfl (op_mv (ltb rfl) rfl) ?_
  refine TriL.g1 rfl (ltb rfl) rfl rfl (op_mv (ltb rfl) rfl) ?_
  refine TriL.g1 rfl (ltb rfl) rfl rfl (op_un (ltb rfl) rfl rfl) ?_
  refine TriL.c1 rfl (op_pickt (ltb rfl) rfl rfl rfl) ?_
  refine TriL.nil ?_
  refine Tri.condF rfl rfl ?_
  refine Tri.skip ?_
  refine Tri.seq ?_
  refine Tri.seq ?_
  refine Tri.region ?_
  refine TriL.c1 rfl (op_mv (ltb rfl) rfl) ?_
  refine TriL.c1 rfl (op_nckc (ltb rfl) rfl) ?_
  refine TriL.c1 rfl (op_fac (ltb rfl) fo43_3 rfl) ?_
  refine TriL.c1 rfl (op_ldc (ltb rfl) lk4 rfl rfl Hp.set_obj rfl) ?_
  refine TriL.nil ?_
  refine Tri.condF rfl rfl ?_
  refine Tri.skip ?_
  refine Tri.seq ?_
  refine Tri.region ?_
  refine TriL.c1 rfl (op_mv (ltb rfl) rfl) ?_
  refine TriL.c1 rfl (op_mv (ltb rfl) rfl) ?_
  refine TriL.c1 rfl (op_as (ltb rfl) rfl) ?_
  refine TriL.c1 rfl (op_as (ltb rfl) rfl) ?_
  refine TriL.nil ?_
  refine Tri.ret ?_
  exact ⟨.inr rfl, (ResOK.r2 rfl (.tmp rfl (.tmp rfl .nil))), rfl⟩
theorem copen_run (H : Hp) (id : Nat) (b : List UInt8) (p : Nat) (es : List Nat) (e n k : Nat) (ho : H.obj id = some (curs b p (es ++ [e]) false)) (hl : es.length ≤ 1048576) (hg : vget ((b.drop p).take (e - p)) = (n, k)) (hk : 0 < k) (h1 : p + k ≤ e) (h2 : e ≤ b.length) (hb : b.length ≤ 4611686018427387904) (h3 : p + k + n ≤ e) : Run Try.prog 23 [.op id 0] H (.bool true) (H.set id (curs b (p + k) (es ++ [e] ++ [p + k + n]) false)) := by
  refine Run.of_tri Try.func23 rfl rfl (ltb rfl) ?_
  refine Tri.seq ?_
  refine Tri.region ?_
  refine TriL.c1 rfl (op_as (ltb rfl) rfl) ?_
  refine TriL.nil ?_
  refine Tri.seq ?_
  refine Tri.region ?_
  refine TriL.c1 rfl (op_mv (ltb rfl) rfl) ?_
  refine TriL.c2 rfl (op_callh (ltb rfl) fn50 rfl rfl (clong_run H id b p es e n k ho hl hg hk h1 h2 hb h3)) ?_
  refine TriL.c1 rfl (op_as (ltb rfl) rfl) ?_
  refine TriL.nil ?_
  refine Tri.seq ?_
  refine Tri.seq ?_
  refine Tri.region ?_
  refine TriL.c1 rfl (op_mv (ltb rfl) rfl) ?_
  refine TriL.c1 rfl (op_bin (ltb rfl) rfl rfl rfl) ?_
  refine TriL.nil ?_
  refine Tri.condF rfl (decide_eq_false (by omega)) ?_
  refine Tri.skip ?_
  refine Tri.seq ?_
  refine Tri.ofKept (Kept.opn 100 id 100 rfl Hp.set_obj rfl rfl (Kept.lp 0 100 rfl rfl (Kept.now ?_)))
  refine Tri.drawn mixed rfl ?_
  refine TriD.c1 rfl (op_mv (ltb rfl) rfl) ?_
  refine TriD.c1 rfl (op_mv (ltb rfl) rfl) ?_
  refine TriD.c1 rfl (op_nckl (ltb rfl) rfl) ?_
  refine TriD.c1 rfl (op_fal (ltb rfl) fo43_2 rfl) ?_
  refine TriD.c1 rfl (op_ldo (ltb rfl) lk41 rfl rfl rfl) ?_
  refine TriD.c1 rfl (op_mv (ltb rfl) rfl) ?_
  refine TriD.c1 rfl (op_nckl (ltb rfl) rfl) ?_
  refine TriD.c1 rfl (op_fal (ltb rfl) fo43_1 rfl) ?_
  refine TriD.c1 rfl (op_ldo (ltb rfl) lk3 rfl rfl rfl) ?_
  refine TriD.c1 rfl (op_mv (ltb rfl) rfl) ?_
  refine TriD.c1 rfl (op_bin (ltb rfl) rfl rfl rfl) ?_
  refine TriD.c1 rfl (op_lit («as» := [_]) (ltb rfl) se41 zAe41 rfl rfl rfl (leb rfl)) ?_
  refine TriD.c3 rfl (op_apm (ltb rfl) se41 rfl rfl rfl rfl (okEls_one _ _) rfl (by rw [il_len]; simp; omega) (by rw [il_len]; simp; omega)) ?_
  refine TriD.c1 rfl (op_nckl (ltb rfl) rfl) ?_
  refine TriD.c1 rfl (op_fal (ltb rfl) fo43_2 rfl) ?_
  refine TriD.c1 rfl (op_sto lk41 rfl rfl rfl rfl rfl (leb rfl)) ?_
  refine TriD.nil (by kernel_rfl) (Kept.op 0 rfl rfl (Kept.cls 100 rfl rfl rfl rfl (Kept.now ?_)))
  refine Tri.seq ?_
  refine Tri.region ?_
  refine TriL.c1 rfl (op_as (ltb rfl) rfl) ?_
  refine TriL.nil ?_
  refine Tri.ret ?_
  refine ⟨.inr rfl, ResOK.r1 rfl (.tmp rfl .nil), ?_⟩
  have e : ((H.set id (curs b (p + k) (es ++ [e]) false)).del id).set id [.v (.sl (bsl b)), .v (.int .i64 ((p + k : Nat) : Int)), .row 3 1 (il (es ++ [e]) ++ [.int .i64 (IntKind.i64.wrap (((p + k : Nat) : Int) + (n : Int)))]), .v (.bool false)] = H.set id (curs b (p + k) (es ++ [e] ++ [p + k + n]) false) := by
    rw [Hp.del_set, Hp.set_set, wr64 (by omega) (by omega), curs, il_app (es ++ [e])]; rfl
  exact congrArg (fun h => some (CV.hp h)) e
theorem ctext_run (H : Hp) (id : Nat) (b : List UInt8) (p : Nat) (es : List Nat) (e n k : Nat) (ho : H.obj id = some (curs b p (es ++ [e]) false)) (hl : es.length ≤ 1048576) (hg : vget ((b.drop p).take (e - p)) = (n, k)) (hk : 0 < k) (h1 : p + k ≤ e) (h2 : e ≤ b.length) (hb : b.length ≤ 4611686018427387904) (h3 : p + k + n ≤ e) : Run Try.prog 24 [.op id 0] H (.str ((b.drop (p + k)).take n)) (H.set id (curs b (p + k + n) (es ++ [e]) false)) := by
  have hw : IntKind.i64.wrap (((p + k : Nat) : Int) + (n : Int)) = ((p + k + n : Nat) : Int) := by rw [wr64 (by omega) (by omega)]; omega
  have hw2 : IntKind.i64.wrap (((p + k + n : Nat) : Int) - (n : Int)) = ((p + k : Nat) : Int) := by rw [wr64 (by omega) (by omega)]; omega
  refine Run.of_tri Try.func24 rfl rfl (ltb rfl) ?_
  refine Tri.seq ?_
  refine Tri.region ?_
  refine TriL.c1 rfl (op_as (ltb rfl) rfl) ?_
  refine TriL.nil ?_
  refine Tri.seq ?_
  refine Tri.region ?_
  refine TriL.c1 rfl (op_mv (ltb rfl) rfl) ?_
  refine TriL.c2 rfl (op_callh (ltb rfl) fn50 rfl rfl (clong_run H id b p es e n k ho hl hg hk h1 h2 hb h3)) ?_
  refine TriL.c1 rfl (op_as (ltb rfl) rfl) ?_
  refine TriL.nil ?_
  refine Tri.seq ?_
  refine Tri.seq ?_
  refine Tri.region ?_
  refine TriL.c1 rfl (op_mv (ltb rfl) rfl) ?_
  refine TriL.c1 rfl (op_bin (ltb rfl) rfl rfl rfl) ?_
  refine TriL.nil ?_
  refine Tri.condF rfl (decide_eq_false (by omega)) ?_
  refine Tri.skip ?_
  refine Tri.seq ?_
  refine Tri.region ?_
  refine TriL.c1 rfl (op_mv (ltb rfl) rfl) ?_
  refine TriL.c1 rfl (op_mv (ltb rfl) rfl) ?_
  refine TriL.c1 rfl (op_nckc (ltb rfl) rfl) ?_
  refine TriL.c1 rfl (op_fac (ltb rfl) fo43_1 rfl) ?_
  refine TriL.c1 rfl (op_ldc (ltb rfl) lk3 rfl rfl Hp.set_obj rfl) ?_
  refine TriL.c1 rfl (op_mv (ltb rfl) rfl) ?_
  refine TriL.c1 rfl (op_bin (ltb rfl) rfl rfl rfl) ?_
  refine TriL.c1 rfl (op_nckc (ltb rfl) rfl) ?_
  refine TriL.c1 rfl (op_fac (ltb rfl) fo43_1 rfl) ?_
  refine TriL.c1 rfl (op_stc lk3 rfl rfl Hp.set_obj rfl rfl rfl) ?_
  refine TriL.nil ?_
  refine Tri.seq ?_
  refine Tri.drawn mixed rfl ?_
  refine TriD.c1 rfl (op_mv (ltb rfl) rfl) ?_
  refine TriD.c1 rfl (op_nckc (ltb rfl) rfl) ?_
  refine TriD.c1 rfl (op_fac (ltb rfl) fo43_0 rfl) ?_
  refine TriD.c1 rfl (op_ldc (ltb rfl) lk22 rfl rfl Hp.set_obj rfl) ?_
  refine TriD.c1 rfl (op_mv (ltb rfl) rfl) ?_
  refine TriD.c1 rfl (op_nckc (ltb rfl) rfl) ?_
  refine TriD.c1 rfl (op_fac (ltb rfl) fo43_1 rfl) ?_
  refine TriD.c1 rfl (op_ldc (ltb rfl) lk3 rfl rfl Hp.set_obj rfl) ?_
  refine TriD.c1 rfl (op_mv (ltb rfl) rfl) ?_
  refine TriD.c1 rfl (op_bin (ltb rfl) rfl rfl rfl) ?_
  refine TriD.c1 rfl (op_mv (ltb rfl) rfl) ?_
  refine TriD.c1 rfl (op_nckc (ltb rfl) rfl) ?_
  refine TriD.c1 rfl (op_fac (ltb rfl) fo43_1 rfl) ?_
  refine TriD.c1 rfl (op_ldc (ltb rfl) lk3 rfl rfl Hp.set_obj rfl) ?_
  refine TriD.c1 rfl (op_cutl (ltb rfl) ie22 rfl (bsl_es b) rfl rfl (by rw [hw, hw2]; omega) (by rw [hw, hw2]; omega) (by rw [hw, bsl_len]; omega)) ?_
  refine TriD.c1 rfl (op_b2s (ltb rfl) un22 unel22 un9 rfl (by rw [hw, hw2, bsl_cut, show ((p + k + n : Nat) : Int).toNat - ((p + k : Nat) : Int).toNat = n by omega]; exact bytesOf_bsl _)) ?_
  refine TriD.c1 rfl (op_as (ltb rfl) rfl) ?_
  refine TriD.nil (by kernel_rfl) (Kept.now ?_)
  refine Tri.ret ?_
  refine ⟨.inr rfl, ResOK.r1 rfl (.tmp rfl .nil), ?_⟩
  have e : (H.set id (curs b (p + k) (es ++ [e]) false)).set id [.v (.sl (bsl b)), .v (.int .i64 (IntKind.i64.wrap (((p + k : Nat) : Int) + (n : Int)))), .row 3 1 (il (es ++ [e])), .v (.bool false)] = H.set id (curs b (p + k + n) (es ++ [e]) false) := by
    rw [Hp.set_set, hw]; rfl
  exact congrArg (fun h => some (CV.hp h)) e
theorem cmore_run (H : Hp) (id : Nat) (b : List UInt8) (p : Nat) (es : List Nat) (e : Nat) (ho : H.obj id = some (curs b p (es ++ [e]) false)) (hl : es.length ≤ 1048576) : Run Try.prog 25 [.op id 0] H (.bool (decide ((p : Int) < (e : Int)))) H := by
  refine Run.of_tri Try.func25 rfl rfl (ltb rfl) ?_
  refine Tri.seq ?_
  refine Tri.region ?_
  refine TriL.c1 rfl (op_as (ltb rfl) rfl) ?_
  refine TriL.nil ?_
  refine Tri.seq ?_
  refine Tri.drawn mixed rfl ?_
  refine TriD.c1 rfl (op_mv (ltb rfl) rfl) ?_
  refine TriD.c1 rfl (op_nckc (ltb rfl) rfl) ?_
  refine TriD.c1 rfl (op_fac (ltb rfl) fo43_3 rfl) ?_
  refine TriD.c1 rfl (op_ldc (ltb rfl) lk4 rfl rfl ho rfl) ?_
  refine TriD.c1 rfl (op_un (ltb rfl) rfl rfl) ?_
  refine TriD.c1 rfl (op_mv (ltb rfl) rfl) ?_
  refine TriD.g1 rfl (ltb rfl) rfl rfl (op_mv (ltb rfl) rfl) ?_
  refine TriD.g1 rfl (ltb rfl) rfl rfl (op_nckc (ltb rfl) rfl) ?_
  refine TriD.g1 rfl (ltb rfl) rfl rfl (op_fac (ltb rfl) fo43_1 rfl) ?_
  refine TriD.g1 rfl (ltb rfl) rfl rfl (op_ldc (ltb rfl) lk3 rfl rfl ho rfl) ?_
  refine TriD.g1 rfl (ltb rfl) rfl rfl (op_mv (ltb rfl) rfl) ?_
  refine TriD.g1 rfl (ltb rfl) rfl rfl (op_callk (ltb rfl) fn51 rfl rfl (end_run H id b p es e false ho hl)) ?_
  refine TriD.g1 rfl (ltb rfl) rfl rfl (op_bin (ltb rfl) rfl rfl rfl) ?_
  refine TriD.c1 rfl (op_pickt (ltb rfl) rfl rfl rfl) ?_
  refine TriD.c1 rfl (op_as (ltb rfl) rfl) ?_
  refine TriD.nil (by kernel_rfl) (Kept.now ?_)
  refine Tri.ret ?_
  exact ⟨.inr rfl, (ResOK.r1 rfl (.tmp rfl .nil)), rfl⟩
end Go.Proofs.Ytecjdohpfijmpaa.X
