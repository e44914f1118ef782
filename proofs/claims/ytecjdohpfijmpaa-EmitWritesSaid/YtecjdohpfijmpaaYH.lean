/- EmitWrites: light, do. -/
import Derived.Test.YtecjdohpfijmpaaYG
import Derived.Test.YtecjdohpfijmpaaYC
set_option linter.unusedVariables false
set_option linter.unusedSimpArgs false
namespace Go.Proofs.Ytecjdohpfijmpaa.X
open Go Go.RowKit Go.Proofs
theorem fn52 : isFn Try.prog 52 = true := by kernel_rfl
theorem fn53 : isFn Try.prog 53 = true := by kernel_rfl
theorem fn54 : isFn Try.prog 54 = true := by kernel_rfl
theorem fo52_0 : fo Try.prog 52 0 = some 0 := by kernel_rfl
theorem fo52_1 : fo Try.prog 52 1 = some 1 := by kernel_rfl
theorem fo52_2 : fo Try.prog 52 2 = some 2 := by kernel_rfl
theorem fo52_3 : fo Try.prog 52 3 = some 3 := by kernel_rfl
theorem ie45 : ie Try.prog 45 = some 4 := by kernel_rfl
theorem lk50 : lk Try.prog 50 = some (false, 1) := by kernel_rfl
theorem un45 : Try.prog.underlying 45 = some (TypeDesc.slice 52) := Try.underlying45
/-- what is written -/
structure Actt where
  d : Int
  num : Int
  n : Nat
  s : List UInt8
def actAV (a : Actt) : AV := .agg [.int .i64 a.d, .int .i64 a.num, .int .u64 (a.n : Int), .str a.s]
def lightb (l : List Actt) : Bool := decide (l.length ≤ 50 ∧ ∀ a ∈ l.take 60, a.s.length ≤ 300)
def StLi (H : Hp) (l : List Actt) (j : Int) : St := [(.h, .hp H), (.s 0, .sv (.v (.sl (l.map actAV)))), (.s 3, .sv (.v (.int .i64 j)))]
theorem light_pure (l : List Actt) : Pure Try.prog 26 [.sl (l.map actAV)] (.bool (lightb l)) := by
  refine Pure.of_tri Try.func26 rfl rfl (ltb rfl) fun H => ?_
  refine Tri.seq ?_
  refine Tri.region ?_
  refine TriL.c1 rfl (op_as (ltb rfl) rfl) ?_
  refine TriL.nil ?_
  refine Tri.seq ?_
  refine Tri.seq ?_
  refine Tri.region ?_
  refine TriL.c1 rfl (op_as (ltb rfl) rfl) ?_
  refine TriL.kept (Kept.keep [.h, .s 0, .s 3] rfl (by decide) (Kept.now ?_))
  refine Tri.blk ?_
  -- LOOP 1: KEEP
  refine Tri.loop (fun q s => ∃ (i : Nat) (j : Int), s = StLi H l j ∧ j = i ∧ (∀ a ∈ l.take i, a.s.length ≤ 300) ∧ i ≤ 60 ∧ q = 60 - i) ?_ (n := 60) ⟨0, 0, rfl, rfl, by simp, by omega, rfl⟩
  rintro q s ⟨i, j, rfl, hj, hall, hi, rfl⟩
  have hml : (l.map actAV).length = l.length := by simp
  refine Tri.seq ?_
  refine Tri.seq ?_
  refine Tri.region ?_
  refine TriL.c1 rfl (op_mv (ltb rfl) rfl) ?_
  refine TriL.c1 rfl (op_mv (ltb rfl) rfl) ?_
  refine TriL.c1 rfl (op_lenl (ltb rfl) un45 rfl) ?_
  refine TriL.c1 rfl (op_bin (ltb rfl) rfl rfl rfl) ?_
  refine TriL.c1 rfl (op_mv (ltb rfl) rfl) ?_
  refine TriL.split (d := 8) rfl (fun hg1 => ?_) (fun hg1 => ?_)
  · refine TriL.g1 rfl (ltb rfl) rfl hg1 (op_mv (ltb rfl) rfl) ?_
    refine TriL.g1 rfl (ltb rfl) rfl hg1 (op_bin (ltb rfl) rfl rfl rfl) ?_
    refine TriL.c1 rfl (op_pickt (ltb rfl) rfl hg1 rfl) ?_
    refine TriL.nil ?_
    refine Tri.cond rfl (fun hc2 => ?_) (fun hc2 => ?_)
    · have hlt : i < l.length := by have := of_decide_eq_true hg1; omega
      have h60 : i < 60 := by have := of_decide_eq_true hc2; omega
      obtain ⟨a, ha⟩ : ∃ a, l[i]? = some a := ⟨l[i], List.getElem?_eq_getElem hlt⟩
      have hxs : (l.map actAV)[j.toNat]? = some (actAV a) := by subst hj; simp [ha]
      refine Tri.skip ?_
      refine Tri.seq ?_
      refine Tri.blk ?_
      refine Tri.seq ?_
      refine Tri.region ?_
      refine TriL.c1 rfl (op_mv (ltb rfl) rfl) ?_
      refine TriL.c1 rfl (op_mv (ltb rfl) rfl) ?_
      refine TriL.c1 rfl (op_iak (ltb rfl) ie45 rfl rfl (by omega) hxs rfl) ?_
      refine TriL.c1 rfl (op_fak (ltb rfl) fo52_3 rfl) ?_
      refine TriL.c1 rfl (op_ldk (ltb rfl) lk9 rfl rfl) ?_
      refine TriL.c1 rfl (op_lens (ltb rfl) un9 rfl) ?_
      refine TriL.c1 rfl (op_bin (ltb rfl) rfl rfl rfl) ?_
      refine TriL.nil ?_
      refine Tri.cond rfl (fun hc3 => ?_) (fun hc3 => ?_)
      · refine Tri.seq ?_
        refine Tri.region ?_
        refine TriL.c1 rfl (op_as (ltb rfl) rfl) ?_
        refine TriL.nil ?_
        refine Tri.ret ?_
        exact ⟨.inr rfl, (ResOK.r1 rfl (.tmp rfl .nil)).cast (congrArg AV.bool (by rw [lightb]; exact (decide_eq_false (fun h => by have := of_decide_eq_true hc3; have h2 := h.2 a (List.mem_of_getElem? (i := i) (by rw [List.getElem?_take, if_pos h60]; exact ha)); omega)).symm)), rfl⟩
      · refine Tri.skip ?_
        refine Tri.region ?_
        refine TriL.c1 rfl (op_mv (ltb rfl) rfl) ?_
        refine TriL.c1 rfl (op_bin (ltb rfl) rfl rfl rfl) ?_
        refine TriL.c1 rfl (op_as (ltb rfl) rfl) ?_
        refine TriL.kept (Kept.keep [.h, .s 0, .s 3] rfl (by decide) (Kept.now ?_))
        refine ⟨60 - (i + 1), by omega, i + 1, IntKind.i64.wrap (j + 1), rfl, by rw [hj, wr64] <;> omega, ?_, by omega, rfl⟩
        intro b hb
        rw [List.take_add_one, ha] at hb
        rcases List.mem_append.1 hb with h | h
        · exact hall b h
        · simp at h; subst h; have := of_decide_eq_false hc3; omega
    · have hall2 : ∀ a ∈ l.take 60, a.s.length ≤ 300 := by have := of_decide_eq_false hc2; rw [show (60 : Nat) = i by omega]; exact hall
      refine Tri.exit ?_
      refine Tri.seq ?_
      refine Tri.region ?_
      refine TriL.c1 rfl (op_mv (ltb rfl) rfl) ?_
      refine TriL.c1 rfl (op_lenl (ltb rfl) un45 rfl) ?_
      refine TriL.c1 rfl (op_bin (ltb rfl) rfl rfl rfl) ?_
      refine TriL.c1 rfl (op_as (ltb rfl) rfl) ?_
      refine TriL.nil ?_
      refine Tri.ret ?_
      exact ⟨.inr rfl, (ResOK.r1 rfl (.tmp rfl .nil)).cast (congrArg AV.bool (by rw [lightb]; exact decide_eq_decide.2 ⟨fun h => ⟨by omega, hall2⟩, fun h => by have := h.1; omega⟩)), rfl⟩
  · have hall2 : ∀ a ∈ l.take 60, a.s.length ≤ 300 := fun a h2 => hall a (by have := of_decide_eq_false hg1; rw [List.take_of_length_le (by omega)]; exact List.mem_of_mem_take h2)
    refine TriL.skipu rfl rfl (ltb rfl) (ltb rfl) rfl hg1 ?_
    refine TriL.skipu rfl rfl (ltb rfl) (ltb rfl) rfl hg1 ?_
    refine TriL.c1 rfl (op_pickf (ltb rfl) rfl hg1 rfl) ?_
    refine TriL.nil ?_
    refine Tri.condF rfl rfl ?_
    refine Tri.exit ?_
    refine Tri.seq ?_
    refine Tri.region ?_
    refine TriL.c1 rfl (op_mv (ltb rfl) rfl) ?_
    refine TriL.c1 rfl (op_lenl (ltb rfl) un45 rfl) ?_
    refine TriL.c1 rfl (op_bin (ltb rfl) rfl rfl rfl) ?_
    refine TriL.c1 rfl (op_as (ltb rfl) rfl) ?_
    refine TriL.nil ?_
    refine Tri.ret ?_
    exact ⟨.inr rfl, (ResOK.r1 rfl (.tmp rfl .nil)).cast (congrArg AV.bool (by rw [lightb]; exact decide_eq_decide.2 ⟨fun h => ⟨by omega, hall2⟩, fun h => by have := h.1; omega⟩)), rfl⟩
theorem do0 (H H1 H2 : Hp) (idw idm : Nat) (a : Actt) (c : Bool) (ha : a.d = 0) (hw : Run Try.prog 32 [.op idw 0, .int .i64 a.num, .int .u64 (a.n : Int)] H (.bool c) H1) (hm : Run Try.prog 52 [.op idm 0, .int .i64 a.num, .int .i64 0, .int .u64 (a.n : Int), .str []] H1 (.bool c) H2) : Run Try.prog 28 [.op idw 0, .op idm 0, actAV a] H (.bool true) H2 := by
  refine Run.of_tri Try.func28 rfl rfl (ltb rfl) ?_
  refine Tri.seq ?_
  refine Tri.region ?_
  refine TriL.c2 rfl (op_box (ltb rfl) rfl rfl rfl) ?_
  refine TriL.c1 rfl (op_as (ltb rfl) rfl) ?_
  refine TriL.nil ?_
  refine Tri.seq ?_
  refine Tri.seq ?_
  refine Tri.region ?_
  refine TriL.c1 rfl (op_fal (ltb rfl) fo52_0 rfl) ?_
  refine TriL.c1 rfl (op_ldl (ltb rfl) lk3 rfl rfl rfl) ?_
  refine TriL.nil ?_
  refine Tri.blk ?_
  refine Tri.seq ?_
  refine Tri.region ?_
  refine TriL.c1 rfl (op_bin (ltb rfl) rfl rfl rfl) ?_
  refine TriL.c1 rfl (op_as (ltb rfl) rfl) ?_
  refine TriL.nil ?_
  refine Tri.condT rfl (by rw [ha]; rfl) ?_
  refine Tri.seq ?_
  refine Tri.drawn mixed rfl ?_
  refine TriD.c1 rfl (op_mv (ltb rfl) rfl) ?_
  refine TriD.c1 rfl (op_fal (ltb rfl) fo52_1 rfl) ?_
  refine TriD.c1 rfl (op_ldl (ltb rfl) lk3 rfl rfl rfl) ?_
  refine TriD.c1 rfl (op_fal (ltb rfl) fo52_2 rfl) ?_
  refine TriD.c1 rfl (op_ldl (ltb rfl) lk50 rfl rfl rfl) ?_
  refine TriD.c2 rfl (op_callh (ltb rfl) fn32 rfl rfl hw) ?_
  refine TriD.c1 rfl (op_mv (ltb rfl) rfl) ?_
  refine TriD.c1 rfl (op_fal (ltb rfl) fo52_1 rfl) ?_
  refine TriD.c1 rfl (op_ldl (ltb rfl) lk3 rfl rfl rfl) ?_
  refine TriD.c1 rfl (op_fal (ltb rfl) fo52_2 rfl) ?_
  refine TriD.c1 rfl (op_ldl (ltb rfl) lk50 rfl rfl rfl) ?_
  refine TriD.c2 rfl (op_callh (ltb rfl) fn52 rfl rfl hm) ?_
  refine TriD.c1 rfl (op_eqb (ltb rfl) un4 rfl rfl) ?_
  refine TriD.c1 rfl (op_as (ltb rfl) rfl) ?_
  refine TriD.nil (by kernel_rfl) (Kept.now ?_)
  refine Tri.ret ?_
  exact ⟨.inr rfl, (ResOK.r1 rfl (.tmp rfl .nil)).cast (congrArg AV.bool (by simp)), rfl⟩
theorem do1 (H H1 H2 : Hp) (idw idm : Nat) (a : Actt) (c : Bool) (ha : a.d = 1) (hw : Run Try.prog 34 [.op idw 0, .int .i64 a.num, .int .u64 (a.n : Int)] H (.bool c) H1) (hm : Run Try.prog 52 [.op idm 0, .int .i64 a.num, .int .i64 1, .int .u64 (a.n : Int), .str []] H1 (.bool c) H2) : Run Try.prog 28 [.op idw 0, .op idm 0, actAV a] H (.bool true) H2 := by
  refine Run.of_tri Try.func28 rfl rfl (ltb rfl) ?_
  refine Tri.seq ?_
  refine Tri.region ?_
  refine TriL.c2 rfl (op_box (ltb rfl) rfl rfl rfl) ?_
  refine TriL.c1 rfl (op_as (ltb rfl) rfl) ?_
  refine TriL.nil ?_
  refine Tri.seq ?_
  refine Tri.seq ?_
  refine Tri.region ?_
  refine TriL.c1 rfl (op_fal (ltb rfl) fo52_0 rfl) ?_
  refine TriL.c1 rfl (op_ldl (ltb rfl) lk3 rfl rfl rfl) ?_
  refine TriL.nil ?_
  refine Tri.blk ?_
  refine Tri.seq ?_
  refine Tri.region ?_
  refine TriL.c1 rfl (op_bin (ltb rfl) rfl rfl rfl) ?_
  refine TriL.c1 rfl (op_as (ltb rfl) rfl) ?_
  refine TriL.nil ?_
  refine Tri.condF rfl (by rw [ha]; rfl) ?_
  refine Tri.seq ?_
  refine Tri.region ?_
  refine TriL.c1 rfl (op_bin (ltb rfl) rfl rfl rfl) ?_
  refine TriL.c1 rfl (op_as (ltb rfl) rfl) ?_
  refine TriL.nil ?_
  refine Tri.condT rfl (by rw [ha]; rfl) ?_
  refine Tri.seq ?_
  refine Tri.drawn mixed rfl ?_
  refine TriD.c1 rfl (op_mv (ltb rfl) rfl) ?_
  refine TriD.c1 rfl (op_fal (ltb rfl) fo52_1 rfl) ?_
  refine TriD.c1 rfl (op_ldl (ltb rfl) lk3 rfl rfl rfl) ?_
  refine TriD.c1 rfl (op_fal (ltb rfl) fo52_2 rfl) ?_
  refine TriD.c1 rfl (op_ldl (ltb rfl) lk50 rfl rfl rfl) ?_
  refine TriD.c2 rfl (op_callh (ltb rfl) fn34 rfl rfl hw) ?_
  refine TriD.c1 rfl (op_mv (ltb rfl) rfl) ?_
  refine TriD.c1 rfl (op_fal (ltb rfl) fo52_1 rfl) ?_
  refine TriD.c1 rfl (op_ldl (ltb rfl) lk3 rfl rfl rfl) ?_
  refine TriD.c1 rfl (op_fal (ltb rfl) fo52_2 rfl) ?_
  refine TriD.c1 rfl (op_ldl (ltb rfl) lk50 rfl rfl rfl) ?_
  refine TriD.c2 rfl (op_callh (ltb rfl) fn52 rfl rfl hm) ?_
  refine TriD.c1 rfl (op_eqb (ltb rfl) un4 rfl rfl) ?_
  refine TriD.c1 rfl (op_as (ltb rfl) rfl) ?_
  refine TriD.nil (by kernel_rfl) (Kept.now ?_)
  refine Tri.ret ?_
  exact ⟨.inr rfl, (ResOK.r1 rfl (.tmp rfl .nil)).cast (congrArg AV.bool (by simp)), rfl⟩
theorem do2 (H H1 H2 : Hp) (idw idm : Nat) (a : Actt) (c : Bool) (ha : a.d = 2) (hw : Run Try.prog 18 [.op idw 0, .int .i64 a.num, .str a.s] H (.bool c) H1) (hm : Run Try.prog 52 [.op idm 0, .int .i64 a.num, .int .i64 2, .int .u64 0, .str a.s] H1 (.bool c) H2) : Run Try.prog 28 [.op idw 0, .op idm 0, actAV a] H (.bool true) H2 := by
  refine Run.of_tri Try.func28 rfl rfl (ltb rfl) ?_
  refine Tri.seq ?_
  refine Tri.region ?_
  refine TriL.c2 rfl (op_box (ltb rfl) rfl rfl rfl) ?_
  refine TriL.c1 rfl (op_as (ltb rfl) rfl) ?_
  refine TriL.nil ?_
  refine Tri.seq ?_
  refine Tri.seq ?_
  refine Tri.region ?_
  refine TriL.c1 rfl (op_fal (ltb rfl) fo52_0 rfl) ?_
  refine TriL.c1 rfl (op_ldl (ltb rfl) lk3 rfl rfl rfl) ?_
  refine TriL.nil ?_
  refine Tri.blk ?_
  refine Tri.seq ?_
  refine Tri.region ?_
  refine TriL.c1 rfl (op_bin (ltb rfl) rfl rfl rfl) ?_
  refine TriL.c1 rfl (op_as (ltb rfl) rfl) ?_
  refine TriL.nil ?_
  refine Tri.condF rfl (by rw [ha]; rfl) ?_
  refine Tri.seq ?_
  refine Tri.region ?_
  refine TriL.c1 rfl (op_bin (ltb rfl) rfl rfl rfl) ?_
  refine TriL.c1 rfl (op_as (ltb rfl) rfl) ?_
  refine TriL.nil ?_
  refine Tri.condF rfl (by rw [ha]; rfl) ?_
  refine Tri.seq ?_
  refine Tri.region ?_
  refine TriL.c1 rfl (op_bin (ltb rfl) rfl rfl rfl) ?_
  refine TriL.c1 rfl (op_as (ltb rfl) rfl) ?_
  refine TriL.nil ?_
  refine Tri.condT rfl (by rw [ha]; rfl) ?_
  refine Tri.seq ?_
  refine Tri.drawn mixed rfl ?_
  refine TriD.c1 rfl (op_mv (ltb rfl) rfl) ?_
  refine TriD.c1 rfl (op_fal (ltb rfl) fo52_1 rfl) ?_
  refine TriD.c1 rfl (op_ldl (ltb rfl) lk3 rfl rfl rfl) ?_
  refine TriD.c1 rfl (op_fal (ltb rfl) fo52_3 rfl) ?_
  refine TriD.c1 rfl (op_ldl (ltb rfl) lk9 rfl rfl rfl) ?_
  refine TriD.c2 rfl (op_callh (ltb rfl) fn18 rfl rfl hw) ?_
  refine TriD.c1 rfl (op_mv (ltb rfl) rfl) ?_
  refine TriD.c1 rfl (op_fal (ltb rfl) fo52_1 rfl) ?_
  refine TriD.c1 rfl (op_ldl (ltb rfl) lk3 rfl rfl rfl) ?_
  refine TriD.c1 rfl (op_fal (ltb rfl) fo52_3 rfl) ?_
  refine TriD.c1 rfl (op_ldl (ltb rfl) lk9 rfl rfl rfl) ?_
  refine TriD.c2 rfl (op_callh (ltb rfl) fn52 rfl rfl hm) ?_
  refine TriD.c1 rfl (op_eqb (ltb rfl) un4 rfl rfl) ?_
  refine TriD.c1 rfl (op_as (ltb rfl) rfl) ?_
  refine TriD.nil (by kernel_rfl) (Kept.now ?_)
  refine Tri.ret ?_
  exact ⟨.inr rfl, (ResOK.r1 rfl (.tmp rfl .nil)).cast (congrArg AV.bool (by simp)), rfl⟩
theorem do3 (H H1 H2 : Hp) (idw idm : Nat) (a : Actt) (c : Bool) (ha : a.d = 3) (hw : Run Try.prog 17 [.op idw 0, .int .i64 a.num] H (.bool c) H1) (hm : Run Try.prog 53 [.op idm 0, .int .i64 a.num] H1 (.bool c) H2) : Run Try.prog 28 [.op idw 0, .op idm 0, actAV a] H (.bool true) H2 := by
  refine Run.of_tri Try.func28 rfl rfl (ltb rfl) ?_
  refine Tri.seq ?_
  refine Tri.region ?_
  refine TriL.c2 rfl (op_box (ltb rfl) rfl rfl rfl) ?_
  refine TriL.c1 rfl (op_as (ltb rfl) rfl) ?_
  refine TriL.nil ?_
  refine Tri.seq ?_
  refine Tri.seq ?_
  refine Tri.region ?_
  refine TriL.c1 rfl (op_fal (ltb rfl) fo52_0 rfl) ?_
  refine TriL.c1 rfl (op_ldl (ltb rfl) lk3 rfl rfl rfl) ?_
  refine TriL.nil ?_
  refine Tri.blk ?_
  refine Tri.seq ?_
  refine Tri.region ?_
  refine TriL.c1 rfl (op_bin (ltb rfl) rfl rfl rfl) ?_
  refine TriL.c1 rfl (op_as (ltb rfl) rfl) ?_
  refine TriL.nil ?_
  refine Tri.condF rfl (by rw [ha]; rfl) ?_
  refine Tri.seq ?_
  refine Tri.region ?_
  refine TriL.c1 rfl (op_bin (ltb rfl) rfl rfl rfl) ?_
  refine TriL.c1 rfl (op_as (ltb rfl) rfl) ?_
  refine TriL.nil ?_
  refine Tri.condF rfl (by rw [ha]; rfl) ?_
  refine Tri.seq ?_
  refine Tri.region ?_
  refine TriL.c1 rfl (op_bin (ltb rfl) rfl rfl rfl) ?_
  refine TriL.c1 rfl (op_as (ltb rfl) rfl) ?_
  refine TriL.nil ?_
  refine Tri.condF rfl (by rw [ha]; rfl) ?_
  refine Tri.seq ?_
  refine Tri.region ?_
  refine TriL.c1 rfl (op_bin (ltb rfl) rfl rfl rfl) ?_
  refine TriL.c1 rfl (op_as (ltb rfl) rfl) ?_
  refine TriL.nil ?_
  refine Tri.condT rfl (by rw [ha]; rfl) ?_
  refine Tri.seq ?_
  refine Tri.drawn mixed rfl ?_
  refine TriD.c1 rfl (op_mv (ltb rfl) rfl) ?_
  refine TriD.c1 rfl (op_fal (ltb rfl) fo52_1 rfl) ?_
  refine TriD.c1 rfl (op_ldl (ltb rfl) lk3 rfl rfl rfl) ?_
  refine TriD.c2 rfl (op_callh (ltb rfl) fn17 rfl rfl hw) ?_
  refine TriD.c1 rfl (op_mv (ltb rfl) rfl) ?_
  refine TriD.c1 rfl (op_fal (ltb rfl) fo52_1 rfl) ?_
  refine TriD.c1 rfl (op_ldl (ltb rfl) lk3 rfl rfl rfl) ?_
  refine TriD.c2 rfl (op_callh (ltb rfl) fn53 rfl rfl hm) ?_
  refine TriD.c1 rfl (op_eqb (ltb rfl) un4 rfl rfl) ?_
  refine TriD.c1 rfl (op_as (ltb rfl) rfl) ?_
  refine TriD.nil (by kernel_rfl) (Kept.now ?_)
  refine Tri.ret ?_
  exact ⟨.inr rfl, (ResOK.r1 rfl (.tmp rfl .nil)).cast (congrArg AV.bool (by simp)), rfl⟩
theorem do4 (H H1 H2 : Hp) (idw idm : Nat) (a : Actt) (c : Bool) (ha : a.d = 4) (hw : Run Try.prog 19 [.op idw 0] H (.bool c) H1) (hm : Run Try.prog 54 [.op idm 0] H1 (.bool c) H2) : Run Try.prog 28 [.op idw 0, .op idm 0, actAV a] H (.bool true) H2 := by
  refine Run.of_tri Try.func28 rfl rfl (ltb rfl) ?_
  refine Tri.seq ?_
  refine Tri.region ?_
  refine TriL.c2 rfl (op_box (ltb rfl) rfl rfl rfl) ?_
  refine TriL.c1 rfl (op_as (ltb rfl) rfl) ?_
  refine TriL.nil ?_
  refine Tri.seq ?_
  refine Tri.seq ?_
  refine Tri.region ?_
  refine TriL.c1 rfl (op_fal (ltb rfl) fo52_0 rfl) ?_
  refine TriL.c1 rfl (op_ldl (ltb rfl) lk3 rfl rfl rfl) ?_
  refine TriL.nil ?_
  refine Tri.blk ?_
  refine Tri.seq ?_
  refine Tri.region ?_
  refine TriL.c1 rfl (op_bin (ltb rfl) rfl rfl rfl) ?_
  refine TriL.c1 rfl (op_as (ltb rfl) rfl) ?_
  refine TriL.nil ?_
  refine Tri.condF rfl (by rw [ha]; rfl) ?_
  refine Tri.seq ?_
  refine Tri.region ?_
  refine TriL.c1 rfl (op_bin (ltb rfl) rfl rfl rfl) ?_
  refine TriL.c1 rfl (op_as (ltb rfl) rfl) ?_
  refine TriL.nil ?_
  refine Tri.condF rfl (by rw [ha]; rfl) ?_
  refine Tri.seq ?_
  refine Tri.region ?_
  refine TriL.c1 rfl (op_bin (ltb rfl) rfl rfl rfl) ?_
  refine TriL.c1 rfl (op_as (ltb rfl) rfl) ?_
  refine TriL.nil ?_
  refine Tri.condF rfl (by rw [ha]; rfl) ?_
  refine Tri.seq ?_
  refine Tri.region ?_
  refine TriL.c1 rfl (op_bin (ltb rfl) rfl rfl rfl) ?_
  refine TriL.c1 rfl (op_as (ltb rfl) rfl) ?_
  refine TriL.nil ?_
  refine Tri.condF rfl (by rw [ha]; rfl) ?_
  refine Tri.seq ?_
  refine Tri.region ?_
  refine TriL.c1 rfl (op_bin (ltb rfl) rfl rfl rfl) ?_
  refine TriL.c1 rfl (op_as (ltb rfl) rfl) ?_
  refine TriL.nil ?_
  refine Tri.condT rfl (by rw [ha]; rfl) ?_
  refine Tri.seq ?_
  refine Tri.region ?_
  refine TriL.c1 rfl (op_mv (ltb rfl) rfl) ?_
  refine TriL.c2 rfl (op_callh (ltb rfl) fn19 rfl rfl hw) ?_
  refine TriL.c1 rfl (op_mv (ltb rfl) rfl) ?_
  refine TriL.c2 rfl (op_callh (ltb rfl) fn54 rfl rfl hm) ?_
  refine TriL.c1 rfl (op_eqb (ltb rfl) un4 rfl rfl) ?_
  refine TriL.c1 rfl (op_as (ltb rfl) rfl) ?_
  refine TriL.nil ?_
  refine Tri.ret ?_
  exact ⟨.inr rfl, (ResOK.r1 rfl (.tmp rfl .nil)).cast (congrArg AV.bool (by simp)), rfl⟩
theorem do5 (H H1 H2 : Hp) (idw idm : Nat) (a : Actt) (c : Bool) (ha : a.d = 5) (hw : Run Try.prog 33 [.op idw 0, .int .i64 a.num, .int .u32 (IntKind.u32.wrap (a.n : Int))] H (.bool c) H1) (hm : Run Try.prog 52 [.op idm 0, .int .i64 a.num, .int .i64 5, .int .u64 ((a.n : Int).tmod 4294967296), .str []] H1 (.bool c) H2) : Run Try.prog 28 [.op idw 0, .op idm 0, actAV a] H (.bool true) H2 := by
  refine Run.of_tri Try.func28 rfl rfl (ltb rfl) ?_
  refine Tri.seq ?_
  refine Tri.region ?_
  refine TriL.c2 rfl (op_box (ltb rfl) rfl rfl rfl) ?_
  refine TriL.c1 rfl (op_as (ltb rfl) rfl) ?_
  refine TriL.nil ?_
  refine Tri.seq ?_
  refine Tri.seq ?_
  refine Tri.region ?_
  refine TriL.c1 rfl (op_fal (ltb rfl) fo52_0 rfl) ?_
  refine TriL.c1 rfl (op_ldl (ltb rfl) lk3 rfl rfl rfl) ?_
  refine TriL.nil ?_
  refine Tri.blk ?_
  refine Tri.seq ?_
  refine Tri.region ?_
  refine TriL.c1 rfl (op_bin (ltb rfl) rfl rfl rfl) ?_
  refine TriL.c1 rfl (op_as (ltb rfl) rfl) ?_
  refine TriL.nil ?_
  refine Tri.condF rfl (by rw [ha]; rfl) ?_
  refine Tri.seq ?_
  refine Tri.region ?_
  refine TriL.c1 rfl (op_bin (ltb rfl) rfl rfl rfl) ?_
  refine TriL.c1 rfl (op_as (ltb rfl) rfl) ?_
  refine TriL.nil ?_
  refine Tri.condF rfl (by rw [ha]; rfl) ?_
  refine Tri.seq ?_
  refine Tri.region ?_
  refine TriL.c1 rfl (op_bin (ltb rfl) rfl rfl rfl) ?_
  refine TriL.c1 rfl (op_as (ltb rfl) rfl) ?_
  refine TriL.nil ?_
  refine Tri.condF rfl (by rw [ha]; rfl) ?_
  refine Tri.seq ?_
  refine Tri.region ?_
  refine TriL.c1 rfl (op_bin (ltb rfl) rfl rfl rfl) ?_
  refine TriL.c1 rfl (op_as (ltb rfl) rfl) ?_
  refine TriL.nil ?_
  refine Tri.condF rfl (by rw [ha]; rfl) ?_
  refine Tri.seq ?_
  refine Tri.region ?_
  refine TriL.c1 rfl (op_bin (ltb rfl) rfl rfl rfl) ?_
  refine TriL.c1 rfl (op_as (ltb rfl) rfl) ?_
  refine TriL.nil ?_
  refine Tri.condF rfl (by rw [ha]; rfl) ?_
  refine Tri.seq ?_
  refine Tri.region ?_
  refine TriL.c1 rfl (op_bin (ltb rfl) rfl rfl rfl) ?_
  refine TriL.c1 rfl (op_as (ltb rfl) rfl) ?_
  refine TriL.nil ?_
  refine Tri.condT rfl (by rw [ha]; rfl) ?_
  refine Tri.seq ?_
  refine Tri.drawn mixed rfl ?_
  refine TriD.c1 rfl (op_mv (ltb rfl) rfl) ?_
  refine TriD.c1 rfl (op_fal (ltb rfl) fo52_1 rfl) ?_
  refine TriD.c1 rfl (op_ldl (ltb rfl) lk3 rfl rfl rfl) ?_
  refine TriD.c1 rfl (op_fal (ltb rfl) fo52_2 rfl) ?_
  refine TriD.c1 rfl (op_ldl (ltb rfl) lk50 rfl rfl rfl) ?_
  refine TriD.c1 rfl (op_cvi (ltb rfl) un50 un62 rfl) ?_
  refine TriD.c2 rfl (op_callh (ltb rfl) fn33 rfl rfl hw) ?_
  refine TriD.c1 rfl (op_mv (ltb rfl) rfl) ?_
  refine TriD.c1 rfl (op_fal (ltb rfl) fo52_1 rfl) ?_
  refine TriD.c1 rfl (op_ldl (ltb rfl) lk3 rfl rfl rfl) ?_
  refine TriD.c1 rfl (op_fal (ltb rfl) fo52_2 rfl) ?_
  refine TriD.c1 rfl (op_ldl (ltb rfl) lk50 rfl rfl rfl) ?_
  refine TriD.c1 rfl (op_bin (ltb rfl) rfl rfl rfl) ?_
  refine TriD.c2 rfl (op_callh (ltb rfl) fn52 rfl rfl hm) ?_
  refine TriD.c1 rfl (op_eqb (ltb rfl) un4 rfl rfl) ?_
  refine TriD.c1 rfl (op_as (ltb rfl) rfl) ?_
  refine TriD.nil (by kernel_rfl) (Kept.now ?_)
  refine Tri.ret ?_
  exact ⟨.inr rfl, (ResOK.r1 rfl (.tmp rfl .nil)).cast (congrArg AV.bool (by simp)), rfl⟩
theorem do6 (H H1 H2 : Hp) (idw idm : Nat) (a : Actt) (ha : a.d = 6) (hs : a.s.length ≤ 1048576) (hm : Run Try.prog 55 [.op idm 0, .sl (bsl (a.s ++ a.s))] H (.tup []) H1) (hw : Run Try.prog 35 [.op idw 0, .sl (sls [a.s, a.s])] H1 (.bool true) H2) : Run Try.prog 28 [.op idw 0, .op idm 0, actAV a] H (.bool true) H2 := by
  refine Run.of_tri Try.func28 rfl rfl (ltb rfl) ?_
  refine Tri.seq ?_
  refine Tri.region ?_
  refine TriL.c2 rfl (op_box (ltb rfl) rfl rfl rfl) ?_
  refine TriL.c1 rfl (op_as (ltb rfl) rfl) ?_
  refine TriL.nil ?_
  refine Tri.seq ?_
  refine Tri.seq ?_
  refine Tri.region ?_
  refine TriL.c1 rfl (op_fal (ltb rfl) fo52_0 rfl) ?_
  refine TriL.c1 rfl (op_ldl (ltb rfl) lk3 rfl rfl rfl) ?_
  refine TriL.nil ?_
  refine Tri.blk ?_
  refine Tri.seq ?_
  refine Tri.region ?_
  refine TriL.c1 rfl (op_bin (ltb rfl) rfl rfl rfl) ?_
  refine TriL.c1 rfl (op_as (ltb rfl) rfl) ?_
  refine TriL.nil ?_
  refine Tri.condF rfl (by rw [ha]; rfl) ?_
  refine Tri.seq ?_
  refine Tri.region ?_
  refine TriL.c1 rfl (op_bin (ltb rfl) rfl rfl rfl) ?_
  refine TriL.c1 rfl (op_as (ltb rfl) rfl) ?_
  refine TriL.nil ?_
  refine Tri.condF rfl (by rw [ha]; rfl) ?_
  refine Tri.seq ?_
  refine Tri.region ?_
  refine TriL.c1 rfl (op_bin (ltb rfl) rfl rfl rfl) ?_
  refine TriL.c1 rfl (op_as (ltb rfl) rfl) ?_
  refine TriL.nil ?_
  refine Tri.condF rfl (by rw [ha]; rfl) ?_
  refine Tri.seq ?_
  refine Tri.region ?_
  refine TriL.c1 rfl (op_bin (ltb rfl) rfl rfl rfl) ?_
  refine TriL.c1 rfl (op_as (ltb rfl) rfl) ?_
  refine TriL.nil ?_
  refine Tri.condF rfl (by rw [ha]; rfl) ?_
  refine Tri.seq ?_
  refine Tri.region ?_
  refine TriL.c1 rfl (op_bin (ltb rfl) rfl rfl rfl) ?_
  refine TriL.c1 rfl (op_as (ltb rfl) rfl) ?_
  refine TriL.nil ?_
  refine Tri.condF rfl (by rw [ha]; rfl) ?_
  refine Tri.seq ?_
  refine Tri.region ?_
  refine TriL.c1 rfl (op_bin (ltb rfl) rfl rfl rfl) ?_
  refine TriL.c1 rfl (op_as (ltb rfl) rfl) ?_
  refine TriL.nil ?_
  refine Tri.condF rfl (by rw [ha]; rfl) ?_
  refine Tri.seq ?_
  refine Tri.region ?_
  refine TriL.c1 rfl (op_bin (ltb rfl) rfl rfl rfl) ?_
  refine TriL.c1 rfl (op_as (ltb rfl) rfl) ?_
  refine TriL.nil ?_
  refine Tri.condT rfl (by rw [ha]; rfl) ?_
  refine Tri.seq ?_
  refine Tri.region ?_
  refine TriL.c1 rfl (op_mv (ltb rfl) rfl) ?_
  refine TriL.c1 rfl (op_fal (ltb rfl) fo52_3 rfl) ?_
  refine TriL.c1 rfl (op_ldl (ltb rfl) lk9 rfl rfl rfl) ?_
  refine TriL.cvap (ltb rfl) (ltb rfl) (ltb rfl) (ltb rfl) ⟨by decide, by decide⟩ se22 un9 unel22 un9 rfl fo52_3 rfl lk9 rfl rfl (by omega) (by omega) ?_
  refine TriL.c2 rfl (op_callh (ltb rfl) fn55 rfl rfl hm) ?_
  refine TriL.nil ?_
  refine Tri.seq ?_
  refine Tri.region ?_
  refine TriL.c1 rfl (op_mv (ltb rfl) rfl) ?_
  refine TriL.c1 rfl (op_fal (ltb rfl) fo52_3 rfl) ?_
  refine TriL.c1 rfl (op_ldl (ltb rfl) lk9 rfl rfl rfl) ?_
  refine TriL.c1 rfl (op_s2b (ltb rfl) un9 un22 unel22 rfl) ?_
  refine TriL.c1 rfl (op_fal (ltb rfl) fo52_3 rfl) ?_
  refine TriL.c1 rfl (op_ldl (ltb rfl) lk9 rfl rfl rfl) ?_
  refine TriL.c1 rfl (op_s2b (ltb rfl) un9 un22 unel22 rfl) ?_
  refine TriL.c1 rfl (op_lit («as» := [_, _]) (ltb rfl) se54 zAe54 rfl rfl rfl (leb rfl)) ?_
  refine TriL.c2 rfl (op_callh (ltb rfl) fn35 rfl rfl hw) ?_
  refine TriL.c1 rfl (op_as (ltb rfl) rfl) ?_
  refine TriL.nil ?_
  refine Tri.ret ?_
  exact ⟨.inr rfl, (ResOK.r1 rfl (.tmp rfl .nil)), rfl⟩
theorem do7 (H : Hp) (idw idm : Nat) (a : Actt) (ha : ∀ k : Int, 0 ≤ k → k ≤ 6 → a.d ≠ k) : Run Try.prog 28 [.op idw 0, .op idm 0, actAV a] H (.bool true) H := by
  refine Run.of_tri Try.func28 rfl rfl (ltb rfl) ?_
  refine Tri.seq ?_
  refine Tri.region ?_
  refine TriL.c2 rfl (op_box (ltb rfl) rfl rfl rfl) ?_
  refine TriL.c1 rfl (op_as (ltb rfl) rfl) ?_
  refine TriL.nil ?_
  refine Tri.seq ?_
  refine Tri.seq ?_
  refine Tri.region ?_
  refine TriL.c1 rfl (op_fal (ltb rfl) fo52_0 rfl) ?_
  refine TriL.c1 rfl (op_ldl (ltb rfl) lk3 rfl rfl rfl) ?_
  refine TriL.nil ?_
  refine Tri.blk ?_
  refine Tri.seq ?_
  refine Tri.region ?_
  refine TriL.c1 rfl (op_bin (ltb rfl) rfl rfl rfl) ?_
  refine TriL.c1 rfl (op_as (ltb rfl) rfl) ?_
  refine TriL.nil ?_
  refine Tri.condF rfl (beq_eq_false_iff_ne.2 (ha 0 (by decide) (by decide))) ?_
  refine Tri.seq ?_
  refine Tri.region ?_
  refine TriL.c1 rfl (op_bin (ltb rfl) rfl rfl rfl) ?_
  refine TriL.c1 rfl (op_as (ltb rfl) rfl) ?_
  refine TriL.nil ?_
  refine Tri.condF rfl (beq_eq_false_iff_ne.2 (ha 1 (by decide) (by decide))) ?_
  refine Tri.seq ?_
  refine Tri.region ?_
  refine TriL.c1 rfl (op_bin (ltb rfl) rfl rfl rfl) ?_
  refine TriL.c1 rfl (op_as (ltb rfl) rfl) ?_
  refine TriL.nil ?_
  refine Tri.condF rfl (beq_eq_false_iff_ne.2 (ha 2 (by decide) (by decide))) ?_
  refine Tri.seq ?_
  refine Tri.region ?_
  refine TriL.c1 rfl (op_bin (ltb rfl) rfl rfl rfl) ?_
  refine TriL.c1 rfl (op_as (ltb rfl) rfl) ?_
  refine TriL.nil ?_
  refine Tri.condF rfl (beq_eq_false_iff_ne.2 (ha 3 (by decide) (by decide))) ?_
  refine Tri.seq ?_
  refine Tri.region ?_
  refine TriL.c1 rfl (op_bin (ltb rfl) rfl rfl rfl) ?_
  refine TriL.c1 rfl (op_as (ltb rfl) rfl) ?_
  refine TriL.nil ?_
  refine Tri.condF rfl (beq_eq_false_iff_ne.2 (ha 4 (by decide) (by decide))) ?_
  refine Tri.seq ?_
  refine Tri.region ?_
  refine TriL.c1 rfl (op_bin (ltb rfl) rfl rfl rfl) ?_
  refine TriL.c1 rfl (op_as (ltb rfl) rfl) ?_
  refine TriL.nil ?_
  refine Tri.condF rfl (beq_eq_false_iff_ne.2 (ha 5 (by decide) (by decide))) ?_
  refine Tri.seq ?_
  refine Tri.region ?_
  refine TriL.c1 rfl (op_bin (ltb rfl) rfl rfl rfl) ?_
  refine TriL.c1 rfl (op_as (ltb rfl) rfl) ?_
  refine TriL.nil ?_
  refine Tri.condF rfl (beq_eq_false_iff_ne.2 (ha 6 (by decide) (by decide))) ?_
  refine Tri.skip ?_
  refine Tri.seq ?_
  refine Tri.region ?_
  refine TriL.c1 rfl (op_as (ltb rfl) rfl) ?_
  refine TriL.nil ?_
  refine Tri.ret ?_
  exact ⟨.inr rfl, (ResOK.r1 rfl (.tmp rfl .nil)), rfl⟩
end Go.Proofs.Ytecjdohpfijmpaa.X
/- EmitWrites: one act on both writers; the law. -/
set_option linter.unusedVariables false
set_option linter.unusedSimpArgs false
set_option linter.unusedSectionVars false
namespace Go.Proofs.Ytecjdohpfijmpaa.X
open Go Go.RowKit Go.Proofs
theorem fn26 : isFn Try.prog 26 = true := by kernel_rfl
theorem fn27 : isFn Try.prog 27 = true := by kernel_rfl
theorem fn28 : isFn Try.prog 28 = true := by kernel_rfl
theorem fn30 : isFn Try.prog 30 = true := by kernel_rfl
theorem lk52 : lk Try.prog 52 = some (true, 4) := by kernel_rfl
theorem Hp.add_ne {H : Hp} {i : Nat} {cs : List Hc} (h : i ≠ H.next) : (H.add cs).obj i = H.obj i := by simp [Hp.add, Hp.set, h]
theorem Hp.set_ne {H : Hp} {i j : Nat} {cs : List Hc} (h : i ≠ j) : (H.set i cs).obj j = H.obj j := by simp [Hp.set, Ne.symm h]
/-- The parts and the numbers of the one are the frames of the other. -/
inductive FS : List (List UInt8) → List Int → List AV → Prop where
  | one (p : List UInt8) : FS [p] [] []
  | more (qs : List (List UInt8)) (p : List UInt8) (ns : List Int) (n : Int) (fs : List AV) : FS qs ns fs → rightok n 2 = true → FS (qs ++ [p]) (ns ++ [n]) (fs ++ [frm n (qs.flatten.length : Nat)])
theorem FS.len {ps : List (List UInt8)} {ns : List Int} {fs : List AV} (h : FS ps ns fs) : ps.length = ns.length + 1 ∧ fs.length = ns.length ∧ ∀ f ∈ fs, ∃ a b, f = frm a b := by
  induction h with
  | one p => exact ⟨rfl, rfl, fun f h => by simp at h⟩
  | more qs p ns n fs _ _ ih =>
    refine ⟨by simp [ih.1], by simp [ih.2.1], fun f h => ?_⟩
    rcases List.mem_append.1 h with h | h
    · exact ih.2.2 f h
    · simp at h; exact ⟨_, _, h⟩
theorem FS.last {ps : List (List UInt8)} {ns : List Int} {fs : List AV} (h : FS ps ns fs) : ∃ qs p, ps = qs ++ [p] ∧ ∀ p', FS (qs ++ [p']) ns fs := by
  cases h with
  | one p => exact ⟨[], p, rfl, fun p' => .one p'⟩
  | more qs p ns n fs h hr => exact ⟨qs, p, rfl, fun p' => .more qs p' ns n fs h hr⟩
/-- Both writers, and what they hold. -/
structure EW (H : Hp) (idw idm : Nat) (ps : List (List UInt8)) (ns : List Int) (fs : List AV) : Prop where
  ne : idw ≠ idm
  w : H.obj idw = some (wr (bsl ps.flatten) fs)
  m : H.obj idm = some (refw ps ns)
  fs : FS ps ns fs
theorem EW.step {H : Hp} {idw idm : Nat} {ps ps' : List (List UInt8)} {ns ns' : List Int} {fs fs' : List AV} (h : EW H idw idm ps ns fs) (h2 : FS ps' ns' fs') : EW ((H.set idw (wr (bsl ps'.flatten) fs')).set idm (refw ps' ns')) idw idm ps' ns' fs' :=
  ⟨h.ne, by rw [Hp.set_ne (Ne.symm h.ne)]; exact Hp.set_obj, Hp.set_obj, h2⟩
theorem EW.step' {H : Hp} {idw idm : Nat} {ps ps' : List (List UInt8)} {ns ns' : List Int} {fs fs' : List AV} (h : EW H idw idm ps ns fs) (h2 : FS ps' ns' fs') : EW ((H.set idm (refw ps' ns')).set idw (wr (bsl ps'.flatten) fs')) idw idm ps' ns' fs' :=
  ⟨h.ne, Hp.set_obj, by rw [Hp.set_ne h.ne]; exact Hp.set_obj, h2⟩
/-- What one act leaves. -/
def After (H : Hp) (idw idm : Nat) (ps : List (List UInt8)) (ns : List Int) (a : Actt) : Prop :=
  ∃ H' ps' ns' fs', Run Try.prog 28 [.op idw 0, .op idm 0, actAV a] H (.bool true) H' ∧ EW H' idw idm ps' ns' fs' ∧ ps'.flatten.length ≤ ps.flatten.length + 700 ∧ ns'.length ≤ ns.length + 1
section
variable {H : Hp} {idw idm : Nat} {ps : List (List UInt8)} {ns : List Int} {fs : List AV} {a : Actt} (h : EW H idw idm ps ns fs) (hs : a.s.length ≤ 300) (hu : a.n < 18446744073709551616) (hb : ps.flatten.length ≤ 100000) (hn : ns.length ≤ 100)
include h hs hu hb hn
theorem field_both (w : Int) (x : Nat) (l : List UInt8) (rest : List UInt8) (hr : rightok a.num w = true) (hlen : rest.length ≤ 600)
    (hbytes : PureO Try.prog 62 [.int .i64 a.num, .int .i64 w, .int .u64 (x : Int), .str l] 5 1 (bsl (vput (8 * a.num + w).toNat ++ rest))) (prs : List (List UInt8)) (hp : prs.flatten = rest) (hpl : prs.length ≤ 2) :
    ∃ H1 H2 ps', Run Try.prog 42 [.op idw 0, .int .i64 a.num, .int .i64 w, .sl (sls prs)] H (.bool true) H1 ∧ Run Try.prog 52 [.op idm 0, .int .i64 a.num, .int .i64 w, .int .u64 (x : Int), .str l] H1 (.bool true) H2 ∧ EW H2 idw idm ps' ns fs ∧ ps'.flatten.length ≤ ps.flatten.length + 700 := by
  obtain ⟨qs, p, rfl, hq⟩ := h.fs.last
  have hq2 := of_decide_eq_true hr
  have hm := vput_max (n := (8 * a.num + w).toNat) (by omega)
  have hl2 := h.fs.len.1
  simp only [List.length_append, List.length_cons, List.length_nil, List.flatten_append, List.flatten_cons, List.flatten_nil, List.append_nil] at hb hl2
  refine ⟨_, _, qs ++ [p ++ (vput (8 * a.num + w).toNat ++ rest)], field_run H idw (qs ++ [p]).flatten fs a.num w prs h.w hr (by rw [hp]; simp only [List.flatten_append, List.flatten_cons, List.flatten_nil, List.append_nil, List.length_append]; omega) (by omega),
    mfield_run _ idm a.num w x l qs p (vput (8 * a.num + w).toNat ++ rest) ns (by rw [Hp.set_ne h.ne]; exact h.m) hr hbytes (by omega) (by simp only [List.length_append]; omega), ?_, ?_⟩
  · have e : (qs ++ [p]).flatten ++ vput (8 * a.num + w).toNat ++ prs.flatten = (qs ++ [p ++ (vput (8 * a.num + w).toNat ++ rest)]).flatten := by
      rw [hp]; simp
    rw [e]
    exact h.step (hq _)
  · simp only [List.flatten_append, List.flatten_cons, List.flatten_nil, List.append_nil, List.length_append]; omega
theorem act0 (ha : a.d = 0) : After H idw idm ps ns a := by
  cases hr : rightok a.num 0 with
  | true =>
    have hv := vput_max hu
    obtain ⟨H1, H2, ps', r1, r2, r3, r4⟩ := field_both h hs hu hb hn 0 a.n [] (vput a.n) hr (by omega) (rbytes0 a.num 0 a.n [] hr rfl hu) [vput a.n] (by simp) (by simp)
    exact ⟨H2, ps', ns, fs, do0 H H1 H2 idw idm a true ha (varint_wrap _ _ _ _ _ hu true r1) r2, r3, r4, by omega⟩
  | false => exact ⟨H, ps, ns, fs, do0 H H H idw idm a false ha (varint_wrap _ _ _ _ _ hu false (field_bad H _ a.num 0 [vput a.n] hr)) (mfield_bad H idm a.num 0 a.n [] hr), h, by omega, by omega⟩
theorem act1 (ha : a.d = 1) : After H idw idm ps ns a := by
  cases hr : rightok a.num 1 with
  | true =>
    have hv := fput_len a.n 8
    obtain ⟨H1, H2, ps', r1, r2, r3, r4⟩ := field_both h hs hu hb hn 1 a.n [] (fput a.n 8) hr (by omega) (rbytes1 a.num 1 a.n [] hr rfl hu) [fput a.n 8] (by simp) (by simp)
    exact ⟨H2, ps', ns, fs, do1 H H1 H2 idw idm a true ha (fixed8_wrap _ _ _ _ _ true r1) r2, r3, r4, by omega⟩
  | false => exact ⟨H, ps, ns, fs, do1 H H H idw idm a false ha (fixed8_wrap _ _ _ _ _ false (field_bad H _ a.num 1 [fput a.n 8] hr)) (mfield_bad H idm a.num 1 a.n [] hr), h, by omega, by omega⟩
theorem act5 (ha : a.d = 5) : After H idw idm ps ns a := by
  have hlt : a.n % 4294967296 < 4294967296 := Nat.mod_lt _ (by decide)
  have e0 : ((a.n : Int).tmod 4294967296) = ((a.n % 4294967296 : Nat) : Int) := tmod_nat a.n 4294967296
  cases hr : rightok a.num 5 with
  | true =>
    have hv := fput_len (a.n % 4294967296) 4
    obtain ⟨H1, H2, ps', r1, r2, r3, r4⟩ := field_both h hs hu hb hn 5 (a.n % 4294967296) [] (fput (a.n % 4294967296) 4) hr (by omega) (rbytes5 a.num 5 (a.n % 4294967296) [] hr rfl (by omega)) [fput (a.n % 4294967296) 4] (by simp) (by simp)
    exact ⟨H2, ps', ns, fs, do5 H H1 H2 idw idm a true ha (fixed4_wrap' _ _ _ _ _ (a.n % 4294967296) (wru32_mod a.n) hlt true r1) (by rw [e0]; exact r2), r3, r4, by omega⟩
  | false => exact ⟨H, ps, ns, fs, do5 H H H idw idm a false ha (fixed4_wrap' _ _ _ _ _ (a.n % 4294967296) (wru32_mod a.n) hlt false (field_bad H _ a.num 5 [fput (a.n % 4294967296) 4] hr)) (by rw [e0]; exact mfield_bad H idm a.num 5 (a.n % 4294967296) [] hr), h, by omega, by omega⟩
theorem act2 (ha : a.d = 2) : After H idw idm ps ns a := by
  have hx : a.s.length % 18446744073709551616 = a.s.length := Nat.mod_eq_of_lt (by omega)
  cases hr : rightok a.num 2 with
  | true =>
    have hv := vput_max (n := a.s.length) (by omega)
    obtain ⟨H1, H2, ps', r1, r2, r3, r4⟩ := field_both h hs hu hb hn 2 0 a.s (vput a.s.length ++ a.s) hr (by simp only [List.length_append]; omega) (rbytes2 a.num 2 0 a.s hr rfl (by omega)) [vput a.s.length, a.s] (by simp) (by simp)
    exact ⟨H2, ps', ns, fs, do2 H H1 H2 idw idm a true ha (text_wrap' _ _ _ _ _ true (by rw [hx]; exact r1)) r2, r3, r4, by omega⟩
  | false => exact ⟨H, ps, ns, fs, do2 H H H idw idm a false ha (text_wrap' _ _ _ _ _ false (field_bad H _ a.num 2 [vput (a.s.length % 18446744073709551616), a.s] hr)) (mfield_bad H idm a.num 2 0 a.s hr), h, by omega, by omega⟩
theorem act3 (ha : a.d = 3) : After H idw idm ps ns a := by
  have hl := h.fs.len
  cases hr : rightok a.num 2 with
  | true =>
    refine ⟨_, ps ++ [[]], ns ++ [a.num], fs ++ [frm a.num (ps.flatten.length : Nat)], do3 H _ _ idw idm a true ha (open_run' H idw a.num ps.flatten fs ps.flatten.length h.w hr (by omega) rfl)
      (mopen_run _ idm a.num ps ns (by rw [Hp.set_ne h.ne]; exact h.m) hr (by omega) (by omega)), ?_, by simp, by simp⟩
    have := h.step (FS.more ps [] ns a.num fs h.fs hr)
    simp only [List.flatten_append, List.flatten_cons, List.flatten_nil, List.append_nil] at this
    exact this
  | false => exact ⟨H, ps, ns, fs, do3 H H H idw idm a false ha (open_bad H _ a.num (is_run H idw _ _ h.w) hr) (mopen_bad H idm a.num hr), h, by omega, by omega⟩
theorem act4 (ha : a.d = 4) : After H idw idm ps ns a := by
  have hF := h.fs
  have hw := h.w
  have hm := h.m
  have hl := h.fs.len
  cases hF with
  | one p => exact ⟨H, [p], [], [], do4 H H H idw idm a false ha (close_bad H idw _ hw (is_run H idw _ _ hw)) (mclose_bad H idm [p] hm), h, by omega, by simp⟩
  | more rs b ms n gs hF2 hr =>
    obtain ⟨qs, p, rfl, hq⟩ := hF2.last
    have hl2 := hF2.len
    have hq2 := of_decide_eq_true hr
    have hm1 := vput_max (n := (8 * n + 2).toNat) (by omega)
    simp only [List.length_append, List.length_cons, List.length_nil, List.flatten_append, List.flatten_cons, List.flatten_nil, List.append_nil] at hb hl2 hn hl
    have hm2 := vput_max (n := b.length) (by omega)
    have hfl : ((qs ++ [p]) ++ [b]).flatten = (qs ++ [p]).flatten ++ b := by simp
    have hsh : shut ((qs ++ [p]) ++ [b]).flatten n (qs ++ [p]).flatten.length = (qs ++ [p ++ (vput (8 * n + 2).toNat ++ (vput b.length ++ b))]).flatten := by
      rw [hfl, shut, List.take_left, List.drop_left, List.length_append, Nat.add_sub_cancel_left]; simp
    refine ⟨_, qs ++ [p ++ (vput (8 * n + 2).toNat ++ (vput b.length ++ b))], ms, gs, do4 H _ _ idw idm a true ha (close_run H idw _ gs n (qs ++ [p]).flatten.length hw hl2.2.2 hr (by rw [hfl, List.length_append]; omega) (by simp only [List.length_append, List.flatten_append, List.flatten_cons, List.flatten_nil, List.append_nil]; omega) (by omega))
      (mclose_run _ idm qs p b ms n (by rw [Hp.set_ne h.ne]; exact hm) hr (by omega) (by omega) (by omega)), ?_, ?_, by simp only [List.length_append, List.length_cons, List.length_nil]; omega⟩
    · rw [hsh]; exact h.step (hq _)
    · simp only [List.flatten_append, List.flatten_cons, List.flatten_nil, List.append_nil, List.length_append]; omega
theorem act6 (ha : a.d = 6) : After H idw idm ps ns a := by
  obtain ⟨qs, p, rfl, hq⟩ := h.fs.last
  have hl := h.fs.len
  simp only [List.length_append, List.length_cons, List.length_nil, List.flatten_append, List.flatten_cons, List.flatten_nil, List.append_nil] at hb hl
  refine ⟨_, qs ++ [p ++ (a.s ++ a.s)], ns, fs, do6 H _ _ idw idm a ha (by omega) (mplain_run H idm qs p (a.s ++ a.s) ns h.m (by omega) (by simp only [List.length_append]; omega))
    (plain_run _ idw (qs ++ [p]).flatten fs [a.s, a.s] (by rw [Hp.set_ne (Ne.symm h.ne)]; exact h.w) (by simp only [List.length_append, List.flatten_append, List.flatten_cons, List.flatten_nil, List.append_nil]; omega) (by simp)), ?_, ?_, by omega⟩
  · have e : (qs ++ [p]).flatten ++ [a.s, a.s].flatten = (qs ++ [p ++ (a.s ++ a.s)]).flatten := by simp
    rw [e]; exact h.step' (hq _)
  · simp only [List.flatten_append, List.flatten_cons, List.flatten_nil, List.append_nil, List.length_append]; omega
theorem act_ok : After H idw idm ps ns a := by
  by_cases h0 : a.d = 0
  · exact act0 h hs hu hb hn h0
  by_cases h1 : a.d = 1
  · exact act1 h hs hu hb hn h1
  by_cases h2 : a.d = 2
  · exact act2 h hs hu hb hn h2
  by_cases h3 : a.d = 3
  · exact act3 h hs hu hb hn h3
  by_cases h4 : a.d = 4
  · exact act4 h hs hu hb hn h4
  by_cases h5 : a.d = 5
  · exact act5 h hs hu hb hn h5
  by_cases h6 : a.d = 6
  · exact act6 h hs hu hb hn h6
  exact ⟨H, ps, ns, fs, do7 H idw idm a (fun k k0 k6 e => by omega), h, by omega, by omega⟩
end
theorem bytes_any (H : Hp) (id : Nat) (ps : List (List UInt8)) (ns : List Int) (fs : List AV) (ho : H.obj id = some (wr (bsl ps.flatten) fs)) (hl : fs.length = ns.length) (hb : ps.flatten.length ≤ 1073741824) : Run Try.prog 21 [.op id 0] H (.sl (bsl (if ns.length = 0 then ps.flatten else []))) H := by
  by_cases h : ns.length = 0
  · rw [if_pos h]
    have : fs = [] := List.length_eq_zero_iff.1 (by omega)
    subst this
    exact bytes_run H id _ ho hb
  · rw [if_neg h]; exact bytes_bad H id _ fs ho (by omega)
def StWr (H : Hp) (idw idm : Nat) (l : List Actt) (j : Int) : St := [(.h, .hp H), (.s 0, .sv (.v (.sl (l.map actAV)))), (.s 3, .sv (.v (.op idw 0))), (.s 4, .sv (.v (.op idm 0))), (.s 5, .sv (.v (.int .i64 j)))]
theorem writes_run (H : Hp) (l : List Actt) (hu : ∀ a ∈ l, a.n < 18446744073709551616) : RunX Try.prog 7 [.sl (l.map actAV)] H (.bool true) := by
  have hne : H.next ≠ (H.add (wr [] [])).next := by show H.next ≠ H.next + 1; omega
  generalize hidm : (H.add (wr [] [])).next = idm at hne
  refine RunX.of_tri Try.func7 rfl rfl (ltb rfl) ?_
  refine Tri.seq ?_
  refine Tri.region ?_
  refine TriL.c1 rfl (op_as (ltb rfl) rfl) ?_
  refine TriL.nil ?_
  refine Tri.seq ?_
  refine Tri.seq ?_
  refine Tri.region ?_
  refine TriL.c1 rfl (op_mv (ltb rfl) rfl) ?_
  refine TriL.c1 rfl (op_call (ltb rfl) fn26 rfl (light_pure l)) ?_
  refine TriL.c1 rfl (op_un (ltb rfl) rfl rfl) ?_
  refine TriL.nil ?_
  refine Tri.cond rfl (fun hc1 => ?_) (fun hc1 => ?_)
  · refine Tri.seq ?_
    refine Tri.region ?_
    refine TriL.c2 rfl (op_callh (ltb rfl) fn15 rfl rfl (live_run _)) ?_
    refine TriL.c1 rfl (op_as (ltb rfl) rfl) ?_
    refine TriL.nil ?_
    refine Tri.ret ?_
    exact ⟨.inr rfl, ResOK.r1 rfl (.tmp rfl .nil)⟩
  · have hlb : lightb l = true := by simpa using hc1
    obtain ⟨h50, hall⟩ := of_decide_eq_true hlb
    refine Tri.skip ?_
    refine Tri.seq ?_
    refine Tri.region ?_
    refine TriL.c2 rfl (op_callh (ltb rfl) fn16 rfl rfl (new_add H)) ?_
    refine TriL.c2 rfl (op_callh (ltb rfl) fn27 rfl rfl (mnew_run _)) ?_
    refine TriL.c1 rfl (op_as (ltb rfl) rfl) ?_
    refine TriL.c1 rfl (op_as (ltb rfl) rfl) ?_
    refine TriL.nil ?_
    refine Tri.seq ?_
    refine Tri.seq ?_
    refine Tri.region ?_
    refine TriL.c1 rfl (op_as (ltb rfl) rfl) ?_
    refine TriL.kept (Kept.keep [.h, .s 0, .s 3, .s 4, .s 5] rfl (by decide) (Kept.now ?_))
    refine Tri.blk ?_
    -- LOOP 1: KEEP
    refine Tri.loop (fun q s => ∃ (i : Nat) (HH : Hp) (ps : List (List UInt8)) (ns : List Int) (fs : List AV) (j : Int), s = StWr HH H.next idm l j ∧ j = i ∧ EW HH H.next idm ps ns fs ∧ ps.flatten.length ≤ 700 * i ∧ ns.length ≤ i ∧ i ≤ l.length ∧ q = l.length - i) ?_ (n := l.length) ⟨0, (H.add (wr [] [])).add (refw [[]] []), [[]], [], [], 0, (by rw [← hidm]; rfl), rfl, (by rw [← hidm]; exact ⟨hidm ▸ hne, (Hp.add_ne (hidm ▸ hne)).trans Hp.add_obj, Hp.add_obj, .one []⟩), by simp, by simp, by omega, rfl⟩
    rintro q s ⟨i, HH, ps, ns, fs, j, rfl, hj, hE, hfl, hnl, hi, rfl⟩
    have hml : (l.map actAV).length = l.length := by simp
    refine Tri.seq ?_
    refine Tri.seq ?_
    refine Tri.region ?_
    refine TriL.c1 rfl (op_mv (ltb rfl) rfl) ?_
    refine TriL.c1 rfl (op_mv (ltb rfl) rfl) ?_
    refine TriL.c1 rfl (op_lenl (ltb rfl) un45 rfl) ?_
    refine TriL.c1 rfl (op_bin (ltb rfl) rfl rfl rfl) ?_
    refine TriL.nil ?_
    refine Tri.cond rfl (fun hc2 => ?_) (fun hc2 => ?_)
    · have hlt : i < l.length := by have := of_decide_eq_true hc2; omega
      obtain ⟨a, ha⟩ : ∃ a, l[i]? = some a := ⟨l[i], List.getElem?_eq_getElem hlt⟩
      have hxs : (l.map actAV)[j.toNat]? = some (actAV a) := by subst hj; simp [ha]
      have has := hall a (List.mem_of_getElem? (i := i) (by rw [List.getElem?_take, if_pos (by omega)]; exact ha))
      obtain ⟨HH2, ps2, ns2, fs2, r1, r2, r3, r4⟩ := act_ok hE has (hu a (List.mem_of_getElem? ha)) (by omega) (by omega)
      have hl2 := r2.fs.len
      have hbl2 := bsl_len ps2.flatten
      have hnl2 := nil_len ns2
      refine Tri.skip ?_
      refine Tri.seq ?_
      refine Tri.blk ?_
      refine Tri.seq ?_
      refine Tri.seq ?_
      refine Tri.drawn mixed rfl ?_
      refine TriD.c1 rfl (op_mv (ltb rfl) rfl) ?_
      refine TriD.c1 rfl (op_mv (ltb rfl) rfl) ?_
      refine TriD.c1 rfl (op_mv (ltb rfl) rfl) ?_
      refine TriD.c1 rfl (op_mv (ltb rfl) rfl) ?_
      refine TriD.c1 rfl (op_iak (ltb rfl) ie45 rfl rfl (by omega) hxs rfl) ?_
      refine TriD.c1 rfl (op_ldk (ltb rfl) lk52 rfl rfl) ?_
      refine TriD.c2 rfl (op_callh (ltb rfl) fn28 rfl rfl r1) ?_
      refine TriD.c1 rfl (op_un (ltb rfl) rfl rfl) ?_
      refine TriD.c1 rfl (op_mv (ltb rfl) rfl) ?_
      refine TriD.g1 rfl (ltb rfl) rfl rfl (op_mv (ltb rfl) rfl) ?_
      refine TriD.g1 rfl (ltb rfl) rfl rfl (op_callk (ltb rfl) fn29 rfl rfl (len_run _ H.next _ _ r2.w)) ?_
      refine TriD.g1 rfl (ltb rfl) rfl rfl (op_mv (ltb rfl) rfl) ?_
      refine TriD.g1 rfl (ltb rfl) rfl rfl (op_callk (ltb rfl) fn30 rfl rfl (mlen_run _ idm ps2 ns2 r2.m (by omega) (by omega))) ?_
      refine TriD.g1 rfl (ltb rfl) rfl rfl (op_bin (ltb rfl) rfl rfl rfl) ?_
      refine TriD.c1 rfl (op_pickf (ltb rfl) rfl rfl rfl) ?_
      refine TriD.c1 rfl (op_mv (ltb rfl) rfl) ?_
      refine TriD.g1 rfl (ltb rfl) rfl (by rw [hbl2]; simp) (op_mv (ltb rfl) rfl) ?_
      refine TriD.g1 rfl (ltb rfl) rfl (by rw [hbl2]; simp) (op_callk (ltb rfl) fn31 rfl rfl (deep_run _ H.next _ _ r2.w)) ?_
      refine TriD.g1 rfl (ltb rfl) rfl (by rw [hbl2]; simp) (op_mv (ltb rfl) rfl) ?_
      refine TriD.g1 rfl (ltb rfl) rfl (by rw [hbl2]; simp) (op_nckc (ltb rfl) rfl) ?_
      refine TriD.g1 rfl (ltb rfl) rfl (by rw [hbl2]; simp) (op_fac (ltb rfl) fo56_1 rfl) ?_
      refine TriD.g1 rfl (ltb rfl) rfl (by rw [hbl2]; simp) (op_ldc (ltb rfl) lk41 rfl rfl r2.m rfl) ?_
      refine TriD.g1 rfl (ltb rfl) rfl (by rw [hbl2]; simp) (op_lensl (ltb rfl) un41 rfl) ?_
      refine TriD.g1 rfl (ltb rfl) rfl (by rw [hbl2]; simp) (op_bin (ltb rfl) rfl rfl rfl) ?_
      refine TriD.c1 rfl (op_pickf (ltb rfl) rfl (by rw [hbl2]; simp) rfl) ?_
      refine TriD.nil (by kernel_rfl) (Kept.now ?_)
      refine Tri.condF rfl (by rw [hnl2, hl2.2.1]; simp) ?_
      refine Tri.skip ?_
      refine Tri.seq ?_
      refine Tri.region ?_
      refine TriL.c1 rfl (op_mv (ltb rfl) rfl) ?_
      refine TriL.c1 rfl (op_callk (ltb rfl) fn21 rfl rfl (bytes_any _ H.next ps2 ns2 fs2 r2.w hl2.2.1 (by omega))) ?_
      refine TriL.c1 rfl (op_as (ltb rfl) rfl) ?_
      refine TriL.nil ?_
      refine Tri.seq ?_
      refine Tri.region ?_
      refine TriL.c1 rfl (op_mv (ltb rfl) rfl) ?_
      refine TriL.c1 rfl (op_nckc (ltb rfl) rfl) ?_
      refine TriL.c1 rfl (op_fac (ltb rfl) fo56_1 rfl) ?_
      refine TriL.c1 rfl (op_ldc (ltb rfl) lk41 rfl rfl r2.m rfl) ?_
      refine TriL.c1 rfl (op_lensl (ltb rfl) un41 rfl) ?_
      refine TriL.c1 rfl (op_bin (ltb rfl) rfl rfl rfl) ?_
      refine TriL.c1 rfl (op_mv (ltb rfl) rfl) ?_
      refine TriL.split (d := 52) rfl (fun hg3 => ?_) (fun hg3 => ?_)
      · have hz1 : ((((nil_ ns2).length : Nat) : Int) == 0) = false := beq_eq_false_iff_ne.2 (by have := of_decide_eq_true hg3; omega)
        refine TriL.g1 rfl (ltb rfl) rfl hg3 (op_mv (ltb rfl) rfl) ?_
        refine TriL.g1 rfl (ltb rfl) rfl hg3 (op_lenl (ltb rfl) un22 rfl) ?_
        refine TriL.g1 rfl (ltb rfl) rfl hg3 (op_bin (ltb rfl) rfl rfl rfl) ?_
        refine TriL.c1 rfl (op_pickt (ltb rfl) rfl hg3 rfl) ?_
        refine TriL.c1 rfl (op_mv (ltb rfl) rfl) ?_
        refine TriL.g1 rfl (ltb rfl) rfl (by rw [if_neg (show ¬ ns2.length = 0 by have := of_decide_eq_true hg3; omega)]; rfl) (op_mv (ltb rfl) rfl) ?_
        refine TriL.g1 rfl (ltb rfl) rfl (by rw [if_neg (show ¬ ns2.length = 0 by have := of_decide_eq_true hg3; omega)]; rfl) (op_nckc (ltb rfl) rfl) ?_
        refine TriL.g1 rfl (ltb rfl) rfl (by rw [if_neg (show ¬ ns2.length = 0 by have := of_decide_eq_true hg3; omega)]; rfl) (op_fac (ltb rfl) fo56_1 rfl) ?_
        refine TriL.g1 rfl (ltb rfl) rfl (by rw [if_neg (show ¬ ns2.length = 0 by have := of_decide_eq_true hg3; omega)]; rfl) (op_ldc (ltb rfl) lk41 rfl rfl r2.m rfl) ?_
        refine TriL.g1 rfl (ltb rfl) rfl (by rw [if_neg (show ¬ ns2.length = 0 by have := of_decide_eq_true hg3; omega)]; rfl) (op_lensl (ltb rfl) un41 rfl) ?_
        refine TriL.g1 rfl (ltb rfl) rfl (by rw [if_neg (show ¬ ns2.length = 0 by have := of_decide_eq_true hg3; omega)]; rfl) (op_bin (ltb rfl) rfl rfl rfl) ?_
        refine TriL.g1 rfl (ltb rfl) rfl (by rw [if_neg (show ¬ ns2.length = 0 by have := of_decide_eq_true hg3; omega)]; rfl) (op_mv (ltb rfl) rfl) ?_
        refine TriL.skipu rfl rfl (ltb rfl) (ltb rfl) rfl hz1 ?_
        refine TriL.skipu rfl rfl (ltb rfl) (ltb rfl) rfl hz1 ?_
        refine TriL.skipu rfl rfl (ltb rfl) (ltb rfl) rfl hz1 ?_
        refine TriL.skipu rfl rfl (ltb rfl) (ltb rfl) rfl hz1 ?_
        refine TriL.skipu rfl rfl (ltb rfl) (ltb rfl) rfl hz1 ?_
        refine TriL.skipu rfl rfl (ltb rfl) (ltb rfl) rfl hz1 ?_
        refine TriL.skipu rfl rfl (ltb rfl) (ltb rfl) rfl hz1 ?_
        refine TriL.skipu rfl rfl (ltb rfl) (ltb rfl) rfl hz1 ?_
        refine TriL.skipu rfl rfl (ltb rfl) (ltb rfl) rfl hz1 ?_
        refine TriL.g1 rfl (ltb rfl) rfl (by rw [if_neg (show ¬ ns2.length = 0 by have := of_decide_eq_true hg3; omega)]; rfl) (op_pickf (ltb rfl) rfl hz1 rfl) ?_
        refine TriL.c1 rfl (op_pickf (ltb rfl) rfl (by rw [if_neg (show ¬ ns2.length = 0 by have := of_decide_eq_true hg3; omega)]; rfl) rfl) ?_
        refine TriL.nil ?_
        refine Tri.condF rfl rfl ?_
        refine Tri.skip ?_
        refine Tri.region ?_
        refine TriL.c1 rfl (op_mv (ltb rfl) rfl) ?_
        refine TriL.c1 rfl (op_bin (ltb rfl) rfl rfl rfl) ?_
        refine TriL.c1 rfl (op_as (ltb rfl) rfl) ?_
        refine TriL.kept (Kept.keep [.h, .s 0, .s 3, .s 4, .s 5] rfl (by decide) (Kept.now ?_))
        refine ⟨l.length - (i + 1), by omega, i + 1, HH2, ps2, ns2, fs2, IntKind.i64.wrap (j + 1), rfl, by rw [hj, wr64] <;> omega, r2, by omega, by omega, by omega, rfl⟩
      · have hz : ns2.length = 0 := by have := of_decide_eq_false hg3; omega
        have hz1 : ((((nil_ ns2).length : Nat) : Int) == 0) = true := beq_iff_eq.2 (by omega)
        obtain ⟨p2, hp2⟩ : ∃ p2, ps2 = [p2] := by
          have := hl2.1
          cases ps2 with
          | nil => simp at this
          | cons a r => cases r with
            | nil => exact ⟨a, rfl⟩
            | cons b r => simp at this; omega
        have hp0 : ps2[0]? = some p2 := by rw [hp2]; rfl
        have hbb : (!((if ns2.length = 0 then ps2.flatten else []) == p2)) = false := by rw [if_pos hz, hp2]; simp
        have hsl2 := sls_len ps2
        refine TriL.skipu rfl rfl (ltb rfl) (ltb rfl) rfl hg3 ?_
        refine TriL.skipu rfl rfl (ltb rfl) (ltb rfl) rfl hg3 ?_
        refine TriL.skipu rfl rfl (ltb rfl) (ltb rfl) rfl hg3 ?_
        refine TriL.c1 rfl (op_pickf (ltb rfl) rfl hg3 rfl) ?_
        refine TriL.c1 rfl (op_mv (ltb rfl) rfl) ?_
        refine TriL.g1 rfl (ltb rfl) rfl rfl (op_mv (ltb rfl) rfl) ?_
        refine TriL.g1 rfl (ltb rfl) rfl rfl (op_nckc (ltb rfl) rfl) ?_
        refine TriL.g1 rfl (ltb rfl) rfl rfl (op_fac (ltb rfl) fo56_1 rfl) ?_
        refine TriL.g1 rfl (ltb rfl) rfl rfl (op_ldc (ltb rfl) lk41 rfl rfl r2.m rfl) ?_
        refine TriL.g1 rfl (ltb rfl) rfl rfl (op_lensl (ltb rfl) un41 rfl) ?_
        refine TriL.g1 rfl (ltb rfl) rfl rfl (op_bin (ltb rfl) rfl rfl rfl) ?_
        refine TriL.g1 rfl (ltb rfl) rfl rfl (op_mv (ltb rfl) rfl) ?_
        refine TriL.g1 rfl (ltb rfl) rfl hz1 (op_mv (ltb rfl) rfl) ?_
        refine TriL.ofKept (Kept.opn 100 idm 100 rfl r2.m rfl rfl (Kept.lp 4 100 rfl rfl (Kept.now ?_)))
        refine TriL.g1 rfl (ltb rfl) rfl hz1 (op_mv (ltb rfl) rfl) ?_
        refine TriL.g1 rfl (ltb rfl) rfl hz1 (op_nckl (ltb rfl) rfl) ?_
        refine TriL.g1 rfl (ltb rfl) rfl hz1 (op_fal (ltb rfl) fo56_0 rfl) ?_
        refine TriL.g1 rfl (ltb rfl) rfl hz1 (op_ldo (ltb rfl) lk54 rfl rfl rfl) ?_
        refine TriL.g1 rfl (ltb rfl) rfl hz1 (op_iam (ltb rfl) ie54 rfl rfl rfl (by decide) (by omega)) ?_
        refine TriL.g1 rfl (ltb rfl) rfl hz1 (op_ldt (ltb rfl) lk22 rfl rfl (by rw [show ((0 : Int).toNat * 1) = 0 * 1 from rfl, sls_at hp0]; rfl)) ?_
        refine TriL.g1 rfl (ltb rfl) rfl hz1 (op_call (ltb rfl) fn13 rfl (bytes_pure _ p2)) ?_
        refine TriL.g1 rfl (ltb rfl) rfl hz1 (op_un (ltb rfl) rfl rfl) ?_
        refine TriL.g1 rfl (ltb rfl) rfl rfl (op_pickt (ltb rfl) rfl hz1 rfl) ?_
        refine TriL.c1 rfl (op_pickf (ltb rfl) rfl rfl rfl) ?_
        refine TriL.kept (Kept.op 4 rfl rfl (Kept.cls 100 rfl rfl rfl rfl (Kept.now ?_)))
        refine Tri.condF rfl hbb ?_
        refine Tri.skip ?_
        refine Tri.region ?_
        refine TriL.c1 rfl (op_mv (ltb rfl) rfl) ?_
        refine TriL.c1 rfl (op_bin (ltb rfl) rfl rfl rfl) ?_
        refine TriL.c1 rfl (op_as (ltb rfl) rfl) ?_
        refine TriL.kept (Kept.keep [.h, .s 0, .s 3, .s 4, .s 5] rfl (by decide) (Kept.now ?_))
        refine ⟨l.length - (i + 1), by omega, i + 1, _, ps2, ns2, fs2, IntKind.i64.wrap (j + 1), rfl, by rw [hj, wr64] <;> omega, ?_, by omega, by omega, by omega, rfl⟩
        have e : (HH2.del idm).set idm (refw ps2 ns2) = HH2 := by rw [Hp.del_set, Hp.set_same r2.m]
        exact cast (congrArg (fun h => EW h H.next idm ps2 ns2 fs2) e.symm) r2
    · refine Tri.exit ?_
      refine Tri.seq ?_
      refine Tri.region ?_
      refine TriL.c2 rfl (op_callh (ltb rfl) fn15 rfl rfl (live_run _)) ?_
      refine TriL.c1 rfl (op_as (ltb rfl) rfl) ?_
      refine TriL.nil ?_
      refine Tri.ret ?_
      exact ⟨.inr rfl, ResOK.r1 rfl (.tmp rfl .nil)⟩
end Go.Proofs.Ytecjdohpfijmpaa.X
