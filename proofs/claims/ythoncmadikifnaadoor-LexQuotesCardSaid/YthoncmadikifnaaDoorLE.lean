/- The law LexAll's walk: tokens are the same; the page's example. -/
import Derived.Test.YthoncmadikifnaaDoorLD
set_option linter.unusedVariables false
set_option linter.unusedSimpArgs false
set_option linter.unusedSectionVars false
set_option maxRecDepth 100000
namespace Go.Proofs.YthoncmadikifnaaDoor.X
open Go Go.RowKit Go.Proofs
theorem fn10 : isFn Tryd.prog 10 = true := by kernel_rfl
theorem fn6 : isFn Tryd.prog 6 = true := by kernel_rfl
theorem fn7 : isFn Tryd.prog 7 = true := by kernel_rfl
theorem fn8 : isFn Tryd.prog 8 = true := by kernel_rfl
theorem fn9 : isFn Tryd.prog 9 = true := by kernel_rfl
theorem fo35_0 : fo Tryd.prog 35 0 = some 0 := by kernel_rfl
theorem fo35_1 : fo Tryd.prog 35 1 = some 1 := by kernel_rfl
theorem fo35_2 : fo Tryd.prog 35 2 = some 2 := by kernel_rfl
theorem fo35_3 : fo Tryd.prog 35 3 = some 3 := by kernel_rfl
theorem fo46_0 : fo Tryd.prog 46 0 = some 0 := by kernel_rfl
theorem fo46_1 : fo Tryd.prog 46 1 = some 1 := by kernel_rfl
theorem fo46_2 : fo Tryd.prog 46 2 = some 2 := by kernel_rfl
theorem fo46_3 : fo Tryd.prog 46 3 = some 3 := by kernel_rfl
theorem ie23 : ie Tryd.prog 23 = some 5 := by kernel_rfl
theorem ie27 : ie Tryd.prog 27 = some 5 := by kernel_rfl
theorem lk33 : lk Tryd.prog 33 = some (false, 1) := by kernel_rfl
theorem lk4 : lk Tryd.prog 4 = some (false, 1) := by kernel_rfl
theorem lk9 : lk Tryd.prog 9 = some (false, 1) := by kernel_rfl
theorem un23 : Tryd.prog.underlying 23 = some (TypeDesc.slice 35) := Tryd.underlying23
theorem un27 : Tryd.prog.underlying 27 = some (TypeDesc.slice 46) := Tryd.underlying27
theorem un4 : Tryd.prog.underlying 4 = some TypeDesc.bool := Tryd.underlying4
def StSm (H : Hp) (ts : List Tk) (pl : Bool) (j : Int) : St := [(.h, .hp H), (.s 0, .sv (.v (.sl (ts.map Tk.av)))), (.s 1, .sv (.v (.sl (ts.map Tk.av)))), (.s 2, .sv (.v (.bool pl))), (.s 7, .sv (.v (.int .i64 j)))]
theorem tk_get {ts : List Tk} {i : Nat} {j : Int} {t : Tk} (hj : j = i) (h : ts[i]? = some t) : (ts.map Tk.av)[j.toNat]? = some t.av := by subst hj; simp [h]
theorem same_pure (ts : List Tk) (pl : Bool) (hl : ts.length ≤ 1073741824) : Pure Tryd.prog 9 [.sl (ts.map Tk.av), .sl (ts.map Tk.av), .bool pl] (.bool true) := by
  refine Pure.of_tri Tryd.func9 rfl rfl (ltb rfl) fun H => ?_
  refine Tri.seq ?_
  refine Tri.region ?_
  refine TriL.c1 rfl (op_as (ltb rfl) rfl) ?_
  refine TriL.nil ?_
  refine Tri.seq ?_
  refine Tri.seq ?_
  refine Tri.region ?_
  refine TriL.c1 rfl (op_mv (ltb rfl) rfl) ?_
  refine TriL.c1 rfl (op_lenl (ltb rfl) un23 rfl) ?_
  refine TriL.c1 rfl (op_mv (ltb rfl) rfl) ?_
  refine TriL.c1 rfl (op_lenl (ltb rfl) un27 rfl) ?_
  refine TriL.c1 rfl (op_bin (ltb rfl) rfl rfl rfl) ?_
  refine TriL.nil ?_
  refine Tri.cond rfl (fun hc1 => ?_) (fun hc1 => ?_)
  · refine Tri.seq ?_
    refine Tri.region ?_
    refine TriL.c1 rfl (op_as (ltb rfl) rfl) ?_
    refine TriL.nil ?_
    refine Tri.ret ?_
    exact ⟨.inr rfl, (ResOK.r1 rfl (.tmp rfl .nil)).cast (by simp at hc1), rfl⟩
  · refine Tri.skip ?_
    refine Tri.seq ?_
    refine Tri.seq ?_
    refine Tri.region ?_
    refine TriL.c1 rfl (op_as (ltb rfl) rfl) ?_
    refine TriL.kept (Kept.keep [.h, .s 0, .s 1, .s 2, .s 7] rfl (by decide) (Kept.now ?_))
    refine Tri.blk ?_
    -- LOOP 1: KEEP
    refine Tri.loop (fun q w => ∃ (a : Nat) (j : Int), w = StSm H ts pl j ∧ j = a ∧ q = ts.length - a) ?_ (n := ts.length) ⟨0, 0, rfl, rfl, rfl⟩
    rintro q w ⟨a, j, rfl, hj, rfl⟩
    refine Tri.seq ?_
    refine Tri.seq ?_
    refine Tri.region ?_
    refine TriL.c1 rfl (op_mv (ltb rfl) rfl) ?_
    refine TriL.c1 rfl (op_mv (ltb rfl) rfl) ?_
    refine TriL.c1 rfl (op_lenl (ltb rfl) un23 rfl) ?_
    refine TriL.c1 rfl (op_bin (ltb rfl) rfl rfl rfl) ?_
    refine TriL.nil ?_
    refine Tri.cond rfl (fun hc2 => ?_) (fun hc2 => ?_)
    · have hlt : a < ts.length := by have := of_decide_eq_true hc2; simp at this; omega
      obtain ⟨t, ht⟩ : ∃ t, ts[a]? = some t := ⟨ts[a], List.getElem?_eq_getElem hlt⟩
      refine Tri.skip ?_
      refine Tri.seq ?_
      refine Tri.blk ?_
      refine Tri.seq ?_
      refine Tri.drawn mixed rfl ?_
      refine TriD.c1 rfl (op_mv (ltb rfl) rfl) ?_
      refine TriD.c1 rfl (op_mv (ltb rfl) rfl) ?_
      refine TriD.c1 rfl (op_iak (ltb rfl) ie23 rfl rfl (by omega) (tk_get hj ht) rfl) ?_
      refine TriD.c1 rfl (op_fak (ltb rfl) fo35_0 rfl) ?_
      refine TriD.c1 rfl (op_ldk (ltb rfl) lk3 rfl rfl) ?_
      refine TriD.c1 rfl (op_mv (ltb rfl) rfl) ?_
      refine TriD.c1 rfl (op_mv (ltb rfl) rfl) ?_
      refine TriD.c1 rfl (op_iak (ltb rfl) ie27 rfl rfl (by omega) (tk_get hj ht) rfl) ?_
      refine TriD.c1 rfl (op_fak (ltb rfl) fo46_0 rfl) ?_
      refine TriD.c1 rfl (op_ldk (ltb rfl) lk3 rfl rfl) ?_
      refine TriD.c1 rfl (op_bin (ltb rfl) rfl rfl rfl) ?_
      refine TriD.c1 rfl (op_mv (ltb rfl) rfl) ?_
      refine TriD.g1 rfl (ltb rfl) rfl (by simp) (op_mv (ltb rfl) rfl) ?_
      refine TriD.g1 rfl (ltb rfl) rfl (by simp) (op_mv (ltb rfl) rfl) ?_
      refine TriD.g1 rfl (ltb rfl) rfl (by simp) (op_iak (ltb rfl) ie23 rfl rfl (by omega) (tk_get hj ht) rfl) ?_
      refine TriD.g1 rfl (ltb rfl) rfl (by simp) (op_fak (ltb rfl) fo35_1 rfl) ?_
      refine TriD.g1 rfl (ltb rfl) rfl (by simp) (op_ldk (ltb rfl) lk9 rfl rfl) ?_
      refine TriD.g1 rfl (ltb rfl) rfl (by simp) (op_mv (ltb rfl) rfl) ?_
      refine TriD.g1 rfl (ltb rfl) rfl (by simp) (op_mv (ltb rfl) rfl) ?_
      refine TriD.g1 rfl (ltb rfl) rfl (by simp) (op_iak (ltb rfl) ie27 rfl rfl (by omega) (tk_get hj ht) rfl) ?_
      refine TriD.g1 rfl (ltb rfl) rfl (by simp) (op_fak (ltb rfl) fo46_1 rfl) ?_
      refine TriD.g1 rfl (ltb rfl) rfl (by simp) (op_ldk (ltb rfl) lk9 rfl rfl) ?_
      refine TriD.g1 rfl (ltb rfl) rfl (by simp) (op_bin (ltb rfl) rfl rfl rfl) ?_
      refine TriD.c1 rfl (op_pickf (ltb rfl) rfl (by simp) rfl) ?_
      refine TriD.c1 rfl (op_mv (ltb rfl) rfl) ?_
      refine TriD.g1 rfl (ltb rfl) rfl (by simp) (op_mv (ltb rfl) rfl) ?_
      refine TriD.g1 rfl (ltb rfl) rfl (by simp) (op_mv (ltb rfl) rfl) ?_
      refine TriD.g1 rfl (ltb rfl) rfl (by simp) (op_iak (ltb rfl) ie23 rfl rfl (by omega) (tk_get hj ht) rfl) ?_
      refine TriD.g1 rfl (ltb rfl) rfl (by simp) (op_fak (ltb rfl) fo35_2 rfl) ?_
      refine TriD.g1 rfl (ltb rfl) rfl (by simp) (op_ldk (ltb rfl) lk33 rfl rfl) ?_
      refine TriD.g1 rfl (ltb rfl) rfl (by simp) (op_mv (ltb rfl) rfl) ?_
      refine TriD.g1 rfl (ltb rfl) rfl (by simp) (op_mv (ltb rfl) rfl) ?_
      refine TriD.g1 rfl (ltb rfl) rfl (by simp) (op_iak (ltb rfl) ie27 rfl rfl (by omega) (tk_get hj ht) rfl) ?_
      refine TriD.g1 rfl (ltb rfl) rfl (by simp) (op_fak (ltb rfl) fo46_2 rfl) ?_
      refine TriD.g1 rfl (ltb rfl) rfl (by simp) (op_ldk (ltb rfl) lk33 rfl rfl) ?_
      refine TriD.g1 rfl (ltb rfl) rfl (by simp) (op_bin (ltb rfl) rfl rfl rfl) ?_
      refine TriD.c1 rfl (op_pickf (ltb rfl) rfl (by simp) rfl) ?_
      refine TriD.c1 rfl (op_mv (ltb rfl) rfl) ?_
      refine TriD.g1 rfl (ltb rfl) rfl (by simp) (op_mv (ltb rfl) rfl) ?_
      refine TriD.g1 rfl (ltb rfl) rfl (by simp) (op_mv (ltb rfl) rfl) ?_
      refine TriD.g1 rfl (ltb rfl) rfl (by simp) (op_iak (ltb rfl) ie23 rfl rfl (by omega) (tk_get hj ht) rfl) ?_
      refine TriD.g1 rfl (ltb rfl) rfl (by simp) (op_fak (ltb rfl) fo35_3 rfl) ?_
      refine TriD.g1 rfl (ltb rfl) rfl (by simp) (op_ldk (ltb rfl) lk4 rfl rfl) ?_
      refine TriD.g1 rfl (ltb rfl) rfl (by simp) (op_mv (ltb rfl) rfl) ?_
      refine TriD.g1 rfl (ltb rfl) rfl (by simp) (op_mv (ltb rfl) rfl) ?_
      refine TriD.g1 rfl (ltb rfl) rfl (by simp) (op_iak (ltb rfl) ie27 rfl rfl (by omega) (tk_get hj ht) rfl) ?_
      refine TriD.g1 rfl (ltb rfl) rfl (by simp) (op_fak (ltb rfl) fo46_3 rfl) ?_
      refine TriD.g1 rfl (ltb rfl) rfl (by simp) (op_ldk (ltb rfl) lk4 rfl rfl) ?_
      refine TriD.g1 rfl (ltb rfl) rfl (by simp) (op_neb (ltb rfl) un4 rfl rfl) ?_
      refine TriD.c1 rfl (op_pickf (ltb rfl) rfl (by simp) rfl) ?_
      refine TriD.c1 rfl (op_mv (ltb rfl) rfl) ?_
      refine TriD.g1 rfl (ltb rfl) rfl (by simp) (op_mv (ltb rfl) rfl) ?_
      refine TriD.g1 rfl (ltb rfl) rfl (by simp) (op_mv (ltb rfl) rfl) ?_
      refine TriD.split (d := 71) rfl (fun hg3 => ?_) (fun hg3 => ?_)
      · refine TriD.g1 rfl (ltb rfl) rfl hg3 (op_mv (ltb rfl) rfl) ?_
        refine TriD.g1 rfl (ltb rfl) rfl hg3 (op_mv (ltb rfl) rfl) ?_
        refine TriD.g1 rfl (ltb rfl) rfl hg3 (op_iak (ltb rfl) ie23 rfl rfl (by omega) (tk_get hj ht) rfl) ?_
        refine TriD.g1 rfl (ltb rfl) rfl hg3 (op_fak (ltb rfl) fo35_4 rfl) ?_
        refine TriD.g1 rfl (ltb rfl) rfl hg3 (op_ldk (ltb rfl) lk3 rfl rfl) ?_
        refine TriD.g1 rfl (ltb rfl) rfl hg3 (op_mv (ltb rfl) rfl) ?_
        refine TriD.g1 rfl (ltb rfl) rfl hg3 (op_mv (ltb rfl) rfl) ?_
        refine TriD.g1 rfl (ltb rfl) rfl hg3 (op_iak (ltb rfl) ie27 rfl rfl (by omega) (tk_get hj ht) rfl) ?_
        refine TriD.g1 rfl (ltb rfl) rfl hg3 (op_fak (ltb rfl) fo46_4 rfl) ?_
        refine TriD.g1 rfl (ltb rfl) rfl hg3 (op_ldk (ltb rfl) lk3 rfl rfl) ?_
        refine TriD.g1 rfl (ltb rfl) rfl hg3 (op_bin (ltb rfl) rfl rfl rfl) ?_
        refine TriD.g1 rfl (ltb rfl) rfl (by simp) (op_pickt (ltb rfl) rfl hg3 rfl) ?_
        refine TriD.c1 rfl (op_pickf (ltb rfl) rfl (by simp) rfl) ?_
        refine TriD.nil (by kernel_rfl) (Kept.now ?_)
        refine Tri.condF rfl (by simp) ?_
        refine Tri.skip ?_
        refine Tri.region ?_
        refine TriL.c1 rfl (op_mv (ltb rfl) rfl) ?_
        refine TriL.c1 rfl (op_bin (ltb rfl) rfl rfl rfl) ?_
        refine TriL.c1 rfl (op_as (ltb rfl) rfl) ?_
        refine TriL.kept (Kept.keep [.h, .s 0, .s 1, .s 2, .s 7] rfl (by decide) (Kept.now ?_))
        exact ⟨ts.length - (a + 1), by omega, a + 1, IntKind.i64.wrap (j + 1), rfl, by rw [hj, wr64] <;> omega, rfl⟩
      · refine TriD.skipu rfl rfl (ltb rfl) (ltb rfl) rfl hg3 ?_
        refine TriD.skipu rfl rfl (ltb rfl) (ltb rfl) rfl hg3 ?_
        refine TriD.skipu rfl rfl (ltb rfl) (ltb rfl) rfl hg3 ?_
        refine TriD.skipu rfl rfl (ltb rfl) (ltb rfl) rfl hg3 ?_
        refine TriD.skipu rfl rfl (ltb rfl) (ltb rfl) rfl hg3 ?_
        refine TriD.skipu rfl rfl (ltb rfl) (ltb rfl) rfl hg3 ?_
        refine TriD.skipu rfl rfl (ltb rfl) (ltb rfl) rfl hg3 ?_
        refine TriD.skipu rfl rfl (ltb rfl) (ltb rfl) rfl hg3 ?_
        refine TriD.skipu rfl rfl (ltb rfl) (ltb rfl) rfl hg3 ?_
        refine TriD.skipu rfl rfl (ltb rfl) (ltb rfl) rfl hg3 ?_
        refine TriD.skipu rfl rfl (ltb rfl) (ltb rfl) rfl hg3 ?_
        refine TriD.g1 rfl (ltb rfl) rfl (by simp) (op_pickf (ltb rfl) rfl hg3 rfl) ?_
        refine TriD.c1 rfl (op_pickf (ltb rfl) rfl (by simp) rfl) ?_
        refine TriD.nil (by kernel_rfl) (Kept.now ?_)
        refine Tri.condF rfl (by simp) ?_
        refine Tri.skip ?_
        refine Tri.region ?_
        refine TriL.c1 rfl (op_mv (ltb rfl) rfl) ?_
        refine TriL.c1 rfl (op_bin (ltb rfl) rfl rfl rfl) ?_
        refine TriL.c1 rfl (op_as (ltb rfl) rfl) ?_
        refine TriL.kept (Kept.keep [.h, .s 0, .s 1, .s 2, .s 7] rfl (by decide) (Kept.now ?_))
        exact ⟨ts.length - (a + 1), by omega, a + 1, IntKind.i64.wrap (j + 1), rfl, by rw [hj, wr64] <;> omega, rfl⟩
    · refine Tri.exit ?_
      refine Tri.seq ?_
      refine Tri.region ?_
      refine TriL.c1 rfl (op_as (ltb rfl) rfl) ?_
      refine TriL.nil ?_
      refine Tri.ret ?_
      exact ⟨.inr rfl, (ResOK.r1 rfl (.tmp rfl .nil)), rfl⟩
def liveS : List UInt8 := [97, 61, 45, 53, 59, 47, 47, 120, 10]
def liveT : List Tk := [⟨1, [97], 0, false, 0⟩, ⟨4, [61], 0, false, 1⟩, ⟨2, [], 5, true, 2⟩, ⟨4, [59], 0, false, 4⟩]
theorem live_lex : lexGo liveS 0 = (liveT, none) := by
  have n1 : nxtT [97, 61, 45, 53, 59, 47, 47, 120, 10] = (⟨1, [97], 0, false, 0⟩, 1) := rfl
  have n2 : nxtT [61, 45, 53, 59, 47, 47, 120, 10] = (⟨4, [61], 0, false, 0⟩, 1) := rfl
  have n3 : nxtT [45, 53, 59, 47, 47, 120, 10] = (⟨2, [], 5, true, 0⟩, 2) := by
    have e : numTk [45, 53, 59, 47, 47, 120, 10] = (⟨2, [], 5, true, 0⟩, 2) :=
      numTk_ok (s := [45, 53, 59, 47, 47, 120, 10]) (u := 5) rfl (by decide) (by
        have e1 : digs 5 (isNeg [45, 53, 59, 47, 47, 120, 10]) = 45 :: Lib.decDigits 5 := rfl
        rw [e1, decDigits_small (by decide)]; rfl)
    rw [nxt2 rfl (by rw [e]; rfl), e]
  have n4 : nxtT [59, 47, 47, 120, 10] = (⟨4, [59], 0, false, 0⟩, 1) := rfl
  unfold liveS
  rw [lexGo_tok rfl rfl (by rw [n1]; decide), n1]
  simp only [List.drop_succ_cons, List.drop_zero]
  rw [lexGo_tok rfl rfl (by rw [n2]; decide), n2]
  simp only [List.drop_succ_cons, List.drop_zero]
  rw [lexGo_tok rfl rfl (by rw [n3]; decide), n3]
  simp only [List.drop_succ_cons, List.drop_zero]
  rw [lexGo_tok rfl rfl (by rw [n4]; decide), n4]
  simp only [List.drop_succ_cons, List.drop_zero]
  rw [lexGo_rem rfl rfl, show spn noNl [47, 47, 120, 10] = 3 from rfl]
  simp only [List.drop_succ_cons, List.drop_zero]
  rw [lexGo_bl rfl, lexGo_nil]
  rfl
def liveA : AV := .tup [.sl ((liveT ++ [(⟨0, [], 0, false, 9⟩ : Tk)]).map Tk.av), .int .i64 9, .int .i64 0]
theorem live_all : Pure Tryd.prog 7 [.str liveS, .int .i64 100] liveA := by
  have h := all_pure liveS 100 (by decide)
  rw [allV_ok (by decide) live_lex] at h
  exact h
theorem live_pure : Pure Tryd.prog 6 [] (.bool true) := by
  refine Pure.of_tri Tryd.func6 rfl rfl (Nat.zero_le _) fun H => ?_
  refine Tri.seq ?_
  refine Tri.region ?_
  refine TriL.c1 rfl (op_as (ltb rfl) rfl) ?_
  refine TriL.nil ?_
  refine Tri.seq ?_
  refine Tri.region ?_
  refine TriL.c1 rfl (op_call (ltb rfl) fn7 rfl live_all) ?_
  refine TriL.c1 rfl (op_mv (ltb rfl) rfl) ?_
  refine TriL.c1 rfl (op_ext (ltb rfl) rfl rfl) ?_
  refine TriL.c1 rfl (op_ext (ltb rfl) rfl rfl) ?_
  refine TriL.c1 rfl (op_ext (ltb rfl) rfl rfl) ?_
  refine TriL.c1 rfl (op_as (ltb rfl) rfl) ?_
  refine TriL.c1 rfl (op_as (ltb rfl) rfl) ?_
  refine TriL.c1 rfl (op_as (ltb rfl) rfl) ?_
  refine TriL.nil ?_
  refine Tri.seq ?_
  refine Tri.region ?_
  refine TriL.c1 rfl (op_mv (ltb rfl) rfl) ?_
  refine TriL.c1 rfl (op_call (ltb rfl) fn10 rfl (num_pure _)) ?_
  refine TriL.c1 rfl (op_bin (ltb rfl) rfl rfl rfl) ?_
  refine TriL.c1 rfl (op_mv (ltb rfl) rfl) ?_
  refine TriL.g1 rfl (ltb rfl) rfl rfl (op_mv (ltb rfl) rfl) ?_
  refine TriL.g1 rfl (ltb rfl) rfl rfl (op_bin (ltb rfl) rfl rfl rfl) ?_
  refine TriL.c1 rfl (op_pickt (ltb rfl) rfl rfl rfl) ?_
  refine TriL.c1 rfl (op_mv (ltb rfl) rfl) ?_
  refine TriL.g1 rfl (ltb rfl) rfl rfl (op_mv (ltb rfl) rfl) ?_
  refine TriL.g1 rfl (ltb rfl) rfl rfl (op_lenl (ltb rfl) un23 rfl) ?_
  refine TriL.g1 rfl (ltb rfl) rfl rfl (op_bin (ltb rfl) rfl rfl rfl) ?_
  refine TriL.c1 rfl (op_pickt (ltb rfl) rfl rfl rfl) ?_
  refine TriL.c1 rfl (op_mv (ltb rfl) rfl) ?_
  refine TriL.g1 rfl (ltb rfl) rfl rfl (op_mv (ltb rfl) rfl) ?_
  refine TriL.g1 rfl (ltb rfl) rfl rfl (op_iak (ltb rfl) ie23 rfl rfl (by decide) rfl rfl) ?_
  refine TriL.g1 rfl (ltb rfl) rfl rfl (op_fak (ltb rfl) fo35_2 rfl) ?_
  refine TriL.g1 rfl (ltb rfl) rfl rfl (op_ldk (ltb rfl) lk33 rfl rfl) ?_
  refine TriL.g1 rfl (ltb rfl) rfl rfl (op_bin (ltb rfl) rfl rfl rfl) ?_
  refine TriL.c1 rfl (op_pickt (ltb rfl) rfl rfl rfl) ?_
  refine TriL.c1 rfl (op_mv (ltb rfl) rfl) ?_
  refine TriL.g1 rfl (ltb rfl) rfl rfl (op_mv (ltb rfl) rfl) ?_
  refine TriL.g1 rfl (ltb rfl) rfl rfl (op_iak (ltb rfl) ie23 rfl rfl (by decide) rfl rfl) ?_
  refine TriL.g1 rfl (ltb rfl) rfl rfl (op_fak (ltb rfl) fo35_3 rfl) ?_
  refine TriL.g1 rfl (ltb rfl) rfl rfl (op_ldk (ltb rfl) lk4 rfl rfl) ?_
  refine TriL.c1 rfl (op_pickt (ltb rfl) rfl rfl rfl) ?_
  refine TriL.c1 rfl (op_mv (ltb rfl) rfl) ?_
  refine TriL.g1 rfl (ltb rfl) rfl rfl (op_mv (ltb rfl) rfl) ?_
  refine TriL.g1 rfl (ltb rfl) rfl rfl (op_iak (ltb rfl) ie23 rfl rfl (by decide) rfl rfl) ?_
  refine TriL.g1 rfl (ltb rfl) rfl rfl (op_fak (ltb rfl) fo35_4 rfl) ?_
  refine TriL.g1 rfl (ltb rfl) rfl rfl (op_ldk (ltb rfl) lk3 rfl rfl) ?_
  refine TriL.g1 rfl (ltb rfl) rfl rfl (op_bin (ltb rfl) rfl rfl rfl) ?_
  refine TriL.c1 rfl (op_pickt (ltb rfl) rfl rfl rfl) ?_
  refine TriL.c1 rfl (op_as (ltb rfl) rfl) ?_
  refine TriL.nil ?_
  refine Tri.ret ?_
  exact ⟨.inr rfl, (ResOK.r1 rfl (.tmp rfl .nil)), rfl⟩
theorem lexAll_go (s : List UInt8) (most : Int) (ts : List Tk) (n e : Int) (hl : ts.length ≤ 1073741824) (h7 : Pure Tryd.prog 7 [.str s, .int .i64 most] (.tup [.sl (ts.map Tk.av), .int .i64 n, .int .i64 e])) (h8 : Pure Tryd.prog 8 [.str s, .int .i64 most] (.tup [.sl (ts.map Tk.av), .int .i64 n, .int .i64 e])) :
    Pure Tryd.prog 3 [.str s, .int .i64 most] (.bool true) := by
  refine Pure.of_tri Tryd.func3 rfl rfl (ltb rfl) fun H => ?_
  refine Tri.seq ?_
  refine Tri.region ?_
  refine TriL.c1 rfl (op_as (ltb rfl) rfl) ?_
  refine TriL.nil ?_
  refine Tri.seq ?_
  refine Tri.seq ?_
  refine Tri.region ?_
  refine TriL.c1 rfl (op_mv (ltb rfl) rfl) ?_
  refine TriL.c1 rfl (op_lens (ltb rfl) un9 rfl) ?_
  refine TriL.c1 rfl (op_bin (ltb rfl) rfl rfl rfl) ?_
  refine TriL.nil ?_
  refine Tri.cond rfl (fun hc1 => ?_) (fun hc1 => ?_)
  · refine Tri.seq ?_
    refine Tri.region ?_
    refine TriL.c1 rfl (op_call (ltb rfl) fn6 rfl live_pure) ?_
    refine TriL.c1 rfl (op_as (ltb rfl) rfl) ?_
    refine TriL.nil ?_
    refine Tri.ret ?_
    exact ⟨.inr rfl, (ResOK.r1 rfl (.tmp rfl .nil)), rfl⟩
  · refine Tri.skip ?_
    refine Tri.seq ?_
    refine Tri.region ?_
    refine TriL.c1 rfl (op_mv (ltb rfl) rfl) ?_
    refine TriL.c1 rfl (op_mv (ltb rfl) rfl) ?_
    refine TriL.c1 rfl (op_call (ltb rfl) fn7 rfl h7) ?_
    refine TriL.c1 rfl (op_mv (ltb rfl) rfl) ?_
    refine TriL.c1 rfl (op_ext (ltb rfl) rfl rfl) ?_
    refine TriL.c1 rfl (op_ext (ltb rfl) rfl rfl) ?_
    refine TriL.c1 rfl (op_ext (ltb rfl) rfl rfl) ?_
    refine TriL.c1 rfl (op_as (ltb rfl) rfl) ?_
    refine TriL.c1 rfl (op_as (ltb rfl) rfl) ?_
    refine TriL.c1 rfl (op_as (ltb rfl) rfl) ?_
    refine TriL.nil ?_
    refine Tri.seq ?_
    refine Tri.region ?_
    refine TriL.c1 rfl (op_mv (ltb rfl) rfl) ?_
    refine TriL.c1 rfl (op_mv (ltb rfl) rfl) ?_
    refine TriL.c1 rfl (op_call (ltb rfl) fn8 rfl h8) ?_
    refine TriL.c1 rfl (op_mv (ltb rfl) rfl) ?_
    refine TriL.c1 rfl (op_ext (ltb rfl) rfl rfl) ?_
    refine TriL.c1 rfl (op_ext (ltb rfl) rfl rfl) ?_
    refine TriL.c1 rfl (op_ext (ltb rfl) rfl rfl) ?_
    refine TriL.c1 rfl (op_as (ltb rfl) rfl) ?_
    refine TriL.c1 rfl (op_as (ltb rfl) rfl) ?_
    refine TriL.c1 rfl (op_as (ltb rfl) rfl) ?_
    refine TriL.nil ?_
    refine Tri.seq ?_
    refine Tri.region ?_
    refine TriL.c1 rfl (op_mv (ltb rfl) rfl) ?_
    refine TriL.c1 rfl (op_mv (ltb rfl) rfl) ?_
    refine TriL.c1 rfl (op_call (ltb rfl) fn9 rfl (same_pure ts true hl)) ?_
    refine TriL.c1 rfl (op_mv (ltb rfl) rfl) ?_
    refine TriL.g1 rfl (ltb rfl) rfl rfl (op_mv (ltb rfl) rfl) ?_
    refine TriL.g1 rfl (ltb rfl) rfl rfl (op_mv (ltb rfl) rfl) ?_
    refine TriL.g1 rfl (ltb rfl) rfl rfl (op_bin (ltb rfl) rfl rfl rfl) ?_
    refine TriL.c1 rfl (op_pickt (ltb rfl) rfl rfl rfl) ?_
    refine TriL.c1 rfl (op_mv (ltb rfl) rfl) ?_
    refine TriL.g1 rfl (ltb rfl) rfl (by simp) (op_mv (ltb rfl) rfl) ?_
    refine TriL.g1 rfl (ltb rfl) rfl (by simp) (op_call (ltb rfl) fn10 rfl (num_pure _)) ?_
    refine TriL.g1 rfl (ltb rfl) rfl (by simp) (op_mv (ltb rfl) rfl) ?_
    refine TriL.g1 rfl (ltb rfl) rfl (by simp) (op_bin (ltb rfl) rfl rfl rfl) ?_
    refine TriL.c1 rfl (op_pickt (ltb rfl) rfl (by simp) rfl) ?_
    refine TriL.c1 rfl (op_mv (ltb rfl) rfl) ?_
    refine TriL.g1 rfl (ltb rfl) rfl (by simp) (op_call (ltb rfl) fn6 rfl live_pure) ?_
    refine TriL.c1 rfl (op_pickt (ltb rfl) rfl (by simp) rfl) ?_
    refine TriL.c1 rfl (op_as (ltb rfl) rfl) ?_
    refine TriL.nil ?_
    refine Tri.ret ?_
    exact ⟨.inr rfl, (ResOK.r1 rfl (.tmp rfl .nil)), rfl⟩
theorem lexAll_long (s : List UInt8) (most : Int) (hs : 500 < s.length) : Pure Tryd.prog 3 [.str s, .int .i64 most] (.bool true) := by
  refine Pure.of_tri Tryd.func3 rfl rfl (ltb rfl) fun H => ?_
  refine Tri.seq ?_
  refine Tri.region ?_
  refine TriL.c1 rfl (op_as (ltb rfl) rfl) ?_
  refine TriL.nil ?_
  refine Tri.seq ?_
  refine Tri.seq ?_
  refine Tri.region ?_
  refine TriL.c1 rfl (op_mv (ltb rfl) rfl) ?_
  refine TriL.c1 rfl (op_lens (ltb rfl) un9 rfl) ?_
  refine TriL.c1 rfl (op_bin (ltb rfl) rfl rfl rfl) ?_
  refine TriL.nil ?_
  refine Tri.condT rfl (decide_eq_true (by omega)) ?_
  refine Tri.seq ?_
  refine Tri.region ?_
  refine TriL.c1 rfl (op_call (ltb rfl) fn6 rfl live_pure) ?_
  refine TriL.c1 rfl (op_as (ltb rfl) rfl) ?_
  refine TriL.nil ?_
  refine Tri.ret ?_
  exact ⟨.inr rfl, (ResOK.r1 rfl (.tmp rfl .nil)), rfl⟩
/-- the tokens are not more than the bytes -/
theorem lexGo_len : ∀ (n : Nat) (r : List UInt8) (p : Nat), r.length ≤ n → (lexGo r p).1.length ≤ r.length
  | n, [], p, _ => by simp [lexGo_nil]
  | 0, c :: r, p, h => by simp at h
  | n + 1, c :: r, p, h => by
    by_cases hb : isBl c = true
    · rw [lexGo_bl hb]
      have := lexGo_len n r (p + 1) (by simp at h; omega)
      simp; omega
    · have hb' : isBl c = false := by simpa using hb
      by_cases hr : isRem (c :: r) = true
      · have := spn_rem hr
        rw [lexGo_rem hb' hr]
        have := lexGo_len n ((c :: r).drop (spn noNl (c :: r))) (p + spn noNl (c :: r)) (by rw [List.length_drop]; simp at h ⊢; omega)
        rw [List.length_drop] at this; omega
      · have hr' : isRem (c :: r) = false := by simpa using hr
        by_cases hk : (nxtT (c :: r)).2 = 0
        · rw [lexGo_no hb' hr' hk]; simp
        · rw [lexGo_tok hb' hr' hk]
          have := lexGo_len n ((c :: r).drop (nxtT (c :: r)).2) (p + (nxtT (c :: r)).2) (by rw [List.length_drop]; simp at h ⊢; omega)
          rw [List.length_drop] at this
          simp at this ⊢; omega
theorem allV_form (s : List UInt8) (most : Int) : ∃ (ts : List Tk) (n e : Int), ts.length ≤ s.length + 1 ∧ allV s most = .tup [.sl (ts.map Tk.av), .int .i64 n, .int .i64 e] := by
  by_cases h : most < (s.length : Int)
  · exact ⟨[], 0, 3, by simp, allV_long h⟩
  · cases e : lexGo s 0 with
    | mk ts o =>
      cases o with
      | none => exact ⟨_, _, _, by have := lexGo_len s.length s 0 (Nat.le_refl _); rw [e] at this; simp at this ⊢; omega, allV_ok h e⟩
      | some p => exact ⟨[], _, _, by simp, allV_bad h e⟩
theorem lexAll_pure (s : List UInt8) (most : Int) : Pure Tryd.prog 3 [.str s, .int .i64 most] (.bool true) := by
  by_cases hs : s.length ≤ 500
  · obtain ⟨ts, n, e, hl, hA⟩ := allV_form s most
    exact lexAll_go s most ts n e (by omega) (hA ▸ all_pure s most (by omega)) (hA ▸ rall_pure s most (by omega))
  · exact lexAll_long s most (by omega)
end Go.Proofs.YthoncmadikifnaaDoor.X
