/- lex: the token that a text begins with, in the program and in the document. -/
import Derived.Test.YthoncmadikifnaaDoorLA
set_option linter.unusedVariables false
set_option linter.unusedSimpArgs false
set_option linter.unusedSectionVars false
set_option maxRecDepth 100000
namespace Go.Proofs.YthoncmadikifnaaDoor.X
open Go Go.RowKit Go.Proofs
theorem fn24 : isFn Tryd.prog 24 = true := by kernel_rfl
theorem fn25 : isFn Tryd.prog 25 = true := by kernel_rfl
theorem fn26 : isFn Tryd.prog 26 = true := by kernel_rfl
theorem fn27 : isFn Tryd.prog 27 = true := by kernel_rfl
theorem fn28 : isFn Tryd.prog 28 = true := by kernel_rfl
theorem fn29 : isFn Tryd.prog 29 = true := by kernel_rfl
theorem fn30 : isFn Tryd.prog 30 = true := by kernel_rfl
theorem fn31 : isFn Tryd.prog 31 = true := by kernel_rfl
theorem lk46 : lk Tryd.prog 46 = some (true, 5) := by kernel_rfl
theorem spl46 : spl Tryd.prog 46 = some [(0, 1), (1, 1), (2, 1), (3, 1), (4, 1)] := by kernel_rfl
theorem zA46 : zeroA Tryd.prog 46 = some [AV.int IntKind.i64 (0), AV.str [], AV.int IntKind.u64 (0), AV.bool false, AV.int IntKind.i64 (0)] := by kernel_rfl
theorem nxt1 {s : List UInt8} (h : decide (0 < ((wordT s).2 : Int)) = true) : nxtT s = wordT s := if_pos (by have := of_decide_eq_true h; omega)
theorem nxt2 {s : List UInt8} (h : decide (0 < ((wordT s).2 : Int)) = false) (h2 : decide (0 < ((numTk s).2 : Int)) = true) : nxtT s = numTk s := by
  unfold nxtT; rw [if_neg (by have := of_decide_eq_false h; omega), if_pos (by have := of_decide_eq_true h2; omega)]
theorem nxt3 {s : List UInt8} (h : decide (0 < ((wordT s).2 : Int)) = false) (h2 : decide (0 < ((numTk s).2 : Int)) = false) (h3 : decide (0 < ((txtTk s).2 : Int)) = true) : nxtT s = txtTk s := by
  unfold nxtT; rw [if_neg (by have := of_decide_eq_false h; omega), if_neg (by have := of_decide_eq_false h2; omega), if_pos (by have := of_decide_eq_true h3; omega)]
theorem nxt4 {s : List UInt8} (h : decide (0 < ((wordT s).2 : Int)) = false) (h2 : decide (0 < ((numTk s).2 : Int)) = false) (h3 : decide (0 < ((txtTk s).2 : Int)) = false) : nxtT s = markT s := by
  unfold nxtT; rw [if_neg (by have := of_decide_eq_false h; omega), if_neg (by have := of_decide_eq_false h2; omega), if_neg (by have := of_decide_eq_false h3; omega)]
theorem wordT_eq {s : List UInt8} (h : 0 < (wordT s).2) : wordT s = (⟨1, s.take (wordN s), 0, false, 0⟩, wordN s) := by
  cases s with
  | nil => cases h
  | cons c r =>
    by_cases hc : isLet c = true
    · simp [wordT, wordN, hc]
    · have : isLet c = false := by simpa using hc
      simp [wordT, this] at h
theorem numTk_eq {s : List UInt8} (h : 0 < (numTk s).2) : numTk s = (⟨2, [], (numTk s).1.n, (numTk s).1.neg, 0⟩, (numTk s).2) := by
  unfold numTk at *
  cases e : numT s with
  | none => rw [e] at h; cases h
  | some x => rfl
theorem numR_eq (s : List UInt8) : numR s = .tup [.int .u64 (numTk s).1.n, .bool (numTk s).1.neg, .int .i64 (numTk s).2] := by
  unfold numR numTk
  cases numT s with
  | none => rfl
  | some x => rfl
theorem txtTk_eq {s : List UInt8} (h : 0 < (txtTk s).2) : txtTk s = (⟨3, (txtTk s).1.s, 0, false, 0⟩, (txtTk s).2) := by
  unfold txtTk at *
  cases e : txtT s with
  | none => rw [e] at h; cases h
  | some x => rfl
theorem txtR_eq (s : List UInt8) : txtR s = .tup [.str (txtTk s).1.s, .int .i64 (txtTk s).2] := by
  unfold txtR txtTk
  cases txtT s with
  | none => rfl
  | some x => rfl
theorem rnumber_pure' (s : List UInt8) (hs : s.length ≤ 1073741824) : Pure Tryd.prog 29 [.str s] (.tup [.int .u64 (numTk s).1.n, .bool (numTk s).1.neg, .int .i64 (numTk s).2]) := numR_eq s ▸ rnumber_pure s hs
theorem rtext_pure' (s : List UInt8) (hs : s.length ≤ 1073741824) : Pure Tryd.prog 30 [.str s] (.tup [.str (txtTk s).1.s, .int .i64 (txtTk s).2]) := txtR_eq s ▸ rtext_pure s hs
theorem pos_of {n : Nat} (h : decide (0 < (n : Int)) = true) : 0 < n := by have := of_decide_eq_true h; omega
theorem next_pure (s : List UInt8) (hs : s.length ≤ 1073741824) : Pure Tryd.prog 18 [.str s] (tkn (nxtT s)) := by
  refine Pure.of_tri Tryd.func18 rfl rfl (ltb rfl) fun H => ?_
  refine Tri.seq ?_
  refine Tri.region ?_
  refine TriL.c2 rfl (op_all (ltb rfl) zA35 rfl) ?_
  refine TriL.c1 rfl (op_as (ltb rfl) rfl) ?_
  refine TriL.nil ?_
  refine Tri.seq ?_
  refine Tri.seq ?_
  refine Tri.region ?_
  refine TriL.c1 rfl (op_mv (ltb rfl) rfl) ?_
  refine TriL.c1 rfl (op_call (ltb rfl) fn24 rfl (word_pure s hs)) ?_
  refine TriL.c1 rfl (op_mv (ltb rfl) rfl) ?_
  refine TriL.c1 rfl (op_ext (ltb rfl) rfl rfl) ?_
  refine TriL.c1 rfl (op_ext (ltb rfl) rfl rfl) ?_
  refine TriL.c2 rfl (op_all (ltb rfl) zA35 rfl) ?_
  refine TriL.c1 rfl (op_stl lk35 rfl rfl rfl rfl rfl (leb rfl)) ?_
  refine TriL.c1 rfl (op_as (ltb rfl) rfl) ?_
  refine TriL.nil ?_
  refine Tri.seq ?_
  refine Tri.region ?_
  refine TriL.c1 rfl (op_mv (ltb rfl) rfl) ?_
  refine TriL.c1 rfl (op_bin (ltb rfl) rfl rfl rfl) ?_
  refine TriL.nil ?_
  refine Tri.cond rfl (fun hc1 => ?_) (fun hc1 => ?_)
  · refine Tri.seq ?_
    refine Tri.region ?_
    refine TriL.c1 rfl (op_ldl (ltb rfl) lk35 rfl rfl rfl) ?_
    refine TriL.c1 rfl (op_mv (ltb rfl) rfl) ?_
    refine TriL.c1 rfl (op_stl lk35 rfl rfl rfl rfl rfl (leb rfl)) ?_
    refine TriL.c1 rfl (op_as (ltb rfl) rfl) ?_
    refine TriL.nil ?_
    refine Tri.ret ?_
    exact ⟨.inr rfl, (ResOK.r2 rfl (.cell lk35 rfl rfl rfl rfl (.tmp rfl .nil))).cast (by rw [nxt1 hc1]; rfl), rfl⟩
  · refine Tri.skip ?_
    refine Tri.seq ?_
    refine Tri.seq ?_
    refine Tri.region ?_
    refine TriL.c1 rfl (op_mv (ltb rfl) rfl) ?_
    refine TriL.c1 rfl (op_call (ltb rfl) fn25 rfl (number_pure s hs)) ?_
    refine TriL.c1 rfl (op_mv (ltb rfl) rfl) ?_
    refine TriL.c1 rfl (op_ext (ltb rfl) rfl rfl) ?_
    refine TriL.c1 rfl (op_ext (ltb rfl) rfl rfl) ?_
    refine TriL.c2 rfl (op_all (ltb rfl) zA35 rfl) ?_
    refine TriL.c1 rfl (op_stl lk35 rfl rfl rfl rfl rfl (leb rfl)) ?_
    refine TriL.c1 rfl (op_as (ltb rfl) rfl) ?_
    refine TriL.nil ?_
    refine Tri.seq ?_
    refine Tri.region ?_
    refine TriL.c1 rfl (op_mv (ltb rfl) rfl) ?_
    refine TriL.c1 rfl (op_bin (ltb rfl) rfl rfl rfl) ?_
    refine TriL.nil ?_
    refine Tri.cond rfl (fun hc2 => ?_) (fun hc2 => ?_)
    · refine Tri.seq ?_
      refine Tri.region ?_
      refine TriL.c1 rfl (op_ldl (ltb rfl) lk35 rfl rfl rfl) ?_
      refine TriL.c1 rfl (op_mv (ltb rfl) rfl) ?_
      refine TriL.c1 rfl (op_stl lk35 rfl rfl rfl rfl rfl (leb rfl)) ?_
      refine TriL.c1 rfl (op_as (ltb rfl) rfl) ?_
      refine TriL.nil ?_
      refine Tri.ret ?_
      exact ⟨.inr rfl, (ResOK.r2 rfl (.cell lk35 rfl rfl rfl rfl (.tmp rfl .nil))).cast (by rw [nxt2 hc1 hc2]; rfl), rfl⟩
    · refine Tri.skip ?_
      refine Tri.seq ?_
      refine Tri.seq ?_
      refine Tri.region ?_
      refine TriL.c1 rfl (op_mv (ltb rfl) rfl) ?_
      refine TriL.c1 rfl (op_call (ltb rfl) fn26 rfl (text_pure s hs)) ?_
      refine TriL.c1 rfl (op_mv (ltb rfl) rfl) ?_
      refine TriL.c1 rfl (op_ext (ltb rfl) rfl rfl) ?_
      refine TriL.c1 rfl (op_ext (ltb rfl) rfl rfl) ?_
      refine TriL.c2 rfl (op_all (ltb rfl) zA35 rfl) ?_
      refine TriL.c1 rfl (op_stl lk35 rfl rfl rfl rfl rfl (leb rfl)) ?_
      refine TriL.c1 rfl (op_as (ltb rfl) rfl) ?_
      refine TriL.nil ?_
      refine Tri.seq ?_
      refine Tri.region ?_
      refine TriL.c1 rfl (op_mv (ltb rfl) rfl) ?_
      refine TriL.c1 rfl (op_bin (ltb rfl) rfl rfl rfl) ?_
      refine TriL.nil ?_
      refine Tri.cond rfl (fun hc3 => ?_) (fun hc3 => ?_)
      · refine Tri.seq ?_
        refine Tri.region ?_
        refine TriL.c1 rfl (op_ldl (ltb rfl) lk35 rfl rfl rfl) ?_
        refine TriL.c1 rfl (op_mv (ltb rfl) rfl) ?_
        refine TriL.c1 rfl (op_stl lk35 rfl rfl rfl rfl rfl (leb rfl)) ?_
        refine TriL.c1 rfl (op_as (ltb rfl) rfl) ?_
        refine TriL.nil ?_
        refine Tri.ret ?_
        exact ⟨.inr rfl, (ResOK.r2 rfl (.cell lk35 rfl rfl rfl rfl (.tmp rfl .nil))).cast (by rw [nxt3 hc1 hc2 hc3]; rfl), rfl⟩
      · refine Tri.skip ?_
        refine Tri.seq ?_
        refine Tri.region ?_
        refine TriL.c1 rfl (op_mv (ltb rfl) rfl) ?_
        refine TriL.c1 rfl (op_call (ltb rfl) fn27 rfl (mark_pure s hs)) ?_
        refine TriL.c1 rfl (op_ext (ltb rfl) rfl rfl) ?_
        refine TriL.c1 rfl (op_ext (ltb rfl) rfl rfl) ?_
        refine TriL.c1 rfl (op_stl lk35 rfl rfl rfl rfl rfl (leb rfl)) ?_
        refine TriL.c1 rfl (op_as (ltb rfl) rfl) ?_
        refine TriL.nil ?_
        refine Tri.ret ?_
        exact ⟨.inr rfl, (ResOK.r2 rfl (.cell lk35 rfl rfl rfl rfl (.tmp rfl .nil))).cast (by rw [nxt4 hc1 hc2 hc3]; rfl), rfl⟩
theorem one_pure (s : List UInt8) (hs : s.length ≤ 1073741824) : Pure Tryd.prog 20 [.str s] (tkn (nxtT s)) := by
  refine Pure.of_tri Tryd.func20 rfl rfl (ltb rfl) fun H => ?_
  refine Tri.seq ?_
  refine Tri.region ?_
  refine TriL.c2 rfl (op_all (ltb rfl) zA46 rfl) ?_
  refine TriL.c1 rfl (op_as (ltb rfl) rfl) ?_
  refine TriL.nil ?_
  refine Tri.seq ?_
  refine Tri.seq ?_
  refine Tri.region ?_
  refine TriL.c1 rfl (op_mv (ltb rfl) rfl) ?_
  refine TriL.c1 rfl (op_call (ltb rfl) fn28 rfl (rword_pure s hs)) ?_
  refine TriL.c1 rfl (op_as (ltb rfl) rfl) ?_
  refine TriL.nil ?_
  refine Tri.seq ?_
  refine Tri.region ?_
  refine TriL.c1 rfl (op_mv (ltb rfl) rfl) ?_
  refine TriL.c1 rfl (op_bin (ltb rfl) rfl rfl rfl) ?_
  refine TriL.nil ?_
  refine Tri.cond rfl (fun hc1 => ?_) (fun hc1 => ?_)
  · refine Tri.seq ?_
    refine Tri.region ?_
    refine TriL.c1 rfl (op_mv (ltb rfl) rfl) ?_
    refine TriL.c1 rfl (op_mv (ltb rfl) rfl) ?_
    refine TriL.c1 rfl (op_cuts (ltb rfl) un9 rfl rfl rfl (by omega) (by omega) (by have := wordN_le s; omega)) ?_
    refine TriL.c1 rfl (op_bld (ltb rfl) spl46 zA46 rfl rfl) ?_
    refine TriL.c1 rfl (op_mv (ltb rfl) rfl) ?_
    refine TriL.c1 rfl (op_stl lk46 rfl rfl rfl rfl rfl (leb rfl)) ?_
    refine TriL.c1 rfl (op_as (ltb rfl) rfl) ?_
    refine TriL.nil ?_
    refine Tri.ret ?_
    exact ⟨.inr rfl, (ResOK.r2 rfl (.cell lk46 rfl rfl rfl rfl (.tmp rfl .nil))).cast (by rw [nxt1 hc1, wordT_eq (pos_of hc1)]; simp [tkn, Tk.av]), rfl⟩
  · refine Tri.skip ?_
    refine Tri.seq ?_
    refine Tri.seq ?_
    refine Tri.region ?_
    refine TriL.c1 rfl (op_mv (ltb rfl) rfl) ?_
    refine TriL.c1 rfl (op_call (ltb rfl) fn29 rfl (rnumber_pure' s hs)) ?_
    refine TriL.c1 rfl (op_mv (ltb rfl) rfl) ?_
    refine TriL.c1 rfl (op_ext (ltb rfl) rfl rfl) ?_
    refine TriL.c1 rfl (op_ext (ltb rfl) rfl rfl) ?_
    refine TriL.c1 rfl (op_ext (ltb rfl) rfl rfl) ?_
    refine TriL.c1 rfl (op_as (ltb rfl) rfl) ?_
    refine TriL.c1 rfl (op_as (ltb rfl) rfl) ?_
    refine TriL.c1 rfl (op_as (ltb rfl) rfl) ?_
    refine TriL.nil ?_
    refine Tri.seq ?_
    refine Tri.region ?_
    refine TriL.c1 rfl (op_mv (ltb rfl) rfl) ?_
    refine TriL.c1 rfl (op_bin (ltb rfl) rfl rfl rfl) ?_
    refine TriL.nil ?_
    refine Tri.cond rfl (fun hc2 => ?_) (fun hc2 => ?_)
    · refine Tri.seq ?_
      refine Tri.region ?_
      refine TriL.c1 rfl (op_mv (ltb rfl) rfl) ?_
      refine TriL.c1 rfl (op_mv (ltb rfl) rfl) ?_
      refine TriL.c1 rfl (op_bld (ltb rfl) spl46 zA46 rfl rfl) ?_
      refine TriL.c1 rfl (op_mv (ltb rfl) rfl) ?_
      refine TriL.c1 rfl (op_stl lk46 rfl rfl rfl rfl rfl (leb rfl)) ?_
      refine TriL.c1 rfl (op_as (ltb rfl) rfl) ?_
      refine TriL.nil ?_
      refine Tri.ret ?_
      exact ⟨.inr rfl, (ResOK.r2 rfl (.cell lk46 rfl rfl rfl rfl (.tmp rfl .nil))).cast (by rw [nxt2 hc1 hc2, numTk_eq (pos_of hc2)]; rfl), rfl⟩
    · refine Tri.skip ?_
      refine Tri.seq ?_
      refine Tri.seq ?_
      refine Tri.region ?_
      refine TriL.c1 rfl (op_mv (ltb rfl) rfl) ?_
      refine TriL.c1 rfl (op_call (ltb rfl) fn30 rfl (rtext_pure' s hs)) ?_
      refine TriL.c1 rfl (op_mv (ltb rfl) rfl) ?_
      refine TriL.c1 rfl (op_ext (ltb rfl) rfl rfl) ?_
      refine TriL.c1 rfl (op_ext (ltb rfl) rfl rfl) ?_
      refine TriL.c1 rfl (op_as (ltb rfl) rfl) ?_
      refine TriL.c1 rfl (op_as (ltb rfl) rfl) ?_
      refine TriL.nil ?_
      refine Tri.seq ?_
      refine Tri.region ?_
      refine TriL.c1 rfl (op_mv (ltb rfl) rfl) ?_
      refine TriL.c1 rfl (op_bin (ltb rfl) rfl rfl rfl) ?_
      refine TriL.nil ?_
      refine Tri.cond rfl (fun hc3 => ?_) (fun hc3 => ?_)
      · refine Tri.seq ?_
        refine Tri.region ?_
        refine TriL.c1 rfl (op_mv (ltb rfl) rfl) ?_
        refine TriL.c1 rfl (op_bld (ltb rfl) spl46 zA46 rfl rfl) ?_
        refine TriL.c1 rfl (op_mv (ltb rfl) rfl) ?_
        refine TriL.c1 rfl (op_stl lk46 rfl rfl rfl rfl rfl (leb rfl)) ?_
        refine TriL.c1 rfl (op_as (ltb rfl) rfl) ?_
        refine TriL.nil ?_
        refine Tri.ret ?_
        exact ⟨.inr rfl, (ResOK.r2 rfl (.cell lk46 rfl rfl rfl rfl (.tmp rfl .nil))).cast (by rw [nxt3 hc1 hc2 hc3, txtTk_eq (pos_of hc3)]; rfl), rfl⟩
      · refine Tri.skip ?_
        refine Tri.seq ?_
        refine Tri.seq ?_
        refine Tri.region ?_
        refine TriL.c1 rfl (op_mv (ltb rfl) rfl) ?_
        refine TriL.c1 rfl (op_lens (ltb rfl) un9 rfl) ?_
        refine TriL.c1 rfl (op_bin (ltb rfl) rfl rfl rfl) ?_
        refine TriL.c1 rfl (op_mv (ltb rfl) rfl) ?_
        refine TriL.split (d := 44) rfl (fun hg4 => ?_) (fun hg4 => ?_)
        · obtain ⟨c, r, rfl⟩ : ∃ c r, s = c :: r := by
              cases s with
              | nil => simp at hg4
              | cons c r => exact ⟨c, r, rfl⟩
          refine TriL.g1 rfl (ltb rfl) rfl hg4 (op_mv (ltb rfl) rfl) ?_
          refine TriL.g1 rfl (ltb rfl) rfl hg4 (op_ixs (ltb rfl) un9 rfl rfl (by decide) rfl) ?_
          refine TriL.g1 rfl (ltb rfl) rfl hg4 (op_call (ltb rfl) fn31 rfl (rmark_pure c)) ?_
          refine TriL.c1 rfl (op_pickt (ltb rfl) rfl hg4 rfl) ?_
          refine TriL.nil ?_
          refine Tri.cond rfl (fun hc5 => ?_) (fun hc5 => ?_)
          · refine Tri.seq ?_
            refine Tri.region ?_
            refine TriL.c1 rfl (op_mv (ltb rfl) rfl) ?_
            refine TriL.c1 rfl (op_cuts (ltb rfl) un9 rfl rfl rfl (by omega) (by omega) (by simp <;> omega)) ?_
            refine TriL.c1 rfl (op_bld (ltb rfl) spl46 zA46 rfl rfl) ?_
            refine TriL.c1 rfl (op_stl lk46 rfl rfl rfl rfl rfl (leb rfl)) ?_
            refine TriL.c1 rfl (op_as (ltb rfl) rfl) ?_
            refine TriL.nil ?_
            refine Tri.ret ?_
            exact ⟨.inr rfl, (ResOK.r2 rfl (.cell lk46 rfl rfl rfl rfl (.tmp rfl .nil))).cast (by rw [nxt4 hc1 hc2 hc3]; have h : isMark c = true := hc5; simp only [markT, h, if_true]; rfl), rfl⟩
          · refine Tri.skip ?_
            refine Tri.seq ?_
            refine Tri.region ?_
            refine TriL.c1 rfl (op_bld (ltb rfl) spl46 zA46 rfl rfl) ?_
            refine TriL.c1 rfl (op_stl lk46 rfl rfl rfl rfl rfl (leb rfl)) ?_
            refine TriL.c1 rfl (op_as (ltb rfl) rfl) ?_
            refine TriL.nil ?_
            refine Tri.ret ?_
            exact ⟨.inr rfl, (ResOK.r2 rfl (.cell lk46 rfl rfl rfl rfl (.tmp rfl .nil))).cast (by rw [nxt4 hc1 hc2 hc3]; have h : isMark c = false := hc5; simp only [markT, h]; rfl), rfl⟩
        · refine TriL.skipu rfl rfl (ltb rfl) (ltb rfl) rfl hg4 ?_
          refine TriL.skipu rfl rfl (ltb rfl) (ltb rfl) rfl hg4 ?_
          refine TriL.skipu rfl rfl (ltb rfl) (ltb rfl) rfl hg4 ?_
          refine TriL.c1 rfl (op_pickf (ltb rfl) rfl hg4 rfl) ?_
          refine TriL.nil ?_
          refine Tri.condF rfl rfl ?_
          refine Tri.skip ?_
          refine Tri.seq ?_
          refine Tri.region ?_
          refine TriL.c1 rfl (op_bld (ltb rfl) spl46 zA46 rfl rfl) ?_
          refine TriL.c1 rfl (op_stl lk46 rfl rfl rfl rfl rfl (leb rfl)) ?_
          refine TriL.c1 rfl (op_as (ltb rfl) rfl) ?_
          refine TriL.nil ?_
          refine Tri.ret ?_
          exact ⟨.inr rfl, (ResOK.r2 rfl (.cell lk46 rfl rfl rfl rfl (.tmp rfl .nil))).cast (by
                    have h0 : s = [] := List.eq_nil_of_length_eq_zero (by have := of_decide_eq_false hg4; omega)
                    rw [nxt4 hc1 hc2 hc3, h0]; rfl), rfl⟩
end Go.Proofs.YthoncmadikifnaaDoor.X
