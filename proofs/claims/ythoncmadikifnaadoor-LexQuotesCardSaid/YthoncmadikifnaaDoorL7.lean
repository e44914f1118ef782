/- lex: a word, a mark, a number's digits. -/
import Derived.Test.YthoncmadikifnaaDoorL6
set_option linter.unusedVariables false
set_option linter.unusedSimpArgs false
set_option linter.unusedSectionVars false
set_option maxRecDepth 100000
namespace Go.Proofs.YthoncmadikifnaaDoor.X
open Go Go.RowKit Go.Proofs
theorem fn16 : isFn Tryd.prog 16 = true := by kernel_rfl
theorem fn22 : isFn Tryd.prog 22 = true := by kernel_rfl
theorem fn33 : isFn Tryd.prog 33 = true := by kernel_rfl
theorem fn42 : isFn Tryd.prog 42 = true := by kernel_rfl
theorem lk35 : lk Tryd.prog 35 = some (true, 5) := by kernel_rfl
theorem spl35 : spl Tryd.prog 35 = some [(0, 1), (1, 1), (2, 1), (3, 1), (4, 1)] := by kernel_rfl
theorem zA35 : zeroA Tryd.prog 35 = some [AV.int IntKind.i64 (0), AV.str [], AV.int IntKind.u64 (0), AV.bool false, AV.int IntKind.i64 (0)] := by kernel_rfl
theorem empty_of {s : List UInt8} (h : (s == ([] : List UInt8)) = true) : s = [] := by simpa using h
theorem cons_of {s : List UInt8} (h : (s == ([] : List UInt8)) = false) : ∃ c r, s = c :: r := by
  cases s with
  | nil => simp at h
  | cons c r => exact ⟨c, r, rfl⟩
theorem ib_spec (c : UInt8) : ∀ l : List UInt8, (Lib.indexByte l c = -1 ∧ c ∉ l) ∨ ∃ n : Nat, Lib.indexByte l c = n ∧ l[n]? = some c ∧ c ∉ l.take n
  | [] => .inl ⟨rfl, by simp⟩
  | b :: l => by
    simp only [Lib.indexByte]
    by_cases hb : b = c
    · subst hb
      rw [if_pos (by simp)]
      exact .inr ⟨0, rfl, by simp, by simp⟩
    · rw [if_neg (by simpa using hb)]
      rcases ib_spec c l with ⟨h1, h2⟩ | ⟨n, h1, h2, h3⟩
      · rw [if_pos (by simp [h1])]
        exact .inl ⟨rfl, by simp [h2, Ne.symm hb]⟩
      · have hn : ¬ ((Lib.indexByte l c == -1) = true) := by rw [h1]; simp
        rw [if_neg hn, h1]
        exact .inr ⟨n + 1, by omega, by simpa using h2, by simp [h3, Ne.symm hb]⟩
theorem indexByte_mark (c : UInt8) : (Lib.indexByte [123, 125, 40, 41, 61, 44, 46, 59] c < 0) ↔ isMark c = false := by
  have e : c ∉ ([123, 125, 40, 41, 61, 44, 46, 59] : List UInt8) ↔ isMark c = false := by
    simp only [isMark, List.mem_cons, List.not_mem_nil, or_false, decide_eq_false_iff_not, ← UInt8.toNat_inj, UInt8.reduceToNat]
  rcases ib_spec c [123, 125, 40, 41, 61, 44, 46, 59] with ⟨h1, h2⟩ | ⟨n, h1, h2, h3⟩
  · rw [h1]; exact ⟨fun _ => e.1 h2, fun _ => by decide⟩
  · rw [h1]
    exact ⟨fun h => by omega, fun h => absurd (List.mem_of_getElem? h2) (e.2 h)⟩
theorem word_pure (s : List UInt8) (hs : s.length ≤ 1073741824) : Pure Tryd.prog 24 [.str s] (tkn (wordT s)) := by
  refine Pure.of_tri Tryd.func24 rfl rfl (ltb rfl) fun H => ?_
  refine Tri.seq ?_
  refine Tri.region ?_
  refine TriL.c2 rfl (op_all (ltb rfl) zA35 rfl) ?_
  refine TriL.c1 rfl (op_as (ltb rfl) rfl) ?_
  refine TriL.nil ?_
  refine Tri.seq ?_
  refine Tri.seq ?_
  refine Tri.region ?_
  refine TriL.c1 rfl (op_mv (ltb rfl) rfl) ?_
  refine TriL.c1 rfl (op_bin (ltb rfl) rfl rfl rfl) ?_
  refine TriL.c1 rfl (op_mv (ltb rfl) rfl) ?_
  refine TriL.split (d := 7) rfl (fun hg1 => ?_) (fun hg1 => ?_)
  · refine TriL.skipu rfl rfl (ltb rfl) (ltb rfl) rfl hg1 ?_
    refine TriL.skipu rfl rfl (ltb rfl) (ltb rfl) rfl hg1 ?_
    refine TriL.skipu rfl rfl (ltb rfl) (ltb rfl) rfl hg1 ?_
    refine TriL.skipu rfl rfl (ltb rfl) (ltb rfl) rfl hg1 ?_
    refine TriL.c1 rfl (op_pickt (ltb rfl) rfl hg1 rfl) ?_
    refine TriL.nil ?_
    refine Tri.condT rfl rfl ?_
    refine Tri.seq ?_
    refine Tri.region ?_
    refine TriL.c1 rfl (op_bld (ltb rfl) spl35 zA35 rfl rfl) ?_
    refine TriL.c1 rfl (op_stl lk35 rfl rfl rfl rfl rfl (leb rfl)) ?_
    refine TriL.c1 rfl (op_as (ltb rfl) rfl) ?_
    refine TriL.nil ?_
    refine Tri.ret ?_
    exact ⟨.inr rfl, (ResOK.r2 rfl (.cell lk35 rfl rfl rfl rfl (.tmp rfl .nil))).cast (by rw [empty_of hg1]; rfl), rfl⟩
  · obtain ⟨c, r, rfl⟩ := cons_of hg1
    refine TriL.g1 rfl (ltb rfl) rfl hg1 (op_mv (ltb rfl) rfl) ?_
    refine TriL.g1 rfl (ltb rfl) rfl hg1 (op_ixs (ltb rfl) un9 rfl rfl (by decide) rfl) ?_
    refine TriL.g1 rfl (ltb rfl) rfl hg1 (op_call (ltb rfl) fn34 rfl (letter_pure c)) ?_
    refine TriL.g1 rfl (ltb rfl) rfl hg1 (op_un (ltb rfl) rfl rfl) ?_
    refine TriL.c1 rfl (op_pickf (ltb rfl) rfl hg1 rfl) ?_
    refine TriL.nil ?_
    refine Tri.cond rfl (fun hc2 => ?_) (fun hc2 => ?_)
    · refine Tri.seq ?_
      refine Tri.region ?_
      refine TriL.c1 rfl (op_bld (ltb rfl) spl35 zA35 rfl rfl) ?_
      refine TriL.c1 rfl (op_stl lk35 rfl rfl rfl rfl rfl (leb rfl)) ?_
      refine TriL.c1 rfl (op_as (ltb rfl) rfl) ?_
      refine TriL.nil ?_
      refine Tri.ret ?_
      exact ⟨.inr rfl, (ResOK.r2 rfl (.cell lk35 rfl rfl rfl rfl (.tmp rfl .nil))).cast (by
          have : isLet c = false := by simpa using hc2
          simp only [tkn, wordT, this]; rfl), rfl⟩
    · refine Tri.skip ?_
      refine Tri.seq ?_
      refine Tri.region ?_
      refine TriL.c1 rfl (op_mv (ltb rfl) rfl) ?_
      refine TriL.c1 rfl (op_call (ltb rfl) fn16 rfl (span_pure (c :: r) _ isWd wd_pure (by kernel_rfl) hs)) ?_
      refine TriL.c1 rfl (op_as (ltb rfl) rfl) ?_
      refine TriL.nil ?_
      refine Tri.seq ?_
      refine Tri.region ?_
      refine TriL.c1 rfl (op_mv (ltb rfl) rfl) ?_
      refine TriL.c1 rfl (op_mv (ltb rfl) rfl) ?_
      refine TriL.c1 rfl (op_cuts (ltb rfl) un9 rfl rfl rfl (by omega) (by omega) (by have := spn_le isWd (c :: r); omega)) ?_
      refine TriL.c1 rfl (op_bld (ltb rfl) spl35 zA35 rfl rfl) ?_
      refine TriL.c1 rfl (op_mv (ltb rfl) rfl) ?_
      refine TriL.c1 rfl (op_stl lk35 rfl rfl rfl rfl rfl (leb rfl)) ?_
      refine TriL.c1 rfl (op_as (ltb rfl) rfl) ?_
      refine TriL.nil ?_
      refine Tri.ret ?_
      exact ⟨.inr rfl, (ResOK.r2 rfl (.cell lk35 rfl rfl rfl rfl (.tmp rfl .nil))).cast (by
          have : isLet c = true := by simpa using hc2
          simp only [tkn, wordT, this, if_true, Tk.av]; simp), rfl⟩
set_option maxRecDepth 100000 in
theorem mark_pure (s : List UInt8) (hs : s.length ≤ 1073741824) : Pure Tryd.prog 27 [.str s] (tkn (markT s)) := by
  refine Pure.of_tri Tryd.func27 rfl rfl (ltb rfl) fun H => ?_
  refine Tri.seq ?_
  refine Tri.region ?_
  refine TriL.c2 rfl (op_all (ltb rfl) zA35 rfl) ?_
  refine TriL.c1 rfl (op_as (ltb rfl) rfl) ?_
  refine TriL.nil ?_
  refine Tri.seq ?_
  refine Tri.seq ?_
  refine Tri.region ?_
  refine TriL.c1 rfl (op_mv (ltb rfl) rfl) ?_
  refine TriL.c1 rfl (op_bin (ltb rfl) rfl rfl rfl) ?_
  refine TriL.c1 rfl (op_mv (ltb rfl) rfl) ?_
  refine TriL.split (d := 6) rfl (fun hg1 => ?_) (fun hg1 => ?_)
  · refine TriL.skipu rfl rfl (ltb rfl) (ltb rfl) rfl hg1 ?_
    refine TriL.skipu rfl rfl (ltb rfl) (ltb rfl) rfl hg1 ?_
    refine TriL.skipu rfl rfl (ltb rfl) (ltb rfl) rfl hg1 ?_
    refine TriL.skipu rfl rfl (ltb rfl) (ltb rfl) rfl hg1 ?_
    refine TriL.c1 rfl (op_pickt (ltb rfl) rfl hg1 rfl) ?_
    refine TriL.nil ?_
    refine Tri.condT rfl rfl ?_
    refine Tri.seq ?_
    refine Tri.region ?_
    refine TriL.c1 rfl (op_bld (ltb rfl) spl35 zA35 rfl rfl) ?_
    refine TriL.c1 rfl (op_stl lk35 rfl rfl rfl rfl rfl (leb rfl)) ?_
    refine TriL.c1 rfl (op_as (ltb rfl) rfl) ?_
    refine TriL.nil ?_
    refine Tri.ret ?_
    exact ⟨.inr rfl, (ResOK.r2 rfl (.cell lk35 rfl rfl rfl rfl (.tmp rfl .nil))).cast (by rw [empty_of hg1]; rfl), rfl⟩
  · obtain ⟨c, r, rfl⟩ := cons_of hg1
    refine TriL.g1 rfl (ltb rfl) rfl hg1 (op_mv (ltb rfl) rfl) ?_
    refine TriL.g1 rfl (ltb rfl) rfl hg1 (op_ixs (ltb rfl) un9 rfl rfl (by decide) rfl) ?_
    refine TriL.g1 rfl (ltb rfl) rfl hg1 (op_call (ltb rfl) fn42 rfl (indexByte_pure _ c)) ?_
    refine TriL.g1 rfl (ltb rfl) rfl hg1 (op_bin (ltb rfl) rfl rfl rfl) ?_
    refine TriL.c1 rfl (op_pickf (ltb rfl) rfl hg1 rfl) ?_
    refine TriL.nil ?_
    refine Tri.cond rfl (fun hc2 => ?_) (fun hc2 => ?_)
    · refine Tri.seq ?_
      refine Tri.region ?_
      refine TriL.c1 rfl (op_bld (ltb rfl) spl35 zA35 rfl rfl) ?_
      refine TriL.c1 rfl (op_stl lk35 rfl rfl rfl rfl rfl (leb rfl)) ?_
      refine TriL.c1 rfl (op_as (ltb rfl) rfl) ?_
      refine TriL.nil ?_
      refine Tri.ret ?_
      exact ⟨.inr rfl, (ResOK.r2 rfl (.cell lk35 rfl rfl rfl rfl (.tmp rfl .nil))).cast (by
          have := (indexByte_mark c).1 (of_decide_eq_true hc2)
          simp only [tkn, markT, this]; rfl), rfl⟩
    · refine Tri.skip ?_
      refine Tri.seq ?_
      refine Tri.region ?_
      refine TriL.c1 rfl (op_mv (ltb rfl) rfl) ?_
      refine TriL.c1 rfl (op_cuts (ltb rfl) un9 rfl rfl rfl (by omega) (by omega) (by simp <;> omega)) ?_
      refine TriL.c1 rfl (op_bld (ltb rfl) spl35 zA35 rfl rfl) ?_
      refine TriL.c1 rfl (op_stl lk35 rfl rfl rfl rfl rfl (leb rfl)) ?_
      refine TriL.c1 rfl (op_as (ltb rfl) rfl) ?_
      refine TriL.nil ?_
      refine Tri.ret ?_
      exact ⟨.inr rfl, (ResOK.r2 rfl (.cell lk35 rfl rfl rfl rfl (.tmp rfl .nil))).cast (by
          have : isMark c = true := by
            cases h : isMark c
            · exact absurd ((indexByte_mark c).2 h) (of_decide_eq_false hc2)
            · rfl
          simp only [tkn, markT, this, if_true, Tk.av]; rfl), rfl⟩
theorem fmt_pure (u : Nat) (hu : u < 18446744073709551616) : Pure Tryd.prog 22 [.int .u64 u, .int .i64 10] (.str (Lib.decDigits u)) := by
  refine Pure.of_tri Tryd.func22 rfl rfl (ltb rfl) fun H => ?_
  refine Tri.seq ?_
  refine Tri.region ?_
  refine TriL.c1 rfl (op_as (ltb rfl) rfl) ?_
  refine TriL.nil ?_
  refine Tri.seq ?_
  refine Tri.region ?_
  refine TriL.c1 rfl (op_mv (ltb rfl) rfl) ?_
  refine TriL.c1 rfl (op_mv (ltb rfl) rfl) ?_
  refine TriL.c1 rfl (op_call (ltb rfl) fn33 rfl (format_pure u hu)) ?_
  refine TriL.c1 rfl (op_as (ltb rfl) rfl) ?_
  refine TriL.nil ?_
  refine Tri.ret ?_
  exact ⟨.inr rfl, (ResOK.r1 rfl (.tmp rfl .nil)), rfl⟩
theorem digs_len {u : Nat} (hu : u < 18446744073709551616) : (Lib.decDigits u).length ≤ 20 := by
  rw [Lib.decDigits_length]
  by_cases h : 1 ≤ u
  · have := Lib.numDigits_eq u h hu; split at this <;> omega
  · have : u = 0 := by omega
    subst this; simp [Lib.nDigits]
theorem digits_pure (u : Nat) (neg : Bool) (hu : u < 18446744073709551616) : Pure Tryd.prog 13 [.int .u64 u, .bool neg] (.str (digs u neg)) := by
  refine Pure.of_tri Tryd.func13 rfl rfl (ltb rfl) fun H => ?_
  refine Tri.seq ?_
  refine Tri.region ?_
  refine TriL.c1 rfl (op_as (ltb rfl) rfl) ?_
  refine TriL.nil ?_
  refine Tri.seq ?_
  refine Tri.region ?_
  refine TriL.c1 rfl (op_mv (ltb rfl) rfl) ?_
  refine TriL.c1 rfl (op_call (ltb rfl) fn22 rfl (fmt_pure u hu)) ?_
  refine TriL.c1 rfl (op_as (ltb rfl) rfl) ?_
  refine TriL.nil ?_
  refine Tri.seq ?_
  refine Tri.seq ?_
  refine Tri.region ?_
  refine TriL.c1 rfl (op_mv (ltb rfl) rfl) ?_
  refine TriL.c1 rfl (op_mv (ltb rfl) rfl) ?_
  refine TriL.split (d := 9) rfl (fun hg1 => ?_) (fun hg1 => ?_)
  · refine TriL.g1 rfl (ltb rfl) rfl hg1 (op_mv (ltb rfl) rfl) ?_
    refine TriL.g1 rfl (ltb rfl) rfl hg1 (op_bin (ltb rfl) rfl rfl rfl) ?_
    refine TriL.c1 rfl (op_pickt (ltb rfl) rfl hg1 rfl) ?_
    refine TriL.nil ?_
    refine Tri.cond rfl (fun hc2 => ?_) (fun hc2 => ?_)
    · refine Tri.seq ?_
      refine Tri.region ?_
      refine TriL.c1 rfl (op_mv (ltb rfl) rfl) ?_
      refine TriL.c1 rfl (op_cat (ltb rfl) rfl rfl (by have := digs_len hu; simp; omega)) ?_
      refine TriL.c1 rfl (op_as (ltb rfl) rfl) ?_
      refine TriL.nil ?_
      refine Tri.ret ?_
      exact ⟨.inr rfl, (ResOK.r1 rfl (.tmp rfl .nil)).cast (by
          have h2 : u ≠ 0 := by simpa using hc2
          have h1 : neg = true := hg1
          simp [digs, h1, h2]), rfl⟩
    · refine Tri.skip ?_
      refine Tri.seq ?_
      refine Tri.region ?_
      refine TriL.c1 rfl (op_mv (ltb rfl) rfl) ?_
      refine TriL.c1 rfl (op_as (ltb rfl) rfl) ?_
      refine TriL.nil ?_
      refine Tri.ret ?_
      exact ⟨.inr rfl, (ResOK.r1 rfl (.tmp rfl .nil)).cast (by
          have h2 : u = 0 := by simpa using hc2
          have h1 : neg = true := hg1
          simp [digs, h1, h2]), rfl⟩
  · refine TriL.skipu rfl rfl (ltb rfl) (ltb rfl) rfl hg1 ?_
    refine TriL.skipu rfl rfl (ltb rfl) (ltb rfl) rfl hg1 ?_
    refine TriL.c1 rfl (op_pickf (ltb rfl) rfl hg1 rfl) ?_
    refine TriL.nil ?_
    refine Tri.condF rfl rfl ?_
    refine Tri.skip ?_
    refine Tri.seq ?_
    refine Tri.region ?_
    refine TriL.c1 rfl (op_mv (ltb rfl) rfl) ?_
    refine TriL.c1 rfl (op_as (ltb rfl) rfl) ?_
    refine TriL.nil ?_
    refine Tri.ret ?_
    exact ⟨.inr rfl, (ResOK.r1 rfl (.tmp rfl .nil)).cast (by
        have h1 : neg = false := hg1
        simp [digs, h1]), rfl⟩
end Go.Proofs.YthoncmadikifnaaDoor.X
