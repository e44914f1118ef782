/- A quoted text, and a number's digits, are read as them: plain Lean. No condition. -/
import Derived.Test.YthoncmadikifnaaDoorLE
import Derived.Lib.Replace
import Derived.Lib.IndexBytes
import Derived.Lib.SplitLaws
set_option linter.unusedVariables false
namespace Go.Proofs.YthoncmadikifnaaDoor.X
open Go
/-- each quote doubled -/
def dbl : List UInt8 → List UInt8
  | [] => []
  | c :: r => if c = 39 then 39 :: 39 :: dbl r else c :: dbl r
theorem dbl_len : ∀ s, (dbl s).length ≤ 2 * s.length
  | [] => by simp [dbl]
  | c :: r => by
    have := dbl_len r
    unfold dbl; split <;> simp <;> omega
def qot (s : List UInt8) : List UInt8 := (39 :: dbl s) ++ [39]
theorem replaceK_cons {c : UInt8} (hc : c ≠ 39) (r : List UInt8) (k : Nat) : Lib.replaceK [39] [39, 39] k (c :: r) = c :: Lib.replaceK [39] [39, 39] k r := by
  cases k with
  | zero => rfl
  | succ k =>
    rcases ib_spec 39 r with ⟨h, _⟩ | ⟨n, h, _⟩
    · have h1 : Lib.index r [39] = -1 := by rw [Lib.index_one, h]
      have h2 : Lib.index (c :: r) [39] = -1 := by rw [Lib.index_one]; simp [Lib.indexByte, hc, h]
      simp [Lib.replaceK, h1, h2]
    · have h1 : Lib.index r [39] = (n : Nat) := by rw [Lib.index_one, h]
      have hn : ¬ ((n : Int) == -1) = true := by simp
      have h2 : Lib.index (c :: r) [39] = ((n + 1 : Nat) : Int) := by
        rw [Lib.index_one]
        simp only [Lib.indexByte, h]
        rw [if_neg (by simpa using hc), if_neg hn]; omega
      rw [Lib.replaceK_hit _ _ _ _ _ h2, Lib.replaceK_hit _ _ _ _ _ h1]
      simp
theorem replaceK_dbl : ∀ s : List UInt8, Lib.replaceK [39] [39, 39] (s.count 39) s = dbl s
  | [] => rfl
  | c :: r => by
    by_cases hc : c = 39
    · subst hc
      rw [List.count_cons_self, Lib.replaceK_hit _ _ _ _ 0 (by rw [Lib.index_one]; simp [Lib.indexByte])]
      simp only [List.take_zero, List.nil_append]
      show [39, 39] ++ Lib.replaceK [39] [39, 39] (r.count 39) r = _
      rw [replaceK_dbl r]; simp [dbl]
    · rw [List.count_cons_of_ne hc, replaceK_cons hc, replaceK_dbl r]; simp [dbl, hc]
theorem replaceAll_dbl (s : List UInt8) : Lib.replaceAll s [39] [39, 39] = dbl s := by
  unfold Lib.replaceAll Lib.replace
  rw [if_neg (by decide)]
  have : Lib.replaceNum s [39] (-1) = s.count 39 := by unfold Lib.replaceNum; rw [if_pos (.inl (by decide)), Lib.count_one]
  rw [this, replaceK_dbl]
theorem txtGo_dbl : ∀ (s out : List UInt8) (p : Nat), txtGo (dbl s ++ [39]) out p = some (out ++ s, p + (dbl s).length + 1)
  | [], out, p => by
    show txtGo [39] out p = _
    rw [txt_end (fun r e => by cases e)]; simp [dbl]
  | c :: r, out, p => by
    by_cases hc : c = 39
    · subst hc
      have e : dbl (39 :: r) = 39 :: 39 :: dbl r := by simp [dbl]
      rw [e]
      show txtGo (39 :: 39 :: (dbl r ++ [39])) out p = _
      rw [txt_two, txtGo_dbl r]
      simp only [List.append_assoc, List.cons_append, List.nil_append, List.length_cons]
      congr 2; omega
    · have e : dbl (c :: r) = c :: dbl r := by simp [dbl, hc]
      rw [e]
      show txtGo (c :: (dbl r ++ [39])) out p = _
      rw [txtGo_ne hc, txtGo_dbl r]
      simp only [List.append_assoc, List.cons_append, List.nil_append, List.length_cons]
      congr 2; omega
theorem lexGo_one {s : List UInt8} {t : Tk} {k : Nat} {c : UInt8} {r : List UInt8} (hs : s = c :: r) (hb : isBl c = false) (hr : isRem s = false) (hn : nxtT s = (t, k)) (hk : k = s.length) : lexGo s 0 = ([t.at 0], none) := by
  subst hs
  rw [lexGo_tok hb hr (by rw [hn]; show k ≠ 0; rw [hk]; simp), hn]
  simp only
  rw [hk, List.drop_length, lexGo_nil]
theorem nxt_qot (s : List UInt8) : nxtT (qot s) = (⟨3, s, 0, false, 0⟩, (qot s).length) := by
  have e : qot s = 39 :: (dbl s ++ [39]) := rfl
  have hw : wordT (qot s) = zeroT := by rw [e]; rfl
  have hn : numTk (qot s) = zeroT := numTk_bad fun u h => by
    have hu : unsg (qot s) = 39 :: (dbl s ++ [39]) := by
      rw [e]; unfold unsg Lib.trimPrefix
      rw [if_neg (by simp [Lib.hasPrefix, List.isPrefixOf])]
    have h0 : numS (qot s) = [] := by
      unfold numS; rw [hu]
      have e1 : isDig 39 = false := by decide
      simp [spn, e1]
    rw [h0] at h; cases h
  have ht : txtT (qot s) = some (s, (qot s).length) := by
    rw [e, txtT, if_pos rfl, txtGo_dbl]
    simp; omega
  have ht2 := txtTk_some ht
  unfold nxtT
  rw [hw, hn, if_neg (by decide), if_neg (by decide), ht2, if_pos (by rw [e]; simp)]
theorem lex_qot (s : List UInt8) : lexGo (qot s) 0 = ([⟨3, s, 0, false, 0⟩], none) := by
  have h := lexGo_one (s := qot s) (c := 39) (r := dbl s ++ [39]) rfl (by decide) (by
    show isRem (39 :: (dbl s ++ [39])) = false
    unfold isRem Lib.hasPrefix
    cases dbl s <;> simp [List.isPrefixOf]) (nxt_qot s) rfl
  exact h
/-! ### a number's digits -/
theorem parseM_app (M : Nat) : ∀ (l m : List UInt8) (a : Nat), Lib.parseUintM M a (l ++ m) = match Lib.parseUintM M a l with | .ok v => Lib.parseUintM M v m | e => e
  | [], m, a => rfl
  | c :: r, m, a => by
    simp only [List.cons_append, Lib.parseUintM]
    split
    · split
      · rfl
      · split
        · rfl
        · exact parseM_app M r m _
    · rfl
theorem dig_nat {d : Nat} (h : d < 10) : (UInt8.ofNat (48 + d)).toNat = 48 + d := by rw [UInt8.toNat_ofNat_of_lt' (by simp [UInt8.size]; omega)]
theorem parse_dec : ∀ (n u : Nat), u ≤ n → u < 18446744073709551616 → Lib.parseUintM Mx 0 (Lib.decDigits u) = .ok u := by
  intro n
  induction n with
  | zero =>
    intro u h _
    obtain rfl : u = 0 := by omega
    rw [decDigits_small (by decide)]; rfl
  | succ n ih =>
    intro u h hu
    by_cases h10 : u < 10
    · rw [decDigits_small h10]
      have := dig_nat h10
      simp only [Lib.parseUintM, this]
      rw [if_pos (by omega), if_neg (by omega), if_neg (by unfold Mx; omega)]
      congr 1; omega
    · rw [decDigits_step h10, parseM_app, ih (u / 10) (by omega) (by omega)]
      have := dig_nat (d := u % 10) (by omega)
      simp only [Lib.parseUintM, this]
      rw [if_pos (by omega), if_neg (by omega), if_neg (by unfold Mx; omega)]
      congr 1; omega
theorem dec_ne (u : Nat) : Lib.decDigits u ≠ [] := by
  by_cases h : u < 10
  · rw [decDigits_small h]; simp
  · rw [decDigits_step h]; simp
theorem parseB_dec {u : Nat} (hu : u < 18446744073709551616) : Lib.parseUintB 64 (Lib.decDigits u) = .ok u := by
  unfold Lib.parseUintB
  rw [if_neg (dec_ne u)]
  exact parse_dec u u (Nat.le_refl _) hu
theorem dec_dig : ∀ (n u : Nat), u ≤ n → ∀ c ∈ Lib.decDigits u, isDig c = true := by
  intro n
  induction n with
  | zero =>
    intro u h c hc
    obtain rfl : u = 0 := by omega
    rw [decDigits_small (by decide)] at hc
    simp at hc; subst hc; decide
  | succ n ih =>
    intro u h c hc
    by_cases h10 : u < 10
    · rw [decDigits_small h10] at hc
      rw [List.mem_singleton] at hc; subst hc
      have := dig_nat h10
      exact decide_eq_true (by omega)
    · rw [decDigits_step h10] at hc
      rcases List.mem_append.1 hc with h2 | h2
      · exact ih (u / 10) (by omega) c h2
      · rw [List.mem_singleton] at h2; subst h2
        have := dig_nat (d := u % 10) (by omega)
        exact decide_eq_true (by omega)
theorem spn_all (p : UInt8 → Bool) : ∀ l : List UInt8, (∀ c ∈ l, p c = true) → spn p l = l.length
  | [], _ => rfl
  | c :: r, h => by
    simp only [spn]
    rw [if_pos (h c (List.mem_cons_self ..)), spn_all p r fun d hd => h d (List.mem_cons_of_mem _ hd)]; rfl
theorem dec_cons (u : Nat) : ∃ c r, Lib.decDigits u = c :: r ∧ isDig c = true := by
  cases h : Lib.decDigits u with
  | nil => exact absurd h (dec_ne u)
  | cons c r => exact ⟨c, r, rfl, dec_dig u u (Nat.le_refl _) c (by rw [h]; exact List.mem_cons_self ..)⟩
/-- what it is made of -/
theorem digs_parts (u : Nat) (neg : Bool) : isNeg (digs u neg) = (neg && decide (u ≠ 0)) ∧ unsg (digs u neg) = Lib.decDigits u := by
  obtain ⟨c, r, e, hd⟩ := dec_cons u
  have hc : c ≠ 45 := fun h => by subst h; revert hd; decide
  unfold digs
  by_cases h : (neg && decide (u ≠ 0)) = true
  · rw [if_pos h, h]
    refine ⟨by simp [isNeg, Lib.hasPrefix, List.isPrefixOf], ?_⟩
    unfold unsg Lib.trimPrefix
    rw [if_pos (by simp [Lib.hasPrefix, List.isPrefixOf])]; rfl
  · have h' : (neg && decide (u ≠ 0)) = false := by simpa using h
    have hp : Lib.hasPrefix (Lib.decDigits u) [45] = false := by
      rw [e]; simp [Lib.hasPrefix, List.isPrefixOf]; exact fun e2 => hc e2.symm
    rw [if_neg h, h']
    exact ⟨hp, by unfold unsg Lib.trimPrefix; rw [if_neg (by simp [hp])]⟩
theorem digs_numS (u : Nat) (neg : Bool) : numS (digs u neg) = Lib.decDigits u ∧ numB (digs u neg) = (digs u neg).length := by
  obtain ⟨_, h2⟩ := digs_parts u neg
  have hs : spn isDig (Lib.decDigits u) = (Lib.decDigits u).length := spn_all _ _ (dec_dig u u (Nat.le_refl _))
  have hl := unsg_le (digs u neg)
  rw [h2] at hl
  refine ⟨?_, ?_⟩
  · unfold numS; rw [h2, hs, List.take_length]
  · unfold numB; rw [h2, hs]; omega
theorem digs_head (u : Nat) (neg : Bool) : ∃ c r, digs u neg = c :: r ∧ isBl c = false ∧ isLet c = false ∧ c.toNat ≠ 47 ∧ c ≠ 39 ∧ isMark c = false := by
  obtain ⟨c, r, e, hd⟩ := dec_cons u
  unfold digs
  split
  · exact ⟨45, _, rfl, by decide, by decide, by decide, by decide, by decide⟩
  · have h := of_decide_eq_true hd
    refine ⟨c, r, e, decide_eq_false (by omega), decide_eq_false (by omega), by omega, fun h2 => by subst h2; revert hd; decide, decide_eq_false (by omega)⟩
theorem digs_big {u : Nat} {neg : Bool} (hu : u < 18446744073709551616) (h : neg = true ∧ 9223372036854775808 < u) : lexGo (digs u neg) 0 = ([], some 0) := by
  obtain ⟨c, r, e, h1, h2, h3, h4, h5⟩ := digs_head u neg
  obtain ⟨p1, _⟩ := digs_parts u neg
  obtain ⟨p3, _⟩ := digs_numS u neg
  have hz : numTk (digs u neg) = zeroT := numTk_no (u := u) (by rw [p3]; exact parseB_dec hu) (.inl ⟨by rw [p1, h.1]; simp; omega, h.2⟩)
  have hn : (nxtT (digs u neg)).2 = 0 := by
    have hw : wordT (digs u neg) = zeroT := by rw [e]; simp [wordT, h2, zeroT]
    have ht : txtTk (digs u neg) = zeroT := txtTk_none (by rw [e]; exact txtT_not h4)
    have hm : markT (digs u neg) = zeroT := by rw [e]; simp [markT, h5]
    unfold nxtT
    rw [hw, hz, ht, hm]; rfl
  rw [e] at hn ⊢
  exact lexGo_no h1 (isRem_ne h3) hn
theorem digs_ok {u : Nat} {neg : Bool} (hu : u < 18446744073709551616) (h : ¬ (neg = true ∧ 9223372036854775808 < u)) : lexGo (digs u neg) 0 = ([⟨2, [], u, neg && decide (u ≠ 0), 0⟩], none) := by
  obtain ⟨c, r, e, h1, h2, h3, h4, h5⟩ := digs_head u neg
  obtain ⟨p1, _⟩ := digs_parts u neg
  obtain ⟨p3, p4⟩ := digs_numS u neg
  have hlen : 0 < (digs u neg).length := by rw [e]; simp
  have hz : numTk (digs u neg) = (⟨2, [], u, isNeg (digs u neg), 0⟩, numB (digs u neg)) := numTk_ok (u := u) (by rw [p3]; exact parseB_dec hu) (by
      rintro ⟨q1, q2⟩
      rw [p1] at q1
      exact h ⟨by cases neg; simp at q1; rfl, q2⟩) (by
      rw [p4, List.take_length, p1]
      unfold digs
      cases neg <;> simp)
  rw [p1, p4] at hz
  have hn : nxtT (digs u neg) = (⟨2, [], u, neg && decide (u ≠ 0), 0⟩, (digs u neg).length) := by
    have hw : wordT (digs u neg) = zeroT := by rw [e]; simp [wordT, h2, zeroT]
    unfold nxtT
    rw [hw, if_neg (by decide), hz, if_pos hlen]
  have := lexGo_one e h1 (by rw [e]; exact isRem_ne h3) hn rfl
  exact this
end Go.Proofs.YthoncmadikifnaaDoor.X
