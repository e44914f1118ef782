/- Texts with a line's end between: their tokens, in plain Lean. No condition. -/
import Derived.Test.YthoncmadikifnaaDoorLE
set_option linter.unusedVariables false
namespace Go.Proofs.YthoncmadikifnaaDoor.X
open Go
theorem spn_app (p : UInt8 → Bool) (h10 : p 10 = false) (t : List UInt8) : ∀ r, spn p (r ++ 10 :: t) = spn p r
  | [] => by simp [spn, h10]
  | c :: r => by simp only [List.cons_append, spn, spn_app p h10 t r]
theorem isRem_app {c : UInt8} {r t : List UInt8} : isRem (c :: r ++ 10 :: t) = isRem (c :: r) := by
  unfold isRem Lib.hasPrefix
  cases r <;> simp [List.isPrefixOf]
theorem isNeg_app {c : UInt8} {r t : List UInt8} : isNeg (c :: r ++ 10 :: t) = isNeg (c :: r) := by
  unfold isNeg Lib.hasPrefix; simp [List.isPrefixOf]
theorem unsg_app {c : UInt8} {r t : List UInt8} : unsg (c :: r ++ 10 :: t) = unsg (c :: r) ++ 10 :: t := by
  have e := isNeg_app (c := c) (r := r) (t := t)
  unfold isNeg at e
  unfold unsg Lib.trimPrefix
  rw [e]
  split <;> simp
theorem numTk_app {c : UInt8} {r t : List UInt8} : numTk (c :: r ++ 10 :: t) = numTk (c :: r) := by
  have hs : spn isDig (unsg (c :: r ++ 10 :: t)) = spn isDig (unsg (c :: r)) := by rw [unsg_app, spn_app isDig (by decide)]
  have hl := spn_le isDig (unsg (c :: r))
  have hu := unsg_le (c :: r)
  have h1 : numS (c :: r ++ 10 :: t) = numS (c :: r) := by
    unfold numS; rw [hs, unsg_app, List.take_append_of_le_length hl]
  have h2 : numB (c :: r ++ 10 :: t) = numB (c :: r) := by
    unfold numB; rw [hs, unsg_app]; simp only [List.length_append]; omega
  have h3 : (c :: r ++ 10 :: t).take (numB (c :: r)) = (c :: r).take (numB (c :: r)) := List.take_append_of_le_length (numB_le _)
  unfold numS at h1
  unfold numTk numT
  rw [h1, isNeg_app, h2, h3]
theorem wordT_app {c : UInt8} {r t : List UInt8} : wordT (c :: r ++ 10 :: t) = wordT (c :: r) := by
  have hs : spn isWd (c :: (r ++ 10 :: t)) = spn isWd (c :: r) := spn_app isWd (by decide) t (c :: r)
  have hl := spn_le isWd (c :: r)
  have h3 : (c :: (r ++ 10 :: t)).take (spn isWd (c :: r)) = (c :: r).take (spn isWd (c :: r)) := List.take_append_of_le_length (l₁ := c :: r) hl
  simp only [List.cons_append, wordT, hs, h3]
theorem txtGo_app (t : List UInt8) : ∀ (n : Nat) (l out : List UInt8) (p : Nat) (x : List UInt8 × Nat), l.length ≤ n → txtGo l out p = some x → txtGo (l ++ 10 :: t) out p = some x
  | n, [], out, p, x, _, h => by simp [txtGo] at h
  | 0, c :: r, out, p, x, hn, _ => by simp at hn
  | n + 1, c :: r, out, p, x, hn, h => by
    by_cases hc : c = 39
    · subst hc
      match r, h, hn with
      | [], h, _ =>
        rw [txt_end (fun r e => by cases e)] at h
        rw [← h]
        exact txt_end (l := 10 :: t) (fun r e => by cases e)
      | d :: r', h, hn =>
        by_cases hd : d = 39
        · subst hd
          rw [txt_two] at h
          show txtGo (39 :: 39 :: (r' ++ 10 :: t)) out p = some x
          rw [txt_two]
          exact txtGo_app t n r' _ _ x (by simp at hn; omega) h
        · rw [txt_end (fun r e => hd (by cases e; rfl))] at h
          rw [← h]
          exact txt_end (l := d :: (r' ++ 10 :: t)) (fun r e => hd (by cases e; rfl))
    · rw [txtGo_ne hc] at h
      show txtGo (c :: (r ++ 10 :: t)) out p = some x
      rw [txtGo_ne hc]
      exact txtGo_app t n r _ _ x (by simp at hn; omega) h
theorem markT_ne {c : UInt8} {r : List UInt8} (h : 0 < (markT (c :: r)).2) : isMark c = true := by
  unfold markT at h
  simp only at h
  split at h
  · assumption
  · cases h
theorem nxtT_app {c : UInt8} {r t : List UInt8} (h : (nxtT (c :: r)).2 ≠ 0) : nxtT (c :: r ++ 10 :: t) = nxtT (c :: r) := by
  have hw := wordT_app (c := c) (r := r) (t := t)
  have hn := numTk_app (c := c) (r := r) (t := t)
  have hm : markT (c :: r ++ 10 :: t) = markT (c :: r) := rfl
  unfold nxtT at h ⊢
  rw [hw, hn, hm]
  split
  · rfl
  · rename_i h1
    rw [if_neg h1] at h
    split
    · rfl
    · rename_i h2
      rw [if_neg h2] at h
      cases ex : txtT (c :: r) with
      | some x =>
        have e2 : txtT (c :: r ++ 10 :: t) = some x := by
          unfold txtT at ex ⊢
          simp only [List.cons_append] at ex ⊢
          split at ex
          · rename_i hc
            rw [if_pos hc]
            exact txtGo_app t r.length r _ _ x (Nat.le_refl _) ex
          · cases ex
        rw [show txtTk (c :: r ++ 10 :: t) = txtTk (c :: r) by unfold txtTk; rw [e2, ex]]
      | none =>
        have e0 : txtTk (c :: r) = zeroT := txtTk_none ex
        rw [e0] at h ⊢
        have hmk := markT_ne (c := c) (r := r) (by
          have : ¬ 0 < zeroT.2 := by decide
          rw [if_neg this] at h; omega)
        have hc : c ≠ 39 := fun e => by subst e; revert hmk; decide
        have e2 : txtTk (c :: r ++ 10 :: t) = zeroT := txtTk_none (txtT_not hc)
        rw [e2]
/-- the rest behind a line's end is read by itself -/
theorem lexGo_app (t : List UInt8) : ∀ (n : Nat) (r : List UInt8) (p : Nat) (ts : List Tk), r.length ≤ n → lexGo r p = (ts, none) → lexGo (r ++ 10 :: t) p = (ts ++ (lexGo t (p + r.length + 1)).1, (lexGo t (p + r.length + 1)).2)
  | n, [], p, ts, _, h => by
    rw [lexGo_nil] at h; cases h
    show lexGo (10 :: t) p = _
    rw [lexGo_bl (by decide)]; rfl
  | 0, c :: r, p, ts, hn, _ => by simp at hn
  | n + 1, c :: r, p, ts, hn, h => by
    by_cases hb : isBl c = true
    · rw [lexGo_bl hb] at h
      show lexGo (c :: (r ++ 10 :: t)) p = _
      rw [lexGo_bl hb, lexGo_app t n r (p + 1) ts (by simp at hn; omega) h]
      have e : p + 1 + r.length + 1 = p + (c :: r).length + 1 := by simp; omega
      rw [e]
    · have hb' : isBl c = false := by simpa using hb
      by_cases hr : isRem (c :: r) = true
      · have hsp := spn_rem hr
        have hsl := spn_le noNl (c :: r)
        rw [lexGo_rem hb' hr] at h
        have hs : spn noNl (c :: (r ++ 10 :: t)) = spn noNl (c :: r) := spn_app noNl (by decide) t (c :: r)
        have hr2 : isRem (c :: (r ++ 10 :: t)) = true := (isRem_app (c := c) (r := r) (t := t)).trans hr
        show lexGo (c :: (r ++ 10 :: t)) p = _
        rw [lexGo_rem hb' hr2, hs]
        have hd : (c :: (r ++ 10 :: t)).drop (spn noNl (c :: r)) = (c :: r).drop (spn noNl (c :: r)) ++ 10 :: t := List.drop_append_of_le_length (l₁ := c :: r) hsl
        rw [hd, lexGo_app t n _ _ ts (by rw [List.length_drop]; simp at hn ⊢; omega) h, List.length_drop]
        have e : p + spn noNl (c :: r) + ((c :: r).length - spn noNl (c :: r)) + 1 = p + (c :: r).length + 1 := by omega
        rw [e]
      · have hr' : isRem (c :: r) = false := by simpa using hr
        have hr2 : isRem (c :: (r ++ 10 :: t)) = false := (isRem_app (c := c) (r := r) (t := t)).trans hr'
        by_cases hk : (nxtT (c :: r)).2 = 0
        · rw [lexGo_no hb' hr' hk] at h; cases h
        · have hn2 : nxtT (c :: (r ++ 10 :: t)) = nxtT (c :: r) := nxtT_app hk
          have hsl := nxt_le (c :: r)
          rw [lexGo_tok hb' hr' hk] at h
          obtain ⟨h1, h2⟩ := Prod.mk.inj h
          show lexGo (c :: (r ++ 10 :: t)) p = _
          rw [lexGo_tok hb' hr2 (by rw [hn2]; exact hk), hn2]
          have hd : (c :: (r ++ 10 :: t)).drop (nxtT (c :: r)).2 = (c :: r).drop (nxtT (c :: r)).2 ++ 10 :: t := List.drop_append_of_le_length (l₁ := c :: r) hsl
          have e : p + (nxtT (c :: r)).2 + ((c :: r).length - (nxtT (c :: r)).2) + 1 = p + (c :: r).length + 1 := by omega
          rw [hd, lexGo_app t n _ _ (lexGo ((c :: r).drop (nxtT (c :: r)).2) (p + (nxtT (c :: r)).2)).1 (by rw [List.length_drop]; simp at hn ⊢; omega) (by rw [← h2]), List.length_drop, e, ← h1]
          rfl
def Tk.sh (d : Nat) (t : Tk) : Tk := ⟨t.k, t.s, t.n, t.neg, t.pos + d⟩
theorem lexGo_sh (d : Nat) : ∀ (n : Nat) (r : List UInt8) (p : Nat), r.length ≤ n → lexGo r (p + d) = ((lexGo r p).1.map (Tk.sh d), (lexGo r p).2.map (· + d))
  | n, [], p, _ => by simp [lexGo_nil]
  | 0, c :: r, p, hn => by simp at hn
  | n + 1, c :: r, p, hn => by
    by_cases hb : isBl c = true
    · rw [lexGo_bl hb, lexGo_bl hb, show p + d + 1 = p + 1 + d by omega]
      exact lexGo_sh d n r (p + 1) (by simp at hn; omega)
    · have hb' : isBl c = false := by simpa using hb
      by_cases hr : isRem (c :: r) = true
      · have hsp := spn_rem hr
        rw [lexGo_rem hb' hr, lexGo_rem hb' hr, show p + d + spn noNl (c :: r) = p + spn noNl (c :: r) + d by omega]
        exact lexGo_sh d n _ _ (by rw [List.length_drop]; simp at hn ⊢; omega)
      · have hr' : isRem (c :: r) = false := by simpa using hr
        by_cases hk : (nxtT (c :: r)).2 = 0
        · rw [lexGo_no hb' hr' hk, lexGo_no hb' hr' hk]; rfl
        · rw [lexGo_tok hb' hr' hk, lexGo_tok hb' hr' hk, show p + d + (nxtT (c :: r)).2 = p + (nxtT (c :: r)).2 + d by omega,
            lexGo_sh d n _ (p + (nxtT (c :: r)).2) (by rw [List.length_drop]; simp at hn ⊢; omega)]
          rfl
def mid (line : Bool) : List UInt8 := if line then [47, 47, 10] else [32]
theorem lexGo_mid (line : Bool) (b : List UInt8) (p : Nat) : lexGo (mid line ++ b) p = lexGo b (p + (mid line).length) := by
  cases line
  · show lexGo (32 :: b) p = lexGo b (p + 1)
    rw [lexGo_bl (by decide)]
  · show lexGo (47 :: 47 :: 10 :: b) p = lexGo b (p + 3)
    have h : isRem (47 :: 47 :: 10 :: b) = true := by unfold isRem Lib.hasPrefix; simp [List.isPrefixOf]
    have hs : spn noNl (47 :: 47 :: 10 :: b) = 2 := by
      have e1 : noNl 47 = true := by decide
      have e2 : noNl 10 = false := by decide
      simp [spn, e1, e2]
    rw [lexGo_rem (by decide) h, hs]
    show lexGo (10 :: b) (p + 2) = _
    rw [lexGo_bl (by decide)]
/-- THE JOIN -/
theorem lexGo_join {a b : List UInt8} {line : Bool} {ta : List Tk} (h : lexGo a 0 = (ta, none)) :
    lexGo (a ++ 10 :: (mid line ++ b)) 0 = (ta ++ (lexGo b 0).1.map (Tk.sh (a.length + 1 + (mid line).length)), (lexGo b 0).2.map (· + (a.length + 1 + (mid line).length))) := by
  rw [lexGo_app _ a.length a 0 ta (Nat.le_refl _) h, lexGo_mid, show 0 + a.length + 1 + (mid line).length = 0 + (a.length + 1 + (mid line).length) by omega, lexGo_sh _ b.length b 0 (Nat.le_refl _)]
end Go.Proofs.YthoncmadikifnaaDoor.X
