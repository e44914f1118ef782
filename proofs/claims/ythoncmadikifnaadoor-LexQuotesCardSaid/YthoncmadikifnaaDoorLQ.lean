/- The tokens of a text, in plain Lean: steps; what is passed over. No condition. -/
import Derived.Test.YthoncmadikifnaaDoorLB
set_option linter.unusedVariables false
namespace Go.Proofs.YthoncmadikifnaaDoor.X
open Go
theorem lexGo_nil (p : Nat) : lexGo [] p = ([], none) := by rw [lexGo]
theorem lexGo_bl {c : UInt8} {r : List UInt8} {p : Nat} (h : isBl c = true) : lexGo (c :: r) p = lexGo r (p + 1) := by rw [lexGo, if_pos h]
theorem spn_rem {r : List UInt8} (h : isRem r = true) : 2 ≤ spn noNl r := by
  unfold isRem Lib.hasPrefix at h
  match r, h with
  | [], h => simp at h
  | [c], h => simp [List.isPrefixOf] at h
  | c :: d :: r, h =>
    simp [List.isPrefixOf] at h
    obtain ⟨rfl, rfl⟩ := h
    have e1 : noNl 47 = true := by decide
    simp [spn, e1]
theorem lexGo_rem {c : UInt8} {r : List UInt8} {p : Nat} (h : isBl c = false) (h2 : isRem (c :: r) = true) : lexGo (c :: r) p = lexGo ((c :: r).drop (spn noNl (c :: r))) (p + spn noNl (c :: r)) := by
  have := spn_rem h2
  rw [lexGo, if_neg (by simp [h]), if_pos h2, show spn noNl (c :: r) - 1 + 1 = spn noNl (c :: r) by omega]
theorem lexGo_no {c : UInt8} {r : List UInt8} {p : Nat} (h : isBl c = false) (h2 : isRem (c :: r) = false) (h3 : (nxtT (c :: r)).2 = 0) : lexGo (c :: r) p = ([], some p) := by
  rw [lexGo, if_neg (by simp [h]), if_neg (by simp [h2]), if_pos h3]
def Tk.at (t : Tk) (p : Nat) : Tk := ⟨t.k, t.s, t.n, t.neg, p⟩
theorem lexGo_tok {c : UInt8} {r : List UInt8} {p : Nat} (h : isBl c = false) (h2 : isRem (c :: r) = false) (h3 : (nxtT (c :: r)).2 ≠ 0) :
    lexGo (c :: r) p = ((nxtT (c :: r)).1.at p :: (lexGo ((c :: r).drop (nxtT (c :: r)).2) (p + (nxtT (c :: r)).2)).1, (lexGo ((c :: r).drop (nxtT (c :: r)).2) (p + (nxtT (c :: r)).2)).2) := by
  rw [lexGo, if_neg (by simp [h]), if_neg (by simp [h2]), if_neg h3, show (nxtT (c :: r)).2 - 1 + 1 = (nxtT (c :: r)).2 by omega]
  rfl
theorem numB_le (s : List UInt8) : numB s ≤ s.length := by
  have h1 := unsg_le s
  have h2 := spn_le isDig (unsg s)
  unfold numB; omega
theorem txtGo_le : ∀ (n : Nat) (l out : List UInt8) (p : Nat) (o : List UInt8) (k : Nat), l.length ≤ n → txtGo l out p = some (o, k) → p < k ∧ k ≤ p + l.length
  | n, [], out, p, o, k, _, h => by simp [txtGo] at h
  | 0, c :: r, out, p, o, k, hn, h => by simp at hn
  | n + 1, c :: r, out, p, o, k, hn, h => by
    by_cases hc : c = 39
    · subst hc
      match r, h, hn with
      | [], h, _ => simp [txtGo] at h; obtain ⟨_, rfl⟩ := h; simp
      | d :: r', h, hn =>
        by_cases hd : d = 39
        · subst hd
          rw [txt_two] at h
          have := txtGo_le n r' _ _ o k (by simp at hn; omega) h
          simp; omega
        · rw [txt_end (fun r e => hd (by cases e; rfl))] at h
          simp at h; obtain ⟨_, rfl⟩ := h; simp
    · rw [txtGo_ne hc] at h
      have := txtGo_le n r _ _ o k (by simp at hn; omega) h
      simp; omega
theorem nxt_le (s : List UInt8) : (nxtT s).2 ≤ s.length := by
  unfold nxtT
  split
  · exact wordN_le s
  · split
    · unfold numTk
      cases e : numT s with
      | none => exact Nat.zero_le _
      | some x =>
        have : x.2.2 = numB s := by
          unfold numT at e
          split at e
          · split at e
            · cases e
            · cases e; rfl
          · cases e
        show x.2.2 ≤ _
        rw [this]; exact numB_le s
    · split
      · unfold txtTk
        cases e : txtT s with
        | none => exact Nat.zero_le _
        | some x =>
          obtain ⟨o, k⟩ := x
          cases s with
          | nil => cases e
          | cons c r =>
            unfold txtT at e
            simp only at e
            split at e
            · have := txtGo_le r.length r _ _ o k (Nat.le_refl _) e
              show k ≤ _
              simp; omega
            · cases e
      · cases s with
        | nil => exact Nat.le_refl _
        | cons c r =>
          unfold markT
          simp only
          split
          · simp
          · exact Nat.zero_le _
/-- how many bytes are passed over -/
def skp (r : List UInt8) : Nat :=
  match r with
  | [] => 0
  | c :: r' => if isBl c then skp r' + 1 else if isRem (c :: r') then skp ((c :: r').drop (spn noNl (c :: r') - 1 + 1)) + spn noNl (c :: r') else 0
termination_by r.length
decreasing_by all_goals simp <;> omega
theorem skp_nil : skp [] = 0 := by rw [skp]
theorem skp_bl {c : UInt8} {r : List UInt8} (h : isBl c = true) : skp (c :: r) = skp r + 1 := by rw [skp, if_pos h]
theorem skp_rem {c : UInt8} {r : List UInt8} (h : isBl c = false) (h2 : isRem (c :: r) = true) : skp (c :: r) = skp ((c :: r).drop (spn noNl (c :: r))) + spn noNl (c :: r) := by
  have := spn_rem h2
  rw [skp, if_neg (by simp [h]), if_pos h2, show spn noNl (c :: r) - 1 + 1 = spn noNl (c :: r) by omega]
theorem skp_no {c : UInt8} {r : List UInt8} (h : isBl c = false) (h2 : isRem (c :: r) = false) : skp (c :: r) = 0 := by
  rw [skp, if_neg (by simp [h]), if_neg (by simp [h2])]
theorem skp_all : ∀ (n : Nat) (r : List UInt8), r.length ≤ n → skp r ≤ r.length ∧ (∀ p, lexGo r p = lexGo (r.drop (skp r)) (p + skp r)) ∧ skp (r.drop (skp r)) = 0
  | n, [], _ => by simp [skp_nil]
  | 0, c :: r, hn => by simp at hn
  | n + 1, c :: r, hn => by
    by_cases h : isBl c = true
    · obtain ⟨h1, h2, h3⟩ := skp_all n r (by simp at hn; omega)
      rw [skp_bl h]
      refine ⟨by simp; omega, fun p => ?_, by simpa using h3⟩
      rw [lexGo_bl h, h2, List.drop_succ_cons]; congr 1; omega
    · have h' : isBl c = false := by simpa using h
      by_cases hr : isRem (c :: r) = true
      · have h2 := spn_rem hr
        have h3 := spn_le noNl (c :: r)
        obtain ⟨q1, q2, q3⟩ := skp_all n ((c :: r).drop (spn noNl (c :: r))) (by rw [List.length_drop]; simp at hn ⊢; omega)
        rw [skp_rem h' hr]
        rw [List.drop_drop] at q3
        refine ⟨by rw [List.length_drop] at q1; omega, fun p => ?_, by rw [Nat.add_comm]; exact q3⟩
        rw [lexGo_rem h' hr, q2, List.drop_drop]
        congr 1
        · congr 1; omega
        · omega
      · have hr' : isRem (c :: r) = false := by simpa using hr
        rw [skp_no h' hr']
        exact ⟨Nat.zero_le _, fun p => rfl, by rw [List.drop_zero]; exact skp_no h' hr'⟩
theorem skp_zero {c : UInt8} {r : List UInt8} (h : skp (c :: r) = 0) : isBl c = false ∧ isRem (c :: r) = false := by
  by_cases h1 : isBl c = true
  · rw [skp_bl h1] at h; omega
  · have h1' : isBl c = false := by simpa using h1
    by_cases h2 : isRem (c :: r) = true
    · rw [skp_rem h1' h2] at h; have := spn_rem h2; omega
    · exact ⟨h1', by simpa using h2⟩
/-- All's answer -/
def allV (s : List UInt8) (most : Int) : AV :=
  if most < (s.length : Int) then .tup [.sl [], .int .i64 0, .int .i64 3]
  else match lexGo s 0 with
    | (ts, none) => .tup [.sl ((ts ++ [(⟨0, [], 0, false, s.length⟩ : Tk)]).map Tk.av), .int .i64 s.length, .int .i64 0]
    | (_, some p) => .tup [.sl [], .int .i64 p, .int .i64 2]
theorem allV_long {s : List UInt8} {most : Int} (h : most < (s.length : Int)) : allV s most = .tup [.sl [], .int .i64 0, .int .i64 3] := if_pos h
theorem allV_ok {s : List UInt8} {most : Int} {ts : List Tk} (h : ¬ most < (s.length : Int)) (e : lexGo s 0 = (ts, none)) : allV s most = .tup [.sl ((ts ++ [(⟨0, [], 0, false, s.length⟩ : Tk)]).map Tk.av), .int .i64 s.length, .int .i64 0] := by
  unfold allV; rw [if_neg h, e]
theorem allV_bad {s : List UInt8} {most : Int} {ts : List Tk} {p : Nat} (h : ¬ most < (s.length : Int)) (e : lexGo s 0 = (ts, some p)) : allV s most = .tup [.sl [], .int .i64 p, .int .i64 2] := by
  unfold allV; rw [if_neg h, e]
end Go.Proofs.YthoncmadikifnaaDoor.X
