/- The program logic's rule for a region that draws its order: the text's order serves every order, where operations that are in each other's way are ordered. No condition. -/
import Derived.Test.YthoncmadikifnaaDoorXA
set_option linter.unusedVariables false
set_option linter.unusedSimpArgs false
namespace Go.Proofs.YthoncmadikifnaaDoor.X
open Go Go.RowKit

/-- An operation with its guard. -/
def StepOK (P : Program) (N : Nat) (ops : Array Oper) (o : Oper) (s : St) (R : List Comp) (ws : St) : Prop :=
  ∀ t, Reads R s t → ∀ E G L a w, Rel E N G L a w t → ∀ (K : Act → World → Prop) (Q : Exit → Act → World → Prop),
    (∀ a' w' G' L', Rel E N G' L' a' w' (ws ++ t) → K a' w') → if Region.wanted o (yielded ops a.tmps) then o.wp P a w K Q else K (a.put o.dst undef) w
section
variable {P : Program} {N : Nat} {ops : Array Oper} {s : St}
theorem StepOK.free {o : Oper} {R : List Comp} {ws : St} (hg : o.guard = none) (h : OpOK P N o s R ws) : StepOK P N ops o s R ws := by
  intro t hR E G L a w hr K Q hK
  rw [if_pos (by simp [Region.wanted, hg])]
  exact h t hR E G L a w hr K Q fun v w' G' L' hr' => hK _ _ G' L' hr'
theorem StepOK.on {o : Oper} {R : List Comp} {ws : St} {d : Nat} {b : Bool} (hN : d < N) (hg : gslot ops o = some (d, b)) (hc : get s (.s d) = some (.sv (.v (.bool b)))) (h : OpOK P N o s R ws) : StepOK P N ops o s (.s d :: R) ws := by
  intro t hR E G L a w hr K Q hK
  rw [wanted_of hr hN hg (by rw [hR (.s d) (List.mem_cons_self ..)]; exact hc), beq_self_eq_true, if_pos rfl]
  exact h t (hR.mono fun c hc => List.mem_cons_of_mem _ hc) E G L a w hr K Q fun v w' G' L' hr' => hK _ _ G' L' hr'
theorem StepOK.off {o : Oper} {d : Nat} {b : Bool} (hN : d < N) (hg : gslot ops o = some (d, b)) (hc : get s (.s d) = some (.sv (.v (.bool (!b))))) : StepOK P N ops o s [.s d] (match o.dst with | some d => [(.s d, .gone)] | none => []) := by
  intro t hR E G L a w hr K Q hK
  rw [wanted_of hr hN hg (by rw [hR (.s d) (List.mem_cons_self ..)]; exact hc), if_neg (by cases b <;> simp)]
  refine hK _ _ G L ?_
  have := hr.drop o.dst undef
  cases hd : o.dst with
  | none => rw [hd] at this; exact this
  | some d' => rw [hd] at this; exact this
inductive Chain (P : Program) (N : Nat) (ops : Array Oper) : List Oper → St → List (List Comp × St) → St → Prop where
  | nil (s : St) : Chain P N ops [] s [] s
  | cons {o : Oper} {l : List Oper} {s : St} {R : List Comp} {ws : St} {rs : List (List Comp × St)} {s' : St} : StepOK P N ops o s R ws → Chain P N ops l (ws ++ s) rs s' → Chain P N ops (o :: l) s ((R, ws) :: rs) s'
end

/-! ### The state behind some of the operations -/
def stS (f : Nat → Bool) : Nat → List (List Comp × St) → St → St
  | _, [], s => s
  | k, r :: rs, s => stS f (k + 1) rs (if f k then r.2 ++ s else s)
theorem stS_get (f : Nat → Bool) (c : Comp) : ∀ (rs : List (List Comp × St)) (k : Nat) (s s' : St), get s c = get s' c → get (stS f k rs s) c = get (stS f k rs s') c
  | [], k, s, s', h => h
  | r :: rs, k, s, s', h => by
    refine stS_get f c rs (k + 1) _ _ ?_
    split
    · rw [get_append, get_append, h]
    · exact h
theorem stS_agree (c : Comp) : ∀ (rs : List (List Comp × St)) (k : Nat) (f g : Nat → Bool) (s s' : St), get s c = get s' c → (∀ (i : Nat) r, rs[i]? = some r → get r.2 c ≠ none → f (k + i) = g (k + i)) → get (stS f k rs s) c = get (stS g k rs s') c
  | [], k, f, g, s, s', h, _ => h
  | r :: rs, k, f, g, s, s', h, hfg => by
    refine stS_agree c rs (k + 1) f g _ _ ?_ (fun i r' hi hne => by
      have := hfg (i + 1) r' (by simpa using hi) hne
      rwa [show k + (i + 1) = k + 1 + i by omega] at this)
    by_cases hw : get r.2 c = none
    · have e : ∀ u : St, get (r.2 ++ u) c = get u c := fun u => by rw [get_append, hw]
      split <;> split <;> simp [e, h]
    · have := hfg 0 r rfl hw
      simp only [Nat.add_zero] at this
      rw [this]
      split
      · rw [get_append, get_append, h]
      · exact h
/-- Behind the last that writes it. -/
theorem stS_last (c : Comp) : ∀ (rs : List (List Comp × St)) (k : Nat) (f : Nat → Bool) (s : St) (i : Nat) r v, rs[i]? = some r → f (k + i) = true → get r.2 c = some v → (∀ (j : Nat) q, i < j → rs[j]? = some q → f (k + j) = true → get q.2 c = none) → get (stS f k rs s) c = some v
  | [], k, f, s, i, r, v, h, _, _, _ => by simp at h
  | q :: rs, k, f, s, 0, r, v, h, hf, hv, hl => by
    simp at h; subst h
    simp only [Nat.add_zero] at hf
    simp only [stS, hf, if_true]
    have : get (stS f (k + 1) rs (q.2 ++ s)) c = get (stS (fun _ => false) (k + 1) rs (q.2 ++ s)) c := by
      refine stS_agree c rs (k + 1) _ _ _ _ rfl fun j q' hj hne => ?_
      cases e : f (k + 1 + j) with
      | false => rfl
      | true => exact absurd (hl (j + 1) q' (by omega) (by simpa using hj) (by rw [show k + (j + 1) = k + 1 + j by omega]; exact e)) hne
    rw [this]
    have hid : ∀ (rs : List (List Comp × St)) (k : Nat) (u : St), stS (fun _ => false) k rs u = u := by
      intro rs
      induction rs with
      | nil => intro k u; rfl
      | cons q rs ih => intro k u; simp only [stS]; exact ih _ _
    rw [hid, get_append, hv]
  | q :: rs, k, f, s, i + 1, r, v, h, hf, hv, hl => by
    simp only [stS]
    refine stS_last c rs (k + 1) f _ i r v (by simpa using h) (by rw [show k + 1 + i = k + (i + 1) by omega]; exact hf) hv fun j q' hj hq he => ?_
    exact hl (j + 1) q' (by omega) (by simpa using hq) (by rw [show k + (j + 1) = k + 1 + j by omega]; exact he)

/-! ### Which operations must be ordered -/
def cw (r : List Comp × St) : List Comp := r.2.map (·.1)
def meets (a b : List Comp) : Bool := a.any fun x => b.any fun y => decide (x = y)
def conf (r q : List Comp × St) : Bool := meets (cw r) (q.1 ++ cw q) || meets r.1 (cw q)
theorem mem_cw {r : List Comp × St} {c : Comp} (h : get r.2 c ≠ none) : c ∈ cw r := by
  unfold cw
  generalize r.2 = s at h
  induction s with
  | nil => exact absurd rfl h
  | cons x s ih =>
    obtain ⟨d, v⟩ := x
    simp only [get] at h
    by_cases e : d = c
    · simp [e]
    · rw [if_neg e] at h
      exact List.mem_cons_of_mem _ (ih h)
theorem meets_of {a b : List Comp} {c : Comp} (ha : c ∈ a) (hb : c ∈ b) : meets a b = true := by
  unfold meets
  exact List.any_eq_true.2 ⟨c, ha, List.any_eq_true.2 ⟨c, hb, by simp⟩⟩
def edges (o : Oper) : List Nat := (o.after.toList.filter (Region.binds .any)).map (·.on)
def ancs : List (List Nat) → List (List Nat) → List (List Nat)
  | acc, [] => acc
  | acc, es :: r => ancs (acc ++ [es ++ es.flatMap fun k => acc.getD k []]) r
theorem ancs_pre : ∀ (E acc : List (List Nat)) (j : Nat) (x : List Nat), acc[j]? = some x → (ancs acc E)[j]? = some x
  | [], acc, j, x, h => h
  | es :: E, acc, j, x, h => ancs_pre E _ j x (by rw [List.getElem?_append_left (List.getElem?_eq_some_iff.1 h).1]; exact h)
theorem ancs_spec : ∀ (E acc : List (List Nat)) (j : Nat) (es : List Nat), E[j]? = some es → ∃ x, (ancs acc E)[acc.length + j]? = some x ∧ ∀ i ∈ x, i ∈ es ∨ ∃ k ∈ es, ∃ y, (ancs acc E)[k]? = some y ∧ k < acc.length + j ∧ i ∈ y
  | [], acc, j, es, h => by simp at h
  | e :: E, acc, 0, es, h => by
    simp at h; subst h
    refine ⟨e ++ e.flatMap fun k => acc.getD k [], ancs_pre E _ _ _ (by simp), fun i hi => ?_⟩
    rcases List.mem_append.1 hi with h1 | h1
    · exact .inl h1
    · obtain ⟨k, hk, hik⟩ := List.mem_flatMap.1 h1
      have hlt : k < acc.length := by
        rcases Nat.lt_or_ge k acc.length with h | h
        · exact h
        · rw [List.getD_eq_getElem?_getD, List.getElem?_eq_none h] at hik; simp at hik
      refine .inr ⟨k, hk, acc.getD k [], ?_, ?_, hik⟩
      · refine ancs_pre E _ k _ ?_
        rw [List.getElem?_append_left hlt, List.getD_eq_getElem?_getD, List.getElem?_eq_getElem hlt]; rfl
      · omega
  | e :: E, acc, j + 1, es, h => by
    obtain ⟨x, h1, h2⟩ := ancs_spec E (acc ++ [e ++ e.flatMap fun k => acc.getD k []]) j es (by simpa using h)
    refine ⟨x, ?_, fun i hi => ?_⟩
    · rw [show acc.length + (j + 1) = (acc ++ [e ++ e.flatMap fun k => acc.getD k []]).length + j by simp; omega]; exact h1
    · rcases h2 i hi with h3 | ⟨k, hk, y, h4, h5, h6⟩
      · exact .inl h3
      · exact .inr ⟨k, hk, y, h4, by simp at h5; omega, h6⟩
/-- For each pair in each other's way: the later waits for the earlier. -/
def ordIn (i : Nat) (r : List Comp × St) : Nat → List (List Comp × St) → List (List Nat) → Bool
  | _, [], _ => true
  | j, q :: rs, A => (!conf r q || (A.getD j []).contains i) && ordIn i r (j + 1) rs A
def ordFrom : Nat → List (List Comp × St) → List (List Nat) → Bool
  | _, [], _ => true
  | i, r :: rs, A => ordIn i r (i + 1) rs A && ordFrom (i + 1) rs A
theorem ordIn_spec {i : Nat} {r : List Comp × St} {A : List (List Nat)} : ∀ {rs : List (List Comp × St)} {k : Nat}, ordIn i r k rs A = true → ∀ (j : Nat) q, rs[j]? = some q → conf r q = true → i ∈ A.getD (k + j) []
  | [], k, h, j, q, hq, hc => by simp at hq
  | q' :: rs, k, h, 0, q, hq, hc => by
    simp at hq; subst hq
    simp only [ordIn, Bool.and_eq_true, hc, Bool.not_true, Bool.false_or] at h
    simpa using h.1
  | q' :: rs, k, h, j + 1, q, hq, hc => by
    simp only [ordIn, Bool.and_eq_true] at h
    have := ordIn_spec h.2 j q (by simpa using hq) hc
    rwa [show k + 1 + j = k + (j + 1) by omega] at this
theorem ord_spec {A : List (List Nat)} : ∀ {rs : List (List Comp × St)} {k : Nat}, ordFrom k rs A = true → ∀ (i j : Nat) r q, i < j → rs[i]? = some r → rs[j]? = some q → conf r q = true → k + i ∈ A.getD (k + j) []
  | [], k, h, i, j, r, q, _, hr, _, _ => by simp at hr
  | r' :: rs, k, h, 0, j, r, q, hij, hr, hq, hc => by
    simp at hr; subst hr
    simp only [ordFrom, Bool.and_eq_true] at h
    obtain ⟨j', rfl⟩ : ∃ j', j = j' + 1 := ⟨j - 1, by omega⟩
    have := ordIn_spec h.1 j' q (by simpa using hq) hc
    rwa [show k + 1 + j' = k + (j' + 1) by omega] at this
  | r' :: rs, k, h, i + 1, j, r, q, hij, hr, hq, hc => by
    simp only [ordFrom, Bool.and_eq_true] at h
    obtain ⟨j', rfl⟩ : ∃ j', j = j' + 1 := ⟨j - 1, by omega⟩
    have := ord_spec h.2 i j' r q (by omega) (by simpa using hr) (by simpa using hq) hc
    rwa [show k + 1 + j' = k + (j' + 1) by omega, show k + 1 + i = k + (i + 1) by omega] at this
def backFrom : Nat → List (List Nat) → Bool
  | _, [] => true
  | k, es :: r => es.all (fun e => decide (e < k)) && backFrom (k + 1) r
theorem back_spec : ∀ {E : List (List Nat)} {k : Nat}, backFrom k E = true → ∀ (j : Nat) es, E[j]? = some es → ∀ e ∈ es, e < k + j
  | [], k, h, j, es, he, _, _ => by simp at he
  | x :: E, k, h, 0, es, he, e, hm => by
    simp at he; subst he
    simp only [backFrom, Bool.and_eq_true] at h
    simpa using List.all_eq_true.1 h.1 e hm
  | x :: E, k, h, j + 1, es, he, e, hm => by
    simp only [backFrom, Bool.and_eq_true] at h
    have := back_spec h.2 j es (by simpa using he) e hm
    omega
section
variable {P : Program} {N : Nat} {ops : Array Oper}
theorem Chain.spec {l : List Oper} {s s' : St} {rs : List (List Comp × St)} (h : Chain P N ops l s rs s') : l.length = rs.length ∧ (∀ (i : Nat) o, l[i]? = some o → ∃ R ws s1, rs[i]? = some (R, ws) ∧ StepOK P N ops o s1 R ws ∧ ∀ (c : Comp) (k : Nat), get s1 c = get (stS (fun j => decide (j < k + i)) k rs s) c) ∧ ∀ (c : Comp) (k : Nat), get s' c = get (stS (fun _ => true) k rs s) c := by
  induction h with
  | nil s => exact ⟨rfl, fun i o h => by simp at h, fun c k => rfl⟩
  | @cons o l s R ws rs s' hs _ ih =>
    obtain ⟨h1, h2, h3⟩ := ih
    refine ⟨by simp [h1], fun i o' hi => ?_, fun c k => ?_⟩
    · cases i with
      | zero =>
        simp at hi; subst hi
        refine ⟨R, ws, s, rfl, hs, fun c k => ?_⟩
        have : get (stS (fun j => decide (j < k + 0)) k ((R, ws) :: rs) s) c = get (stS (fun _ => false) k ((R, ws) :: rs) s) c := by
          refine stS_agree c _ k _ _ _ _ rfl fun i r _ _ => ?_
          simp
        rw [this]
        have hid : ∀ (rs : List (List Comp × St)) (k : Nat) (u : St), stS (fun _ => false) k rs u = u := by
          intro rs
          induction rs with
          | nil => intro k u; rfl
          | cons q rs ih => intro k u; simp only [stS]; exact ih _ _
        rw [hid]
      | succ i =>
        obtain ⟨R', ws', s1, q1, q2, q3⟩ := h2 i o' (by simpa using hi)
        refine ⟨R', ws', s1, by simpa using q1, q2, fun c k => ?_⟩
        rw [q3 c (k + 1)]
        have : decide (k < k + (i + 1)) = true := by simp
        simp only [stS, this, if_true]
        rw [show k + 1 + i = k + (i + 1) by omega]
    · rw [h3 c (k + 1)]
      simp only [stS, if_true]
theorem wpOp_of_step {i : Nat} {o : Oper} (hi : ops[i]? = some o) {K : Act → World → Prop} {Q : Exit → Act → World → Prop} {a : Act} {w : World} (h : if Region.wanted o (yielded ops a.tmps) then o.wp P a w K Q else K (a.put o.dst undef) w) : wpOp P ops Q i K a w := by
  unfold wpOp
  simp only [hi]
  split
  · rename_i hw; rw [if_pos hw] at h; exact .inl h
  · rename_i hw; rw [if_neg hw] at h; exact h
theorem ready_nil {listed : Array Bool} (hsz : listed.size = ops.size) (hb : ∀ i o, ops[i]? = some o → ∀ e ∈ edges o, e < i) (h : Region.ready .any ops listed = []) : ∀ i, i < ops.size → listed.getD i false = true := by
  intro i
  induction i using Nat.strongRecOn with
  | _ i ih =>
    intro hi
    cases hl : listed.getD i false with
    | true => rfl
    | false =>
      exfalso
      have ho : ops[i]? = some ops[i] := Array.getElem?_eq_getElem hi
      have hm : i ∈ Region.ready .any ops listed := by
        unfold Region.ready
        rw [List.mem_filter]
        refine ⟨by simpa using hi, ?_⟩
        have h1 : listed.getD i true = false := by
          rw [Array.getD_eq_getD_getElem?, Array.getElem?_eq_getElem (by omega)] at hl ⊢
          simpa using hl
        simp only [h1, Bool.not_false, Bool.true_and, ho, Option.map_some, Option.getD_some]
        rw [Array.all_eq_true']
        intro e he
        cases hbd : Region.binds .any e with
        | false => rfl
        | true =>
          have hme : e.on ∈ edges ops[i] := by
            unfold edges
            exact List.mem_map.2 ⟨e, List.mem_filter.2 ⟨Array.mem_toList_iff.2 he, hbd⟩, rfl⟩
          have hlt := hb i _ ho e.on hme
          simpa using ih e.on hlt (by omega)
      rw [h] at hm; cases hm
def cnt : List Bool → Nat
  | [] => 0
  | true :: l => cnt l + 1
  | false :: l => cnt l
theorem cnt_le : ∀ l, cnt l ≤ l.length
  | [] => Nat.le_refl _
  | true :: l => by have := cnt_le l; simp only [cnt, List.length_cons]; omega
  | false :: l => by have := cnt_le l; simp only [cnt, List.length_cons]; omega
theorem cnt_lt : ∀ (l : List Bool) (i : Nat), l[i]? = some false → cnt l < l.length
  | [], i, h => by simp at h
  | b :: l, 0, h => by simp at h; subst h; have := cnt_le l; simp only [cnt, List.length_cons]; omega
  | true :: l, i + 1, h => by have := cnt_lt l i (by simpa using h); simp only [cnt, List.length_cons]; omega
  | false :: l, i + 1, h => by have := cnt_lt l i (by simpa using h); simp only [cnt, List.length_cons]; omega
theorem cnt_set : ∀ (l : List Bool) (i : Nat), l[i]? = some false → cnt (l.set i true) = cnt l + 1
  | [], i, h => by simp at h
  | b :: l, 0, h => by simp at h; subst h; simp only [List.set_cons_zero, cnt]
  | true :: l, i + 1, h => by have := cnt_set l i (by simpa using h); simp only [List.set_cons_succ, cnt, this]
  | false :: l, i + 1, h => by have := cnt_set l i (by simpa using h); simp only [List.set_cons_succ, cnt, this]
/-- A REGION THAT DRAWS ITS ORDER. -/
theorem Tri.draw {s s' : St} {id : Nat} {l : List Oper} {rs : List (List Comp × St)} {Q : Exit → St → Prop} (hm : P.follows .mixedOrders = true) (hc : Chain P N l.toArray l s rs s') (hback : backFrom 0 (l.map edges) = true) (hord : ordFrom 0 rs (ancs [] (l.map edges)) = true) (hQ : Kept s' (Q .normal)) :
    Tri P N (.region id l.toArray true) s Q := by
  intro E a w ⟨G, L, hr⟩
  obtain ⟨hlen, hstep, hend⟩ := hc.spec
  have hsize : l.toArray.size = l.length := by simp
  have hop : ∀ (i : Nat) o, l.toArray[i]? = some o → l[i]? = some o := fun i o h => by simpa using h
  have hbk : ∀ i o, l.toArray[i]? = some o → ∀ e ∈ edges o, e < i := fun i o h e he => by
    have := back_spec hback i (edges o) (by simp [hop i o h]) e he
    omega
  refine wp_region_any hm ?_
  have hr0 : Rel E N G L a { w with drawn := w.drawn + 1 } s := by
    obtain ⟨H0, gH, hokH, hmayH⟩ := hr.heap
    have hst := hokH.stay (w' := { w with drawn := w.drawn + 1 }) (Gh.le.refl G) rfl (fun b hb => (hokH.foot hb).2) (fun _ _ => rfl) (Nat.le_refl _)
    refine ⟨hr.size, hr.defs, hr.ge, hr.kn, hr.old, hr.obs, hr.obn, ⟨hr.fr.os, hr.fr.tape, hr.fr.output, hr.fr.size, hr.fr.block⟩, hr.slot, hr.box, hr.tok, hr.disj, ⟨H0, gH, hst.1, fun b hb => hmayH b ((hst.2 b).1 hb)⟩, fun c b hc H2 g2 e2 => ?_, hr.nobox, hr.notok⟩
    rw [gH] at g2; cases g2
    exact hr.hdisj c b hc _ gH ((hst.2 b).1 e2)
  -- whatever has come up: the state behind it
  have key : ∀ (fuel : Nat) (listed : Array Bool) (t : St) (a : Act) (w : World), listed.size = l.length →
      (∀ j o, l[j]? = some o → listed.getD j false = true → ∀ e ∈ edges o, listed.getD e false = true) → (∀ c, get t c = get (stS (fun j => listed.getD j false) 0 rs s) c) → Fits E N t a w →
      (l.length ≤ fuel + cnt listed.toList) → wpAny P .any l.toArray (fun e a' w' => ∃ s', Fits E N s' a' w' ∧ Q e s') fuel listed a w := by
    have fin : ∀ (listed : Array Bool) (t : St) (a : Act) (w : World), listed.size = l.length → (∀ c, get t c = get (stS (fun j => listed.getD j false) 0 rs s) c) → Fits E N t a w → Region.ready .any l.toArray listed = [] → ∃ s', Fits E N s' a w ∧ Q .normal s' := by
      intro listed t a w hsz ht ⟨G, L, hr⟩ hnil
      have hall := ready_nil (by rw [hsz, hsize]) hbk hnil
      refine hQ E N a w ⟨G, L, hr.ext fun c => ?_⟩
      rw [ht c, hend c 0]
      refine stS_agree c rs 0 _ _ _ _ rfl fun i r hi _ => ?_
      have hlt : i < rs.length := (List.getElem?_eq_some_iff.1 hi).1
      simp only [Nat.zero_add]
      exact (hall i (by rw [hsize]; omega)).symm
    intro fuel
    induction fuel with
    | zero =>
      intro listed t a w hsz hcl ht hf hcount
      have hnil : Region.ready .any l.toArray listed = [] := by
        cases hrd : Region.ready .any l.toArray listed with
        | nil => rfl
        | cons i r =>
          exfalso
          have hi : i ∈ Region.ready .any l.toArray listed := by rw [hrd]; exact List.mem_cons_self ..
          unfold Region.ready at hi
          rw [List.mem_filter] at hi
          have h1 : listed.getD i true = false := by
            have := hi.2
            simp only [Bool.and_eq_true, Bool.not_eq_true'] at this
            exact this.1
          have hlt : i < listed.size := by
            rcases Nat.lt_or_ge i listed.size with h | h
            · exact h
            · rw [Array.getD_eq_getD_getElem?, Array.getElem?_eq_none h] at h1; cases h1
          have h2 : listed[i] = false := by
            rw [Array.getD_eq_getD_getElem?, Array.getElem?_eq_getElem hlt] at h1; simpa using h1
          have h3 := cnt_lt listed.toList i (by rw [Array.getElem?_toList, Array.getElem?_eq_getElem hlt, h2])
          have h4 : listed.toList.length = listed.size := Array.length_toList
          omega
      exact ⟨hnil, fin listed t a w hsz ht hf hnil⟩
    | succ fuel ih =>
      intro listed t a w hsz hcl ht ⟨G, L, hr⟩ hcount
      refine ⟨fun hnil => fin listed t a w hsz ht ⟨G, L, hr⟩ hnil, fun i hi => ?_⟩
      unfold Region.ready at hi
      rw [List.mem_filter] at hi
      obtain ⟨hi1, hi2⟩ := hi
      simp only [Bool.and_eq_true, Bool.not_eq_true'] at hi2
      have hlt : i < l.length := by simpa using hi1
      have hlt' : i < listed.size := by omega
      have hli : listed[i] = false := by
        have := hi2.1
        rw [Array.getD_eq_getD_getElem?, Array.getElem?_eq_getElem hlt'] at this; simpa using this
      have hlif : listed.getD i false = false := by rw [Array.getD_eq_getD_getElem?, Array.getElem?_eq_getElem hlt']; simpa using hli
      have ho : l[i]? = some l[i] := List.getElem?_eq_getElem hlt
      obtain ⟨R, ws, s1, q1, q2, q3⟩ := hstep i l[i] ho
      -- what it waits for has come up
      have hedge : ∀ e ∈ edges l[i], listed.getD e false = true := by
        intro e he
        have h2 := hi2.2
        simp only [List.getElem?_toArray, ho, Option.map_some, Option.getD_some] at h2
        rw [Array.all_eq_true'] at h2
        unfold edges at he
        obtain ⟨x, hx, rfl⟩ := List.mem_map.1 he
        obtain ⟨hx1, hx2⟩ := List.mem_filter.1 hx
        have := h2 x (Array.mem_toList_iff.1 hx1)
        simpa [hx2] using this
      -- closed under what is waited for
      have hanc : ∀ (j : Nat), (j = i ∨ listed.getD j false = true) → j < l.length → ∀ k ∈ (ancs [] (l.map edges)).getD j [], listed.getD k false = true := by
        intro j
        induction j using Nat.strongRecOn with
        | _ j ihj =>
          intro hj hjl k hk
          have hoj : l[j]? = some l[j] := List.getElem?_eq_getElem hjl
          obtain ⟨x, hx1, hx2⟩ := ancs_spec (l.map edges) [] j (edges l[j]) (by simp [hjl])
          simp only [List.length_nil, Nat.zero_add] at hx1 hx2
          have hk' : k ∈ x := by rw [List.getD_eq_getElem?_getD, hx1] at hk; exact hk
          have hej : ∀ e ∈ edges l[j], listed.getD e false = true := by
            rcases hj with rfl | hj
            · exact hedge
            · exact hcl j l[j] hoj hj
          rcases hx2 k hk' with h | ⟨m, hm1, y, hy, hmlt, hky⟩
          · exact hej k h
          · refine ihj m hmlt (.inr (hej m hm1)) (by omega) k ?_
            rw [List.getD_eq_getElem?_getD, hy]; exact hky
      have hrlt : ∀ (j : Nat) q, rs[j]? = some q → j < l.length := fun j q h => by have := (List.getElem?_eq_some_iff.1 h).1; omega
      have hreads : Reads R s1 t := by
        intro c hc
        rw [ht c, q3 c 0]
        refine stS_agree c rs 0 _ _ _ _ rfl fun j q hj hne => ?_
        simp only [Nat.zero_add]
        have hwc := mem_cw hne
        by_cases hji : j < i
        · have hcf : conf q (R, ws) = true := by
            simp only [conf, Bool.or_eq_true]
            exact .inl (meets_of hwc (List.mem_append.2 (.inl hc)))
          have hmem := ord_spec hord j i q (R, ws) hji hj q1 hcf
          simp only [Nat.zero_add] at hmem
          rw [hanc i (.inl rfl) hlt j hmem]
          simp [hji]
        · by_cases hje : j = i
          · subst hje
            rw [hlif]; simp
          · have hcf : conf (R, ws) q = true := by
              simp only [conf, Bool.or_eq_true]
              exact .inr (meets_of hc hwc)
            cases hlj : listed.getD j false with
            | false => simp [hji]
            | true =>
              exfalso
              have hmem := ord_spec hord i j (R, ws) q (by omega) q1 hj hcf
              simp only [Nat.zero_add] at hmem
              have := hanc j (.inr hlj) (hrlt j q hj) i hmem
              rw [hlif] at this; cases this
      refine wpOp_of_step (by simp [ho]) (q2 t hreads E G L a w hr _ _ fun a' w' G' L' hr' => ?_)
      have hset : ∀ j, (listed.setIfInBounds i true).getD j false = if j = i then true else listed.getD j false := by
        intro j
        rw [Array.getD_eq_getD_getElem?, Array.getD_eq_getD_getElem?]
        by_cases hj : j = i
        · subst hj
          rw [Array.getElem?_setIfInBounds_self_of_lt hlt']; simp
        · rw [Array.getElem?_setIfInBounds_ne (Ne.symm hj), if_neg hj]
      refine ih (listed.setIfInBounds i true) (ws ++ t) a' w' (by simpa using hsz) ?_ ?_ ⟨G', L', hr'⟩ ?_
      · intro j o hj hlj e he
        rw [hset] at hlj ⊢
        split
        · rfl
        · by_cases hji : j = i
          · subst hji
            rw [ho] at hj; cases hj
            exact hedge e he
          · rw [if_neg hji] at hlj
            exact hcl j o hj hlj e he
      · intro c
        have hf : (fun j => (listed.setIfInBounds i true).getD j false) = fun j => if j = i then true else listed.getD j false := funext hset
        rw [hf, get_append]
        cases hw : get ws c with
        | none =>
          simp only
          rw [ht c]
          refine stS_agree c rs 0 _ _ _ _ rfl fun j q hj hne => ?_
          simp only [Nat.zero_add]
          by_cases hji : j = i
          · subst hji
            rw [q1] at hj; cases hj
            exact absurd hw hne
          · rw [if_neg hji]
        | some v =>
          simp only
          symm
          refine stS_last c rs 0 _ s i (R, ws) v q1 (by simp) hw fun j q hij hj hfj => ?_
          simp only [Nat.zero_add] at hfj
          rw [if_neg (by omega)] at hfj
          cases hqc : get q.2 c with
          | none => rfl
          | some u =>
            exfalso
            have hwc : c ∈ cw (R, ws) := mem_cw (by rw [hw]; simp)
            have hqw : c ∈ cw q := mem_cw (by rw [hqc]; simp)
            have hcf : conf (R, ws) q = true := by
              simp only [conf, Bool.or_eq_true]
              exact .inl (meets_of hwc (List.mem_append.2 (.inr hqw)))
            have hmem := ord_spec hord i j (R, ws) q hij q1 hj hcf
            simp only [Nat.zero_add] at hmem
            have := hanc j (.inr hfj) (hrlt j q hj) i hmem
            rw [hlif] at this; cases this
      · have e1 : (listed.setIfInBounds i true).toList = listed.toList.set i true := by simp
        have hcnt := cnt_set listed.toList i (by rw [Array.getElem?_toList, Array.getElem?_eq_getElem hlt', hli])
        rw [e1, hcnt]
        omega
  have h0 := key l.length (Array.replicate l.length false) s a { w with drawn := w.drawn + 1 } (by simp) (fun j o hj hlj => by
    rw [Array.getD_eq_getD_getElem?] at hlj
    have hj' := (List.getElem?_eq_some_iff.1 hj).1
    simp [hj'] at hlj) (fun c => by
    have : get (stS (fun j => (Array.replicate l.length false).getD j false) 0 rs s) c = get (stS (fun _ => false) 0 rs s) c := by
      refine stS_agree c rs 0 _ _ _ _ rfl fun j q hj _ => ?_
      have hj' := (List.getElem?_eq_some_iff.1 hj).1
      have : j < l.length := by omega
      simp [Array.getD_eq_getD_getElem?, this]
    rw [this]
    have hid : ∀ (rs : List (List Comp × St)) (k : Nat) (u : St), stS (fun _ => false) k rs u = u := by
      intro rs
      induction rs with
      | nil => intro k u; rfl
      | cons q rs ih => intro k u; simp only [stS]; exact ih _ _
    rw [hid]) ⟨G, L, hr0⟩ (by omega)
  simpa using h0
end
end Go.Proofs.YthoncmadikifnaaDoor.X
