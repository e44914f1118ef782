/- LexJoins: whatever two texts and a yes or no: the law answers true and leaves what came in as it is; of the package variables it asks what the row lists. No other condition. -/
import Derived.Test.YthoncmadikifnaaDoorLH
import Derived.Test.YthoncmadikifnaaDoorTie
import Derived.Test.YthoncmadikifnaaDoorCards
import Derived.SevenTiedAt
set_option linter.unusedVariables false
set_option maxRecDepth 100000
namespace Go.Proofs.YthoncmadikifnaaDoor.lexJoins
open Go Go.ChangeShapes Go.WideShapes Go.ChangeAt Go.RowKit Go.Proofs.YthoncmadikifnaaDoor.X

theorem own : ownKnob Tryd.prog.godebug = none := by kernel_rfl
theorem laid : laidOutB Tryd.prog = true := by kernel_rfl
/-- where none begins is not behind the end -/
theorem lexGo_bad_le : ∀ (n : Nat) (r : List UInt8) (p : Nat) (ts : List Tk) (q : Nat), r.length ≤ n → lexGo r p = (ts, some q) → q ≤ p + r.length
  | n, [], p, ts, q, _, h => by rw [lexGo_nil] at h; cases h
  | 0, c :: r, p, _, _, hn, _ => by simp at hn
  | n + 1, c :: r, p, ts, q, hn, h => by
    by_cases hb : isBl c = true
    · rw [lexGo_bl hb] at h
      have := lexGo_bad_le n r (p + 1) ts q (by simp at hn; omega) h
      simp; omega
    · have hb' : isBl c = false := by simpa using hb
      by_cases hr : isRem (c :: r) = true
      · rw [lexGo_rem hb' hr] at h
        have h2 := spn_le noNl (c :: r)
        have h3 := spn_rem hr
        have := lexGo_bad_le n _ _ _ _ (by rw [List.length_drop]; simp at hn ⊢; omega) h
        rw [List.length_drop] at this; omega
      · have hr' : isRem (c :: r) = false := by simpa using hr
        by_cases hk : (nxtT (c :: r)).2 = 0
        · rw [lexGo_no hb' hr' hk] at h; cases h; omega
        · rw [lexGo_tok hb' hr' hk] at h
          have h2 := nxt_le (c :: r)
          obtain ⟨_, h4⟩ := Prod.mk.inj h
          have := lexGo_bad_le n ((c :: r).drop (nxtT (c :: r)).2) (p + (nxtT (c :: r)).2) _ q (by rw [List.length_drop]; simp at hn ⊢; omega) (Prod.ext rfl h4)
          rw [List.length_drop] at this; omega
theorem joins_pure (a b : List UInt8) (line : Bool) : Pure Tryd.prog 4 [.str a, .str b, .bool line] (.bool true) := by
  by_cases hlong : 150 < a.length ∨ 150 < b.length
  · exact joins_long a b line hlong
  · have la : a.length ≤ 150 := by omega
    have lb : b.length ≤ 150 := by omega
    have hml := mid_len line
    have hs : (((a ++ [10]) ++ mid line) ++ b) = a ++ 10 :: (mid line ++ b) := by simp
    have hlen : (a ++ 10 :: (mid line ++ b)).length = a.length + 1 + (mid line).length + b.length := by simp; omega
    have pa := all_pure a 400 (by omega)
    have pb := all_pure b 400 (by omega)
    have pz := all_pure (((a ++ [10]) ++ mid line) ++ b) 400 (by rw [hs, hlen]; omega)
    cases ea : lexGo a 0 with
    | mk ta oa =>
      cases oa with
      | some p =>
        obtain ⟨ty, n2, e2, _, hy⟩ := allV_form b 400
        obtain ⟨tz, n3, e3, _, hz⟩ := allV_form (((a ++ [10]) ++ mid line) ++ b) 400
        rw [allV_bad (by omega) ea] at pa
        rw [hy] at pb
        rw [hz] at pz
        exact joins_no a b line [] (ty.map Tk.av) (tz.map Tk.av) p 2 n2 e2 n3 e3 la lb pa pb pz rfl
      | none =>
        have ej := lexGo_join (b := b) (line := line) ea
        rw [allV_ok (by omega) ea] at pa
        have hta : ta.length ≤ a.length := by have := lexGo_len a.length a 0 (Nat.le_refl _); rw [ea] at this; exact this
        cases eb : lexGo b 0 with
        | mk tb ob =>
          rw [eb] at ej
          cases ob with
          | some q =>
            rw [allV_bad (by omega) eb] at pb
            rw [hs, allV_bad (by rw [hlen]; omega) ej, ← hs] at pz
            refine joins_bad a b line _ [] [] a.length 0 q 2 ((q + (a.length + 1 + (mid line).length) : Nat) : Int) 2 la lb pa pb pz rfl (beq_eq_false_iff_ne.2 (by simp; omega)) rfl rfl ?_
            have hq : q ≤ b.length := by have := lexGo_bad_le b.length b 0 tb q (Nat.le_refl _) eb; omega
            rw [wr64 (n := (q : Int) + (a.length : Int)) (by omega) (by omega), wr64 (n := (q : Int) + (a.length : Int) + 1) (by omega) (by omega), wr64 (by omega) (by omega)]
            simp; omega
          | none =>
            rw [allV_ok (by omega) eb] at pb
            rw [hs, allV_ok (by rw [hlen]; omega) ej, ← hs] at pz
            have htb : tb.length ≤ b.length := by have := lexGo_len b.length b 0 (Nat.le_refl _); rw [eb] at this; exact this
            refine joins_ok a b line ta (tb ++ [(⟨0, [], 0, false, b.length⟩ : Tk)]) ⟨0, [], 0, false, a.length⟩ (a.length + 1 + (mid line).length) a.length b.length ((((a ++ [10]) ++ mid line) ++ b).length : Nat) la lb rfl (by omega) (by simp; omega) (by simp) (fun t ht => ?_) pa pb ?_
            · rcases List.mem_append.1 ht with h | h
              · have := lexGo_pos b.length b 0 (Nat.le_refl _) t (by rw [eb]; exact h)
                omega
              · simp at h; subst h; show b.length ≤ 1000; omega
            · have e : (ta ++ tb.map (Tk.sh (a.length + 1 + (mid line).length))) ++ [(⟨0, [], 0, false, (((a ++ [10]) ++ mid line) ++ b).length⟩ : Tk)] = ta ++ (tb ++ [(⟨0, [], 0, false, b.length⟩ : Tk)]).map (Tk.sh (a.length + 1 + (mid line).length)) := by
                rw [List.map_append, List.append_assoc]
                congr 2
                rw [hs, hlen]
                show [(⟨0, [], 0, false, _⟩ : Tk)] = [(⟨0, [], 0, false, b.length + (a.length + 1 + (mid line).length)⟩ : Tk)]
                rw [Nat.add_comm]
              rw [← e]; exact pz
theorem joins_contract (H : Type) (enc : TypeId × Value → H) (W : World) (base : Nat) (args : Array Value) (ds gs : List (DataW H)) (before : List MemPlace)
    (hval : ∀ (j : Nat) t v, Tryd.f4.params[j]? = some t → args[j]? = some v → Value.okWide Tryd.prog W .any base t v)
    (hg : gok W ∧ gN ≤ W.heap.size) (hW : DataW.Whole enc Tryd.prog Tryd.f4.params.toList Rows.lexJoinsSpec.vars false W args.toList ds gs before) :
    Calls Tryd.prog 4 args W fun e W' => ∃ v, e = .returned v ∧ Rows.lexJoinsSpec.post enc Tryd.prog Tryd.f4 false true false false W args v W' := by
  have hW' := hW
  obtain ⟨p, q, hA0, hV, rfl, hfz, hnd⟩ := hW
  have hA : DataW.TrodAll enc Tryd.prog W 0 (fun _ => true) true Tryd.f4.params.toList args.toList ds p := hA0
  rw [Tryd.params4] at hA hval
  obtain ⟨v0, vs0, d0, ds0, p0, q0, hargs, rfl, rfl, h0, r0⟩ := trodAll_cons hA
  obtain ⟨v1, vs1, d1, ds1, p1, q1, rfl, rfl, rfl, h1, r1⟩ := trodAll_cons r0
  obtain ⟨v2, vs2, d2, ds2, p2, q2, rfl, rfl, rfl, h2, r2⟩ := trodAll_cons r1
  obtain ⟨rfl, rfl, rfl⟩ := trodAll_nil r2
  obtain rfl : args = #[v0, v1, v2] := by cases args; simp_all
  obtain ⟨rfl, rfl⟩ := trodVars_none hV
  obtain ⟨a, w0, rfl⟩ := open_str Tryd.underlying9 (hval 0 9 v0 rfl rfl) h0
  obtain ⟨b, w1, rfl⟩ := open_str Tryd.underlying9 (hval 1 9 v1 rfl rfl) h1
  obtain ⟨c, rfl, rfl, _⟩ := open_bool Tryd.underlying4 (hval 2 4 v2 rfl rfl) h2
  have w2 : V (gh0 W) (.bool c) (.bool c) := .bool _
  refine (law_run (joins_pure a b c hp0) (W := W) (args := #[v0, v1, .bool c]) hg ⟨rfl, fun j x e => ?_⟩).mono fun e W' ⟨he, hb⟩ => ⟨_, he, post_true laid (by kernel_rfl) rfl hW' hb rfl rfl Tryd.underlying4⟩
  match j, e with
  | 0, e => cases e; exact w0
  | 1, e => cases e; exact w1
  | 2, e => cases e; exact w2
  | j + 3, e => cases e
theorem joins_door (os : Os) (args : Array Value) : laidMetH Tryd.prog laid5 ((World.doorLaid Tryd.prog 400 os).forCall (fun _ _ => 0) ⟨#[], args, []⟩).memory :=
  laidMetH_of_parts3 (fuel := 8) (laidMet_of_run' 8 (by kernel_rfl) (by kernel_rfl)) (by kernel_rfl) (by kernel_rfl)
set_option maxRecDepth 100000 in
theorem joins_lifted (os : Os) (started : os.Started) (H : Type) (enc : TypeId × Value → H) :
    ReturnsInHanded {} Tryd.checked os 4 .any (fun w args => (Rows.lexJoinsSpec.pre enc Tryd.prog Tryd.f4 [] false w args ∧ laidMetH Tryd.prog laid5 w) ∧ sizedMet enc Tryd.prog Tryd.f4 (OpenSpec.ofChange Rows.lexJoinsSpec) false w args)
      (Rows.lexJoinsSpec.post enc Tryd.prog Tryd.f4 false true false false) := by
  refine returns_listed (C := Tryd.checked) (X := fun w _ => laidMetH Tryd.prog laid5 w) (fun _ _ _ hh h => h.of_heap hh) own started (by kernel_rfl) Tryd.func4
    (ChangeSpec.witness_shaped (enc := enc) (C := Tryd.checked) (os := os) (X := fun w _ => laidMetH Tryd.prog laid5 w) false (World.doorLaid Tryd.prog 400 os) #[.string .empty, .string .empty, .bool false] 8 rfl (World.shaped_of_RefB (by kernel_rfl) (by kernel_rfl)) (by kernel_rfl) (by kernel_rfl) (by kernel_rfl) (joins_door os _)) ?_
  intro W base args ds gs before hval hW hL hsh
  exact joins_contract H enc W base args ds gs before hval (known5 hL hsh) hW
theorem joins_said : Rows.LexJoinsSaid :=
  OpenClaim.holds_of_wide 4 Tryd.f4 rfl rfl rfl rfl rfl rfl rfl ⟨rfl, rfl, rfl, rfl, rfl⟩ rfl rfl rfl rfl rfl (by kernel_rfl) Tryd.func4 (by kernel_rfl)
    (of_decide_eq_true (by kernel_rfl)) (by unfold Func.isWrapper; first | (rw [if_pos (by decide +kernel)]; kernel_rfl) | (rw [if_neg (by decide +kernel)]; exact ⟨rfl, rfl⟩))
    (fun os started H enc _ => joins_lifted os started H enc)
theorem joins_card : Rows.LexJoinsCardSaid :=
  Claim7.holds_tied_plain_at .later [] [.data, .data, .data, .sentinel, .sentinel] true (true, "af31241c91950f07bf5a2a1f97d15a884f881b5e6928ea385e8aae9e0bea2ae2") true
    joins_said (fun _ h => by cases h) (by kernel_rfl) (fun _ h => by cases h) lexJoins_row_tie rfl ⟨rfl, rfl⟩ (by kernel_rfl) rfl
    (fun f fn hf hfn => by
      obtain rfl : f = 4 := Option.some.inj ((show Tryd.prog.funcNamed "ecdysis/ecdysislaw10.LexJoins" = some 4 by kernel_rfl).symm.trans hf) |>.symm
      obtain rfl : fn = Tryd.f4 := (Option.some.inj (Tryd.func4.symm.trans hfn)).symm
      exact ⟨by kernel_rfl, fun j t ht => by
        rw [Tryd.params4] at ht
        have hm : t ∈ [9, 9, 4] := by simpa using Array.mem_of_getElem? ht
        have hall : ([9, 9, 4].all fun u => !Tryd.prog.wantsStandIn u) = true := by kernel_rfl
        exact (show Tryd.prog.wantsStandIn t = false by simpa using List.all_eq_true.1 hall t hm)⟩)
    (by kernel_rfl)
end Go.Proofs.YthoncmadikifnaaDoor.lexJoins
