/- EncodeApart: whatever a schema, a name and two values: the law answers true and leaves what came in as it is; of the package variables it asks what the row lists. No other condition. -/
import Derived.Test.YtnpgcmeclkncnaaGreatDoorZN4I
import Derived.Test.YtnpgcmeclkncnaaGreatDoorTie
import Derived.Test.YtnpgcmeclkncnaaGreatDoorCards
import Derived.SevenTiedAt
import Derived.Lay
set_option linter.unusedVariables false
set_option maxRecDepth 100000
namespace Go.Proofs.YtnpgcmeclkncnaaGreatDoor.encodeApart
open Go Go.ChangeShapes Go.WideShapes Go.ChangeAt Go.RowKit Go.Proofs.YtnpgcmeclkncnaaGreatDoor.X

theorem own : ownKnob Tryz.prog.godebug = none := by kernel_rfl
theorem laid : laidOutB Tryz.prog = true := by kernel_rfl
theorem apart_contract (H : Type) (enc : TypeId × Value → H) (W : World) (base : Nat) (args : Array Value) (ds gs : List (DataW H)) (before : List MemPlace)
    (hval : ∀ (j : Nat) t v, Tryz.f6.params[j]? = some t → args[j]? = some v → Value.okWide Tryz.prog W .any base t v)
    (hg : gok W ∧ gN ≤ W.heap.size) (hW : DataW.Whole enc Tryz.prog Tryz.f6.params.toList Rows.encodeApartSpec.vars false W args.toList ds gs before)
    (hwt : (DataW.weightsEach Tryz.prog (Tryz.f6.params.toList ++ Rows.encodeApartSpec.plain.varTypes Tryz.prog) (ds ++ gs)).all (· ≤ reachBytes) = true) :
    Calls Tryz.prog 6 args W fun e W' => ∃ v, e = .returned v ∧ Rows.encodeApartSpec.post enc Tryz.prog Tryz.f6 false true false false W args v W' := by
  have hW' := hW
  obtain ⟨p, q, hA0, hV, rfl, hfz, hnd⟩ := hW
  have hA : DataW.TrodAll enc Tryz.prog W 0 (fun _ => true) true Tryz.f6.params.toList args.toList ds p := hA0
  rw [Tryz.params6] at hA hval
  obtain ⟨v0, vs0, d0, ds0, p0, q0, hargs, rfl, rfl, h0, r0⟩ := trodAll_cons hA
  obtain ⟨v1, vs1, d1, ds1, p1, q1, rfl, rfl, rfl, h1, r1⟩ := trodAll_cons r0
  obtain ⟨v2, vs2, d2, ds2, p2, q2, rfl, rfl, rfl, h2, r2⟩ := trodAll_cons r1
  obtain ⟨rfl, rfl, rfl⟩ := trodAll_nil r2
  obtain rfl : args = #[v0, v1, v2] := by cases args; simp_all
  obtain ⟨rfl, rfl⟩ := trodVars_none hV
  rw [Tryz.params6] at hwt
  have k0 : ∀ k ∈ d0.weights Tryz.prog 25, k ≤ reachBytes := fun k hk => of_decide_eq_true (List.all_eq_true.1 hwt k (DataW.weights_mem_each (j := 0) (t := 25) rfl rfl k hk))
  obtain ⟨x0, y0, w0⟩ := open_sch (hval 0 25 v0 rfl rfl) h0 k0
  have k1 : ∀ k ∈ d1.weights Tryz.prog 9, k ≤ reachBytes := fun k hk => of_decide_eq_true (List.all_eq_true.1 hwt k (DataW.weights_mem_each (j := 1) (t := 9) rfl rfl k hk))
  obtain ⟨x1, w1, rfl⟩ := open_str Tryz.underlying9 (hval 1 9 v1 rfl rfl) h1
  have k2 : ∀ k ∈ d2.weights Tryz.prog 60, k ≤ reachBytes := fun k hk => of_decide_eq_true (List.all_eq_true.1 hwt k (DataW.weights_mem_each (j := 2) (t := 60) rfl rfl k hk))
  obtain ⟨x2, y2, w2⟩ := open_tree2 (hval 2 60 v2 rfl rfl) h2 k2
  refine (law_run (l_apart x0 y0 x1 x2.1 x2.2 y2.1 y2.2 hp0) (W := W) (args := #[v0, v1, v2]) hg ⟨rfl, fun j x e => ?_⟩).mono fun e W' ⟨he, hb⟩ => ⟨_, he, post_true laid (by kernel_rfl) rfl hW' hb rfl rfl Tryz.underlying4⟩
  match j, e with
  | 0, e => cases e; exact w0
  | 1, e => cases e; exact w1
  | 2, e => cases e; exact w2
  | j + 3, e => cases e
set_option maxRecDepth 100000 in
theorem apart_lifted (os : Os) (started : os.Started) (H : Type) (enc : TypeId × Value → H) :
    ReturnsInHanded {} Tryz.checked os 6 .any (fun w args => (Rows.encodeApartSpec.pre enc Tryz.prog Tryz.f6 [] false w args ∧ laidMetH Tryz.prog laid2 w) ∧ sizedMet enc Tryz.prog Tryz.f6 (OpenSpec.ofChange Rows.encodeApartSpec) false w args)
      (Rows.encodeApartSpec.post enc Tryz.prog Tryz.f6 false true false false) := by
  refine returns_sized (C := Tryz.checked) (X := fun w _ => laidMetH Tryz.prog laid2 w) (fun _ _ _ hh h => h.of_heap hh) own started (by kernel_rfl) Tryz.func6
    (ChangeSpec.witness_shaped (enc := enc) (C := Tryz.checked) (os := os) (X := fun w _ => laidMetH Tryz.prog laid2 w) false (World.laidAll Tryz.prog os laid2) #[.agg #[.slice none 0 0, .slice none 0 0], .string .empty, .agg #[.slice none 0 0, .slice none 0 0, .slice none 0 0, .slice none 0 0]] 8 (World.laidAll_os _ _ _) (World.shaped_of_ZipB (by kernel_rfl) (by kernel_rfl)) (by kernel_rfl) (by kernel_rfl) (by kernel_rfl) (by rw [MakeChecks.laidMetH_plain _ _ _ (by kernel_rfl)]; exact laidMet_laidAll _ (by kernel_rfl) (by kernel_rfl))) ?_
  intro W base args ds gs before hval hW hwt hL hsh
  exact apart_contract H enc W base args ds gs before hval (known2 hL) hW hwt
theorem apart_said : Rows.EncodeApartSaid :=
  OpenClaim.holds_of_wide 6 Tryz.f6 rfl rfl rfl rfl rfl rfl rfl ⟨rfl, rfl, rfl, rfl, rfl⟩ rfl rfl rfl rfl rfl (by kernel_rfl) Tryz.func6 (by kernel_rfl)
    (of_decide_eq_true (by kernel_rfl)) (by unfold Func.isWrapper; first | (rw [if_pos (by decide +kernel)]; kernel_rfl) | (rw [if_neg (by decide +kernel)]; exact ⟨rfl, rfl⟩))
    (fun os started H enc _ => apart_lifted os started H enc)
theorem apart_card : Rows.EncodeApartCardSaid :=
  Claim7.holds_tied_plain_at .later [] [.data, .pinned] true (true, "f027d20c4bf6cb5328fb027373d3407d99534ae40c2b61ccbbb1948637b33019") false
    apart_said (fun _ h => by cases h) (by kernel_rfl) (fun _ h => by cases h) encodeApart_row_tie rfl ⟨rfl, rfl⟩ (by kernel_rfl) rfl
    (fun f fn hf hfn => by
      obtain rfl : f = 6 := Option.some.inj ((show Tryz.prog.funcNamed "ecdysis/ecdysislaw21.EncodeApart" = some 6 by kernel_rfl).symm.trans hf) |>.symm
      obtain rfl : fn = Tryz.f6 := (Option.some.inj (Tryz.func6.symm.trans hfn)).symm
      exact ⟨by kernel_rfl, fun j t ht => by
        rw [Tryz.params6] at ht
        have hm : t ∈ [25, 9, 60] := by simpa using Array.mem_of_getElem? ht
        have hall : ([25, 9, 60].all fun u => !Tryz.prog.wantsStandIn u) = true := by kernel_rfl
        exact (show Tryz.prog.wantsStandIn t = false by simpa using List.all_eq_true.1 hall t hm)⟩)
    (by kernel_rfl)
end Go.Proofs.YtnpgcmeclkncnaaGreatDoor.encodeApart
