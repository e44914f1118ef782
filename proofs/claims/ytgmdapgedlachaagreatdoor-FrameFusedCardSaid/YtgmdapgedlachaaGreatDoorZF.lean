/- FrameFused: whatever a case and two values, of a fused program: the law answers true and leaves what came in as it is; of the package variables it asks what the row lists. No other condition. -/
import Derived.Test.YtgmdapgedlachaaGreatDoorZFL
import Derived.Test.YtgmdapgedlachaaGreatDoorZFC
import Derived.Test.YtgmdapgedlachaaGreatDoorTie
import Derived.Test.YtgmdapgedlachaaGreatDoorCards
import Derived.SevenTiedAt
import Derived.Lay
set_option linter.unusedVariables false
set_option maxRecDepth 100000
namespace Go.Proofs.YtgmdapgedlachaaGreatDoor.frameFused
open Go Go.ChangeShapes Go.WideShapes Go.ChangeAt Go.RowKit Go.Proofs.YtgmdapgedlachaaGreatDoor.X

theorem own : ownKnob Tryz.prog.godebug = none := by kernel_rfl
theorem laid : laidOutB Tryz.prog = true := by kernel_rfl
theorem sb (H : Type) (enc : TypeId × Value → H) (W : World) (base : Nat) (args : Array Value) (ds gs : List (DataW H)) (before : List MemPlace)
  (hval : ∀ (j : Nat) t v, Tryz.f4.params[j]? = some t → args[j]? = some v → Value.okWide Tryz.prog W .any base t v)
  (hg : KM W ∧ gN ≤ W.heap.size) (hW : DataW.Whole enc Tryz.prog Tryz.f4.params.toList Rows.frameFusedSpec.vars false W args.toList ds gs before)
  (hwt : (DataW.weightsEach Tryz.prog (Tryz.f4.params.toList ++ Rows.frameFusedSpec.plain.varTypes Tryz.prog) (ds ++ gs)).all (· ≤ reachBytes) = true) :
  Calls Tryz.prog 4 args W fun e W' => ∃ v, e = .returned v ∧ Rows.frameFusedSpec.post enc Tryz.prog Tryz.f4 false true false false W args v W' := by
 have hW' := hW
 obtain ⟨p, q, hA0, hV, rfl, hfz, hnd⟩ := hW
 have hA : DataW.TrodAll enc Tryz.prog W 0 (fun _ => true) true Tryz.f4.params.toList args.toList ds p := hA0
 rw [Tryz.params4] at hA hval
 obtain ⟨v0, vs0, d0, ds0, p0, q0, hargs, rfl, rfl, h0, r0⟩ := trodAll_cons hA
 obtain ⟨v1, vs1, d1, ds1, p1, q1, rfl, rfl, rfl, h1, r1⟩ := trodAll_cons r0
 obtain ⟨v2, vs2, d2, ds2, p2, q2, rfl, rfl, rfl, h2, r2⟩ := trodAll_cons r1
 obtain ⟨rfl, rfl, rfl⟩ := trodAll_nil r2
 obtain rfl : args = #[v0, v1, v2] := by cases args; simp_all
 obtain ⟨rfl, rfl⟩ := trodVars_none hV
 rw [Tryz.params4] at hwt
 have k0 : ∀ k ∈ d0.weights Tryz.prog 28, k ≤ reachBytes := fun k hk => of_decide_eq_true (List.all_eq_true.1 hwt k (DataW.weights_mem_each (j := 0) (t := 28) rfl rfl k hk))
 obtain ⟨x0, z0, y0, w0⟩ := C9 (hval 0 28 v0 rfl rfl) h0 k0
 have k1 : ∀ k ∈ d1.weights Tryz.prog 32, k ≤ reachBytes := fun k hk => of_decide_eq_true (List.all_eq_true.1 hwt k (DataW.weights_mem_each (j := 1) (t := 32) rfl rfl k hk))
 obtain ⟨x1, y1, w1⟩ := u0 (hval 1 32 v1 rfl rfl) h1 k1
 have k2 : ∀ k ∈ d2.weights Tryz.prog 32, k ≤ reachBytes := fun k hk => of_decide_eq_true (List.all_eq_true.1 hwt k (DataW.weights_mem_each (j := 2) (t := 32) rfl rfl k hk))
 obtain ⟨x2, y2, w2⟩ := u0 (hval 2 32 v2 rfl rfl) h2 k2
 refine (Fo (va x0 z0 y0 x1 x2 y1 y2 Nb) (W := W) (args := #[v0, v1, v2]) hg ⟨rfl, fun j x e => ?_⟩).mono fun e W' ⟨he, hb⟩ => ⟨_, he, C2 laid (by kernel_rfl) rfl hW' hb rfl rfl Tryz.underlying4⟩
 match j, e with
 | 0, e => cases e; exact w0
 | 1, e => cases e; exact w1
 | 2, e => cases e; exact w2
 | j + 3, e => cases e
set_option maxRecDepth 100000 in
theorem vq (os : Os) (started : os.Started) (H : Type) (enc : TypeId × Value → H) :
  ReturnsInHanded {} Tryz.checked os 4 .any (fun w args => (Rows.frameFusedSpec.pre enc Tryz.prog Tryz.f4 [] false w args ∧ laidMetH Tryz.prog sn w) ∧ sizedMet enc Tryz.prog Tryz.f4 (OpenSpec.ofChange Rows.frameFusedSpec) false w args)
   (Rows.frameFusedSpec.post enc Tryz.prog Tryz.f4 false true false false) := by
 refine tj (C := Tryz.checked) (X := fun w _ => laidMetH Tryz.prog sn w) (fun _ _ _ hh h => h.of_heap hh) own started (by kernel_rfl) Tryz.func4
  (ChangeSpec.witness_shaped (enc := enc) (C := Tryz.checked) (os := os) (X := fun w _ => laidMetH Tryz.prog sn w) false (World.laidAll Tryz.prog os sn) #[.agg #[.slice none 0 0, .slice none 0 0, .slice none 0 0], .agg #[.slice none 0 0, .slice none 0 0], .agg #[.slice none 0 0, .slice none 0 0]] 8 (World.laidAll_os _ _ _) (World.shaped_of_ZipB (by kernel_rfl) (by kernel_rfl)) (by kernel_rfl) (by kernel_rfl) (by kernel_rfl) (by rw [MakeChecks.laidMetH_plain _ _ _ (by kernel_rfl)]; exact laidMet_laidAll _ (by kernel_rfl) (by kernel_rfl))) ?_
 intro W base args ds gs before hval hW hwt hL hsh
 exact sb H enc W base args ds gs before hval (MT hL) hW hwt
theorem zd : Rows.FrameFusedSaid :=
 OpenClaim.holds_of_wide 4 Tryz.f4 rfl rfl rfl rfl rfl rfl rfl ⟨rfl, rfl, rfl, rfl, rfl⟩ rfl rfl rfl rfl rfl (by kernel_rfl) Tryz.func4 (by kernel_rfl)
  (of_decide_eq_true (by kernel_rfl)) (by unfold Func.isWrapper; first | (rw [if_pos (by decide +kernel)]; kernel_rfl) | (rw [if_neg (by decide +kernel)]; exact ⟨rfl, rfl⟩))
  (fun os started H enc _ => vq os started H enc)
theorem loads_card : Rows.FrameFusedCardSaid :=
 Claim7.holds_tied_plain_at .later [] [.data, .pinned] true (true, "f5247e00c61a97b7406608970c7535f0385fdf22fa6d5808528278e5d93f857f") false
  zd (fun _ h => by cases h) (by kernel_rfl) (fun _ h => by cases h) frameFused_row_tie rfl ⟨rfl, rfl⟩ (by kernel_rfl) rfl
  (fun f fn hf hfn => by
   obtain rfl : f = 4 := Option.some.inj ((show Tryz.prog.funcNamed "ecdysis/ecdysislaw36.FrameFused" = some 4 by kernel_rfl).symm.trans hf) |>.symm
   obtain rfl : fn = Tryz.f4 := (Option.some.inj (Tryz.func4.symm.trans hfn)).symm
   exact ⟨by kernel_rfl, fun j t ht => by
    rw [Tryz.params4] at ht
    have hm : t ∈ [28, 32, 32] := by simpa using Array.mem_of_getElem? ht
    have hall : ([28, 32, 32].all fun u => !Tryz.prog.wantsStandIn u) = true := by kernel_rfl
    exact (show Tryz.prog.wantsStandIn t = false by simpa using List.all_eq_true.1 hall t hm)⟩)
  (by kernel_rfl)
end Go.Proofs.YtgmdapgedlachaaGreatDoor.frameFused
