/- The last text's frame: what a row lists of the package variables; arguments of plain types. No condition. -/
import Derived.Test.YtnpgcmeclkncnaaDoorZN2F
import Derived.Test.YtnpgcmeclkncnaaDoorZN2C
import Derived.ProofKit
import Derived.LaidMore
import Derived.OpenShut
import Derived.HandedShaped
import Derived.LaidLaws
import Derived.Lib.LaidU8T
set_option linter.unusedVariables false
set_option maxRecDepth 100000
namespace Go.Proofs.YtnpgcmeclkncnaaDoor.X
open Go Go.RowKit Go.Proofs
theorem fn2_LW : isFn Tryd.prog 2 = true := by kernel_rfl
/-- A row's wrap that keeps what is listed, the world's shape, and how much is reached. -/
theorem returns_sized {H : Type} {enc : TypeId × Value → H} {a : Assume} {C : Checked} {os : Os} {f : FuncId} {fn : Func} {s : ChangeSpec} {conds : List PathCond} {apart fresh handsOn again : Bool} {X : World → Array Value → Prop}
    (hX : ∀ (w w' : World) (args : Array Value), w.heap = w'.heap → X w args → X w' args) (own : ownKnob C.prog.godebug = none) (started : os.Started) (noInit : C.prog.inits.idxOf? f = none) (hfn : C.prog.funcs[f]? = some fn)
    (witness : ∃ (w : World) (tape : Tape) (i : Input), w.os = os ∧ (w.forCall tape i).Shaped C.prog ∧ i.vars = [] ∧ Input.okWide C.prog (w.forCall tape i) .any w.heap.size f i ∧
      ((s.pre enc C.prog fn conds apart (w.forCall tape i).memory i.args ∧ X (w.forCall tape i).memory i.args) ∧ sizedMet enc C.prog fn (OpenSpec.ofChange s) apart (w.forCall tape i).memory i.args) ∧ a.holds C.prog (lone (Frame.enter C.prog f i.args .normal) [] (w.forCall tape i)))
    (contract : ∀ (W : World) (base : Nat) (args : Array Value) (ds gs : List (DataW H)) (before : List MemPlace), (∀ (j : Nat) t v, fn.params[j]? = some t → args[j]? = some v → Value.okWide C.prog W .any base t v) →
      DataW.Whole enc C.prog fn.params.toList s.vars apart W args.toList ds gs before → (DataW.weightsEach C.prog (fn.params.toList ++ s.plain.varTypes C.prog) (ds ++ gs)).all (· ≤ reachBytes) = true → X W args → W.ShapedOpen C.prog →
      Calls C.prog f args W fun e W' => ∃ v, e = .returned v ∧ s.post enc C.prog fn apart fresh handsOn again W args v W') :
    ReturnsInHanded a C os f .any (fun w args => (s.pre enc C.prog fn conds apart w args ∧ X w args) ∧ sizedMet enc C.prog fn (OpenSpec.ofChange s) apart w args) (s.post enc C.prog fn apart fresh handsOn again) := by
  refine returnsInHanded_of_calls own started noInit witness fun w tape i _ hsh _ hok hpre _ => ?_
  obtain ⟨_, _, _, fn2_LW, hfn2, _, _, _, _, hval⟩ := hok
  cases Option.some.inj (hfn2.symm.trans hfn)
  obtain ⟨⟨⟨ds, gs, before, hw, _⟩, hx⟩, hz⟩ := hpre
  refine (contract (w.forCall tape i) w.heap.size i.args ds gs before hval (DataW.Whole.of_heap (w' := w.forCall tape i) (by rfl) hw) (hz.weights hw) (hX _ _ _ (by rfl) hx) hsh).mono ?_
  rintro e W' ⟨v, rfl, hp⟩
  exact ChangeSpec.post_blind hp
abbrev laid2 : List (String × DataW Unit) := [("unicode/utf8.acceptRanges", Rows.laid_unicode_utf8_acceptRanges), ("unicode/utf8.first", Rows.laid_unicode_utf8_first)]
theorem acceptD : (Rows.laid_unicode_utf8_acceptRanges : DataW Unit) = Lib.acceptData := by rfl
theorem firstD : (Rows.laid_unicode_utf8_first : DataW Unit) = Lib.firstData := by rfl
theorem known2 {W : World} (h : laidMetH Tryd.prog laid2 W) : gok W ∧ gN ≤ W.heap.size := by
  rw [MakeChecks.laidMetH_plain _ _ _ (by kernel_rfl)] at h
  have h1 : Lib.VarReads Tryd.prog W "unicode/utf8.first" Lib.firstData := firstD ▸ Lib.laidMet.reads h (by simp [laid2])
  have h2 : Lib.VarReads Tryd.prog W "unicode/utf8.acceptRanges" Lib.acceptData := acceptD ▸ Lib.laidMet.reads h (by simp [laid2])
  refine ⟨utf8Tabs_of_readsT (ρ := Tryd.laysVS_ren) (U8Types.of196 Tryd.laysVS) ⟨by kernel_rfl, by kernel_rfl, by kernel_rfl, by kernel_rfl, by kernel_rfl, by kernel_rfl, by kernel_rfl⟩ h1 h2, ?_⟩
  obtain ⟨g, t, cs, fuel, p, hg, _, hv, _⟩ := h2
  obtain rfl : 1 = g := Option.some.inj ((show Tryd.prog.globalNamed "unicode/utf8.acceptRanges" = some 1 by kernel_rfl).symm.trans hg)
  simp only [World.var?, hg, Option.bind_some] at hv
  split at hv
  · rename_i e
    have := (Array.getElem?_eq_some_iff.1 e).1
    exact this
  · cases hv
section
variable {H : Type} {enc : TypeId × Value → H} {W : World}
end
end Go.Proofs.YtnpgcmeclkncnaaDoor.X
/- Arguments of plain types: a field, numbers. No condition. -/
set_option linter.unusedVariables false
set_option maxRecDepth 100000
namespace Go.Proofs.YtnpgcmeclkncnaaDoor.X
open Go Go.RowKit Go.Proofs
def plainN : List TypeId := [23, 9, 3, 4, 24, 40]
theorem plainN_ok : plainN.all (plainT Tryd.prog plainN) = true := by decide +kernel
section
variable {H : Type} {enc : TypeId × Value → H} {W : World}
theorem open_fld {r : Reach} {b0 : Nat} {v : Value} {d : DataW H} {ps : List MemPlace} (hval : Value.okWide Tryd.prog W r b0 23 v) (hd : DataW.Trod enc Tryd.prog W 0 (fun _ => true) true 23 v d ps) (hw : ∀ k ∈ d.weights Tryd.prog 23, k ≤ reachBytes) :
    ∃ s : Fld, True ∧ V (gh0 W) v s.av := by
  obtain ⟨acs, n, h1, h2⟩ := open_arg plainN plainN_ok (by decide) hval hd hw
  obtain ⟨s, rfl⟩ := ty_fld h2
  exact ⟨s, trivial, pk_fld s ▸ h1⟩
theorem pk_u64 (m : Nat) : pack Tryd.prog 40 [.int .u64 (m : Int)] = .int .u64 (m : Int) := by unfold pack; rw [Tryd.underlying40]; rfl
theorem open_nums {r : Reach} {b0 : Nat} {v : Value} {d : DataW H} {ps : List MemPlace} (hval : Value.okWide Tryd.prog W r b0 24 v) (hd : DataW.Trod enc Tryd.prog W 0 (fun _ => true) true 24 v d ps) (hw : ∀ k ∈ d.weights Tryd.prog 24, k ≤ reachBytes) :
    ∃ l : List Nat, (l.length ≤ 140737488355328 ∧ ∀ n ∈ l, n < 18446744073709551616) ∧ V (gh0 W) v (.sl (l.map (fun n : Nat => AV.int .u64 (n : Int)))) := by
  obtain ⟨acs, n, h1, h2⟩ := open_arg plainN plainN_ok (by decide) hval hd hw
  obtain ⟨k, css, _, rfl, e, h3⟩ := ty_slice Tryd.underlying24 (by decide +kernel) h2
  obtain ⟨xs, rfl, hx⟩ := list_of (f := fun m : Nat => [AV.int .u64 (m : Int)]) (Q := fun m => m < 18446744073709551616) fun c hc => (by
    obtain ⟨m, hm, hw⟩ := ty_int Tryd.underlying40 (h3 c hc)
    obtain ⟨q, rfl, hq⟩ := wfU64 hw
    exact ⟨q, hm, hq⟩)
  rw [map_pack pk_u64] at h1
  refine ⟨xs, ⟨by simpa using e, hx⟩, ?_⟩
  have e2 : ∀ x, pack Tryd.prog 24 [x] = x := fun x => by unfold pack; rw [Tryd.underlying24]; rfl
  rwa [e2] at h1
end
end Go.Proofs.YtnpgcmeclkncnaaDoor.X
