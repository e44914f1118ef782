/- The last text's frame: what a row lists of the package variables; arguments of plain types. No condition. -/
import Derived.Test.YtpifnegikoldmaaGreatDoorZDJ
import Derived.Test.YtpifnegikoldmaaGreatDoorZDC
import Derived.ProofKit
import Derived.LaidMore
import Derived.OpenShut
import Derived.HandedShaped
import Derived.LaidLaws
import Derived.Lib.LaidU8T
set_option linter.unusedVariables false
set_option maxRecDepth 100000
namespace Go.Proofs.YtpifnegikoldmaaGreatDoor.X
open Go Go.RowKit Go.Proofs
theorem Hd : aa Tryz.prog 2 = true := by kernel_rfl
theorem pr {H : Type} {enc : TypeId × Value → H} {a : Assume} {C : Checked} {os : Os} {f : FuncId} {fn : Func} {s : ChangeSpec} {conds : List PathCond} {apart fresh handsOn again : Bool} {X : World → Array Value → Prop}
  (hX : ∀ (w w' : World) (args : Array Value), w.heap = w'.heap → X w args → X w' args) (own : ownKnob C.prog.godebug = none) (started : os.Started) (noInit : C.prog.inits.idxOf? f = none) (hfn : C.prog.funcs[f]? = some fn)
  (witness : ∃ (w : World) (tape : Tape) (i : Input), w.os = os ∧ (w.forCall tape i).Shaped C.prog ∧ i.vars = [] ∧ Input.okWide C.prog (w.forCall tape i) .any w.heap.size f i ∧
   ((s.pre enc C.prog fn conds apart (w.forCall tape i).memory i.args ∧ X (w.forCall tape i).memory i.args) ∧ sizedMet enc C.prog fn (OpenSpec.ofChange s) apart (w.forCall tape i).memory i.args) ∧ a.holds C.prog (lone (Frame.enter C.prog f i.args .normal) [] (w.forCall tape i)))
  (contract : ∀ (W : World) (base : Nat) (args : Array Value) (ds gs : List (DataW H)) (before : List MemPlace), (∀ (j : Nat) t v, fn.params[j]? = some t → args[j]? = some v → Value.okWide C.prog W .any base t v) →
   DataW.Whole enc C.prog fn.params.toList s.vars apart W args.toList ds gs before → (DataW.weightsEach C.prog (fn.params.toList ++ s.plain.varTypes C.prog) (ds ++ gs)).all (· ≤ reachBytes) = true → X W args → W.ShapedOpen C.prog →
   Calls C.prog f args W fun e W' => ∃ v, e = .returned v ∧ s.post enc C.prog fn apart fresh handsOn again W args v W') :
  ReturnsInHanded a C os f .any (fun w args => (s.pre enc C.prog fn conds apart w args ∧ X w args) ∧ sizedMet enc C.prog fn (OpenSpec.ofChange s) apart w args) (s.post enc C.prog fn apart fresh handsOn again) := by
 refine returnsInHanded_of_calls own started noInit witness fun w tape i _ hsh _ hok hpre _ => ?_
 obtain ⟨_, _, _, Hd, hfn2, _, _, _, _, hval⟩ := hok
 cases Option.some.inj (hfn2.symm.trans hfn)
 obtain ⟨⟨⟨ds, gs, before, hw, _⟩, hx⟩, hz⟩ := hpre
 refine (contract (w.forCall tape i) w.heap.size i.args ds gs before hval (DataW.Whole.of_heap (w' := w.forCall tape i) (by rfl) hw) (hz.weights hw) (hX _ _ _ (by rfl) hx) hsh).mono ?_
 rintro e W' ⟨v, rfl, hp⟩
 exact ChangeSpec.post_blind hp
abbrev oy : List (String × DataW Unit) := [("unicode/utf8.acceptRanges", Rows.laid_unicode_utf8_acceptRanges), ("unicode/utf8.first", Rows.laid_unicode_utf8_first)]
theorem Db : (Rows.laid_unicode_utf8_acceptRanges : DataW Unit) = Lib.acceptData := by rfl
theorem GZ : (Rows.laid_unicode_utf8_first : DataW Unit) = Lib.firstData := by rfl
theorem F6 {W : World} (h : laidMetH Tryz.prog oy W) : EC W ∧ gN ≤ W.heap.size := by
 rw [MakeChecks.laidMetH_plain _ _ _ (by kernel_rfl)] at h
 have h1 : Lib.VarReads Tryz.prog W "unicode/utf8.first" Lib.firstData := GZ ▸ Lib.laidMet.reads h (by simp [oy])
 have h2 : Lib.VarReads Tryz.prog W "unicode/utf8.acceptRanges" Lib.acceptData := Db ▸ Lib.laidMet.reads h (by simp [oy])
 refine ⟨utf8Tabs_of_readsT (ρ := Tryz.ox) (U8Types.of196 Tryz.A4) ⟨by kernel_rfl, by kernel_rfl, by kernel_rfl, by kernel_rfl, by kernel_rfl, by kernel_rfl, by kernel_rfl⟩ h1 h2, ?_⟩
 obtain ⟨g, t, cs, fuel, p, hg, _, hv, _⟩ := h2
 obtain rfl : 1 = g := Option.some.inj ((show Tryz.prog.globalNamed "unicode/utf8.acceptRanges" = some 1 by kernel_rfl).symm.trans hg)
 simp only [World.var?, hg, Option.bind_some] at hv
 split at hv
 ·rename_i e
  have := (Array.getElem?_eq_some_iff.1 e).1
  exact this
 ·cases hv
theorem Ek (s : aw) : pack Tryz.prog 9 [.str s] = .str s := by unfold pack; rw [Tryz.underlying9]; rfl
theorem ye {x : aP} (h : x.dv.fits) : x.tree.fits := by
 obtain ⟨h1, h2, h3, h4⟩ := h
 refine Tree.j8.mk ⟨?_, ?_, ?_, ?_, ?_, ?_, ?_, ?_⟩ ?_ <;> simp [aP.tree, Tree.ak, Tree.rest, Slot.cI]
 ·exact h3
 ·exact h2
 ·exact h1
 ·exact h4
theorem DG {x : aP} (hf : x.dv.fits) (hn : x.names.length ≤ 140737488355328) (q2 : x.msg.length ≤ 140737488355328) (q3 : x.field.length ≤ 140737488355328) (q4 : x.dest.length ≤ 140737488355328) (q5 : x.also.length ≤ 140737488355328) : x.lens := by
 have hb := (ye hf).fT
 obtain ⟨h1, h2, h3, h4⟩ := hf
 exact ⟨⟨Nat.le_trans h2 (by omega), fun t ht => (h4 t ht).fT, Nat.le_trans hn (by omega)⟩, hb, hn, q2, q3, q4, q5, h2, h1⟩
theorem ER {n : Nat} {acs : List AV} (h : TY n 80 acs) : ∃ x : aP, acs = x.cells ∧ x.lens := by
 obtain ⟨k, _, h⟩ := cr Tryz.underlying80 h
 obtain ⟨a1, b1, rfl, h1, wa1⟩ := aj h; obtain ⟨s1, rfl, _⟩ := fE Tryz.underlying3 h1
 obtain ⟨a2, b2, rfl, h1, wa2⟩ := aj wa1; obtain ⟨s2, rfl, q2⟩ := fD Tryz.underlying9 h1
 obtain ⟨a3, b3, rfl, h1, wa3⟩ := aj wa2; obtain ⟨s3, rfl, q3⟩ := fD Tryz.underlying9 h1
 obtain ⟨a4, b4, rfl, h1, wa4⟩ := aj wa3; obtain ⟨s4, rfl, q4⟩ := fD Tryz.underlying9 h1
 obtain ⟨a5, b5, rfl, h1, wa5⟩ := aj wa4; obtain ⟨s5, rfl, q5⟩ := fD Tryz.underlying9 h1
 obtain ⟨a6, b6, rfl, h1, wa6⟩ := aj wa5; obtain ⟨s6, rfl, _⟩ := fE Tryz.underlying3 h1
 obtain ⟨a7, b7, rfl, h1, wa7⟩ := aj wa6; obtain ⟨s7, rfl, _⟩ := fE Tryz.underlying3 h1
 obtain ⟨a8, b8, rfl, h1, wa8⟩ := aj wa7; obtain ⟨s8, rfl, _⟩ := fE Tryz.underlying3 h1
 obtain ⟨a9, b9, rfl, h1, wa9⟩ := aj wa8; obtain ⟨k9, l9, _, rfl, e9, h9⟩ := dY Tryz.underlying78 (by decide +kernel) h1
 obtain ⟨aA, bA, rfl, h1, waA⟩ := aj wa9; obtain ⟨v, rfl, hv⟩ := zA (fun j _ acs h => Bm j acs h) h1
 obtain rfl := eX waA
 obtain ⟨xs, rfl, _⟩ := eG (f := fun s : aw => [AV.str s]) (Q := fun _ => True) fun c hc => (by obtain ⟨f, hf, _⟩ := fD Tryz.underlying9 (h9 c hc); exact ⟨f, hf, trivial⟩)
 rw [dc Ek]
 exact ⟨⟨s1, s2, s3, s4, s5, s6, s7, s8, xs, v⟩, rfl, DG hv (by simpa using e9) q2 q3 q4 q5⟩
theorem El (x : aP) : pack Tryz.prog 80 x.cells = x.av := cR Tryz.underlying80 _
theorem xY {n : Nat} {acs : List AV} (h : TY n 26 acs) : ∃ l : List aP, acs = [.sl (l.map aP.av)] ∧ l.length ≤ 140737488355328 ∧ ∀ x ∈ l, x.lens := by
 obtain ⟨k, css, _, rfl, e, h3⟩ := dY Tryz.underlying26 (by decide +kernel) h
 obtain ⟨xs, rfl, hx⟩ := eG (f := aP.cells) (Q := aP.lens) fun c hc => ER (h3 c hc)
 rw [dc El]
 exact ⟨xs, rfl, by simpa using e, hx⟩
theorem Bo {n : Nat} {acs : List AV} (h : TY n 28 acs) : ∃ (s : aM) (l : List aP), acs = s.cells ++ [.sl (l.map aP.av)] ∧ lD s l := by
 obtain ⟨k, _, h⟩ := cr Tryz.underlying28 h
 obtain ⟨a1, b1, rfl, h1, wa1⟩ := aj h; obtain ⟨s, rfl, hs⟩ := ES h1
 obtain ⟨a2, b2, rfl, h1, wa2⟩ := aj wa1; obtain ⟨l, rfl, hl, hx⟩ := xY h1
 obtain rfl := eX wa2
 exact ⟨s, l, by simp, hs, hl, hx⟩
def um : List TypeId := [28, 26, 80, 78, 25, 22, 70, 68, 75, 23, 73, 71, 77, 50, 3, 9, 4, 62, 45, 42, 83, 81, 64, 40, 43, 99]
theorem xr : um.all (ko Tryz.prog um) = true := by decide +kernel
section
variable {H : Type} {enc : TypeId × Value → H} {W : World}
theorem xw {r : Reach} {b0 : Nat} {v : Value} {d : DataW H} {ps : List MemPlace} (hval : Value.okWide Tryz.prog W r b0 28 v) (hd : DataW.Trod enc Tryz.prog W 0 (fun _ => true) true 28 v d ps) (hw : ∀ k ∈ d.weights Tryz.prog 28, k ≤ reachBytes) :
  ∃ (s : aM) (l : List aP), lD s l ∧ V (Ad W) v (fS s l) := by
 obtain ⟨acs, n, h1, h2⟩ := zj um xr (by decide) hval hd hw
 obtain ⟨s, l, rfl, hs⟩ := Bo h2
 rw [cR Tryz.underlying28] at h1
 exact ⟨s, l, hs, h1⟩
end
end Go.Proofs.YtpifnegikoldmaaGreatDoor.X
