/- EmitWrites: whatever acts on a writer: the law answers true and leaves what came in as it is. No condition. -/
import Derived.Test.YtecjdohpfijmpaaYC
import Derived.Test.YtecjdohpfijmpaaYH
set_option linter.unusedVariables false
namespace Go.Proofs.Ytecjdohpfijmpaa.emitWrites
open Go Go.ChangeShapes Go.WideShapes Go.ChangeAt Go.RowKit Go.Proofs.Ytecjdohpfijmpaa.X

theorem own : ownKnob Try.prog.godebug = none := by kernel_rfl
theorem laid : laidOutB Try.prog = true := by kernel_rfl
theorem cells52 : Try.prog.cellsOf 52 = 4 := by kernel_rfl
theorem cells3 : Try.prog.cellsOf 3 = 1 := by kernel_rfl
theorem cells50 : Try.prog.cellsOf 50 = 1 := by kernel_rfl
theorem cells9 : Try.prog.cellsOf 9 = 1 := by kernel_rfl
theorem act_el {H : Type} {enc : TypeId × Value → H} {W : World} (n : Nat) (cs : List Value) (y : DataW H × List MemPlace) (h : DataW.trod enc Try.prog W 0 (fun _ => true) true n 52 cs = some y) :
    ∃ av : AV, av.cells.length = 4 ∧ (∃ a : Actt, av = actAV a ∧ a.n < 18446744073709551616) ∧ ∀ (j : Nat) c, av.cells[j]? = some c → c.flat = true ∧ V (gh0 W) (cs.getD j undef) c := by
  obtain ⟨y0, y1, y2, y3, m, _, hl, h0, h1, h2, h3⟩ := Go.Joins.trod_struct4 Try.underlying52 h
  rw [cells52] at hl
  obtain ⟨v0, v1, v2, v3, rfl⟩ : ∃ a b c d, cs = [a, b, c, d] := by
    match cs, hl with
    | [a, b, c, d], _ => exact ⟨a, b, c, d, rfl⟩
  simp only [cells3, cells50, cells9] at h0 h1 h2 h3
  obtain ⟨n0, e0, _, _⟩ := DataW.trod_int un3 h0
  obtain ⟨n1, e1, _, _⟩ := DataW.trod_int un3 h1
  obtain ⟨n2, e2, _, w2⟩ := DataW.trod_int un50 h2
  obtain ⟨s3, e3, _, _⟩ := DataW.trod_string un9 h3
  simp at e0 e1 e2 e3
  subst e0; subst e1; subst e2; subst e3
  obtain ⟨k, rfl, hk⟩ := wf_u64 w2
  refine ⟨actAV ⟨n0, n1, k, s3.data.toList⟩, rfl, ⟨_, rfl, hk⟩, fun j c hc => ?_⟩
  match j, hc with
  | 0, hc => cases hc; exact ⟨rfl, .int _ _⟩
  | 1, hc => cases hc; exact ⟨rfl, .int _ _⟩
  | 2, hc => cases hc; exact ⟨rfl, .int _ _⟩
  | 3, hc =>
    cases hc
    refine ⟨rfl, ?_⟩
    have := V.str (G := gh0 W) s3.data.toList
    rwa [← str_arr] at this
theorem writes_contract (H : Type) (enc : TypeId × Value → H) (W : World) (base : Nat) (args : Array Value) (ds gs : List (DataW H)) (before : List MemPlace)
    (hval : ∀ (j : Nat) t v, Try.f7.params[j]? = some t → args[j]? = some v → Value.okWide Try.prog W .any base t v)
    (hW : DataW.Whole enc Try.prog Try.f7.params.toList Rows.emitWritesSpec.vars false W args.toList ds gs before) :
    Calls Try.prog 7 args W fun e W' => ∃ v, e = .returned v ∧ Rows.emitWritesSpec.post enc Try.prog Try.f7 false true false false W args v W' := by
  have hW' := hW
  obtain ⟨p, q, hA0, hV, rfl, hfz, hnd⟩ := hW
  have hA : DataW.TrodAll enc Try.prog W 0 (fun _ => true) true Try.f7.params.toList args.toList ds p := hA0
  rw [Try.params7] at hA hval
  obtain ⟨v0, vs0, d0, ds0, p0, q0, hargs, rfl, rfl, h0, r0⟩ := trodAll_cons hA
  obtain ⟨rfl, rfl, rfl⟩ := trodAll_nil r0
  obtain rfl : args = #[v0] := by cases args; simp_all
  obtain ⟨rfl, rfl⟩ := trodVars_none hV
  obtain ⟨l0, w0, hl0⟩ := open_sl (Q := fun av => ∃ a : Actt, av = actAV a ∧ a.n < 18446744073709551616) un45 cells52 (by decide) (hval 0 45 v0 rfl rfl) h0 act_el
  obtain ⟨l, rfl, hu⟩ := map_of_all hl0
  refine (law_runX (writes_run hp0 l hu) (W := W) (args := #[v0]) ⟨rfl, fun j x e => ?_⟩).mono fun e W' ⟨he, hb⟩ => ⟨_, he, post_true laid (by kernel_rfl) rfl hW' hb rfl rfl un4⟩
  match j, e with
  | 0, e => cases e; exact w0
  | j + 1, e => cases e
set_option maxRecDepth 100000 in
theorem writes_lifted (os : Os) (started : os.Started) (H : Type) (enc : TypeId × Value → H) :
    ReturnsInHanded {} Try.checked os 7 .any (Rows.emitWritesSpec.pre6 enc Try.prog Try.f7 Rows.emitWritesRow.domain false) (Rows.emitWritesSpec.post enc Try.prog Try.f7 false true false false) := by
  refine returnsInHanded_of_change (C := Try.checked) own started (by kernel_rfl) Try.func7
    (ChangeSpec.witness6 (enc := enc) (C := Try.checked) false ⟨#[], #[.slice none 0 0], []⟩ 8 (by kernel_rfl) (by kernel_rfl) (by kernel_rfl) (by kernel_rfl)) ?_
  intro W base args ds gs before hval hW _ _
  exact writes_contract H enc W base args ds gs before hval hW
theorem writes_proved : Rows.EmitWritesSaid :=
  OpenClaim.holds_of_wide 7 Try.f7 rfl rfl rfl rfl rfl rfl rfl ⟨rfl, rfl, rfl, rfl, rfl⟩ rfl rfl rfl rfl rfl (by kernel_rfl) Try.func7 (by kernel_rfl)
    (of_decide_eq_true (by kernel_rfl)) (by unfold Func.isWrapper; first | (rw [if_pos (by decide +kernel)]; kernel_rfl) | (rw [if_neg (by decide +kernel)]; exact ⟨rfl, rfl⟩))
    (fun os started H enc _ => writes_lifted os started H enc)
end Go.Proofs.Ytecjdohpfijmpaa.emitWrites
