/- The program logic's rules: a call of which only the answer is told. No condition. -/
import Derived.Test.YthoncmadikifnaaDoorXM
import Derived.Test.YthoncmadikifnaaDoorXF
set_option linter.unusedVariables false
set_option linter.unusedSimpArgs false
namespace Go.Proofs.YthoncmadikifnaaDoor.X
open Go Go.RowKit
/-- It answers what stands for 'r'; of the old blocks it turns the objects' alone. -/
def RunX (P : Program) (f : FuncId) (args : List AV) (H : Hp) (r : AV) : Prop :=
  ∀ G w cargs, GE ⟨G, w, foot G H w⟩ → KnOK G w → HpOK G w H → VL G cargs args → Calls P f cargs w fun e w' => ∃ v G', e = .returned v ∧ V G' v r ∧ Fr (foot G H w) w w'
theorem RunX.of_tri {P : Program} {f : FuncId} {fn : Func} {c : Code} {N : Nat} {args : List AV} {H : Hp} {r : AV} (hf : P.funcs[f]? = some fn) (hb : fn.body = some c) (hN : fn.ntmps = N) (hle : args.length ≤ N)
    (h : Tri P N c ((.h, .hp H) :: initS args 0) fun e s' => (e = .normal ∨ e = .ret) ∧ ResOK P fn s' r) : RunX P f args H r := by
  intro G w cargs hg hk hH hV
  refine calls_of_wp hf hb ?_
  have h0 := fits0 hN hle hg hk hH hV
  refine wp_mono (h ⟨G, w, foot G H w⟩ _ w h0) ?_
  rintro e a' w' ⟨s', ⟨G', L', hr⟩, he, hres⟩
  obtain ⟨v, hv, hV'⟩ := hres _ _ _ _ _ _ hr
  have hpost : ∃ v2 G', Ending.returned v = .returned v2 ∧ V G' v2 r ∧ Fr (foot G H w) w w' := ⟨v, G', rfl, hV', hr.fr⟩
  rcases he with rfl | rfl
  · exact ⟨hr.defs, v, hv, hpost⟩
  · exact ⟨hr.defs, v, hv, hpost⟩
/-- A law's call. -/
theorem law_runX {P : Program} {f : FuncId} {xs : List AV} (h : RunX P f xs hp0 (.bool true)) {W : World} {args : Array Value} (hg : gok W ∧ gN ≤ W.heap.size) (hv : VL (gh0 W) args xs) :
    Calls P f args W fun e w' => e = .returned (.bool true) ∧ Below W.heap.size W w' := by
  refine (h (gh0 W) W args ⟨hg.1, hg.2, fun g _ => hp0_foot _ _ g⟩ (fun b o v e => e) (hp0_ok _ _ fun _ => rfl) hv).mono fun e w' ⟨v, G', he, hV, hf⟩ => ?_
  cases hV
  exact ⟨he, hf.os, hf.tape, hf.output, hf.size, fun k hk => hf.block k hk (hp0_foot _ _ k)⟩
end Go.Proofs.YthoncmadikifnaaDoor.X
