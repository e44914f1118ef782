/- The program logic's rules: contracts of the library, said of worlds, as calls of the logic. No condition. -/
import Derived.Test.YthoncmadikifnaaDoorXP
import Derived.Test.YthoncmadikifnaaDoorXQ
set_option linter.unusedVariables false
namespace Go.Proofs.YthoncmadikifnaaDoor.X
open Go Go.RowKit
/-- A call that leaves all that was there as it was, and answers with what is known of. -/
theorem Pure.of_calls {P : Program} {f : FuncId} {args : List AV} {r : AV}
    (h : ∀ G w cargs, gok w → gN ≤ w.heap.size → KnOK G w → VL G cargs args → Calls P f cargs w fun e w' => ∃ v, e = .returned v ∧ V G v r ∧ Below w.heap.size w w') : Pure P f args r := by
  intro H G w cargs hg hk hH hV
  refine (h G w cargs hg.1 hg.2.1 hk hV).mono ?_
  rintro e w' ⟨v, he, hv, hb⟩
  obtain ⟨h1, h2⟩ := hH.stay (G' := G) (Gh.le.refl G) rfl (fun b hb' o => (hH.foot hb').2 o) (fun b hb' => hb.block b (hH.foot hb').1) hb.size
  refine ⟨v, G, he, hv, ⟨fun _ _ _ _ => rfl, fun _ _ h => h, fun _ _ h => .inl h⟩, fun b o u e2 => ?_, h1, ⟨hb.os, hb.tape, hb.output, hb.size, fun k hk' _ => hb.block k hk'⟩, fun b hb' => .inr ((h2 b).1 hb')⟩
  rw [World.cell?_of_block (w := w) (hb.block b (hk.lt e2))]
  exact hk b o u e2
/-- .. and the world. -/
theorem Pure.of_same {P : Program} {f : FuncId} {args : List AV} {r : AV}
    (h : ∀ G w cargs, gok w → gN ≤ w.heap.size → KnOK G w → VL G cargs args → Calls P f cargs w fun e w' => (∃ v, e = .returned v ∧ V G v r) ∧ w' = w) : Pure P f args r :=
  Pure.of_calls fun G w cargs hg hn hk hV => (h G w cargs hg hn hk hV).mono fun e w' ⟨⟨v, he, hv⟩, hw⟩ => ⟨v, he, hv, by rw [hw]; exact Below.refl _ _⟩
theorem VL.one {G : Gh} {c : Array Value} {a : AV} (h : VL G c [a]) : ∃ x, c = #[x] ∧ V G x a := by
  obtain ⟨h1, h2⟩ := h
  obtain ⟨l⟩ := c
  match l, h1 with
  | [x], _ => exact ⟨x, rfl, h2 0 a rfl⟩
theorem VL.two {G : Gh} {c : Array Value} {a b : AV} (h : VL G c [a, b]) : ∃ x y, c = #[x, y] ∧ V G x a ∧ V G y b := by
  obtain ⟨h1, h2⟩ := h
  obtain ⟨l⟩ := c
  match l, h1 with
  | [x, y], _ => exact ⟨x, y, rfl, h2 0 a rfl, h2 1 b rfl⟩
theorem VL.three {G : Gh} {c : Array Value} {a b d : AV} (h : VL G c [a, b, d]) : ∃ x y z, c = #[x, y, z] ∧ V G x a ∧ V G y b ∧ V G z d := by
  obtain ⟨h1, h2⟩ := h
  obtain ⟨l⟩ := c
  match l, h1 with
  | [x, y, z], _ => exact ⟨x, y, z, rfl, h2 0 a rfl, h2 1 b rfl, h2 2 d rfl⟩
theorem V.str_eq {G : Gh} {v : Value} {s : List UInt8} (h : V G v (.str s)) : v = .string ⟨s.toArray⟩ := by cases h; rfl
theorem V.int_eq {G : Gh} {v : Value} {k : IntKind} {n : Int} (h : V G v (.int k n)) : v = .int k n := by cases h; rfl
/-- a pair -/
theorem V.tup2 {G : Gh} {x y : Value} {a b : AV} (h1 : V G x a) (h2 : V G y b) : V G (.tuple #[x, y]) (.tup [a, b]) :=
  .tup _ _ rfl fun j c hj => by
    match j, hj with
    | 0, hj => cases hj; exact h1
    | 1, hj => cases hj; exact h2
section
variable {P : Program} {N : Nat} {s : St} {d : Nat} {ty : TypeId} {pos : String} {af : Array Edge} {g : Option (Nat × Bool)}
/-- an interface is nil -/
def ifnil : AV → Option Bool
  | .nili => some true
  | .ifc _ _ => some false
  | _ => none
theorem ifnil_sound {G : Gh} {v : Value} {a : AV} {b : Bool} (h : V G v a) (hb : ifnil a = some b) : (b = true ∧ v = .nilIface) ∨ (b = false ∧ ∃ t u, v = .iface t u) := by
  cases h <;> simp [ifnil] at hb
  · rename_i t v a h; subst hb; exact .inr ⟨rfl, t, v, rfl⟩
  · subst hb; exact .inl ⟨rfl, rfl⟩
theorem op_eqi {t1 t2 : TypeId} {x : Operand} {y : AV} {b : Bool} (hN : d < N) (ht : P.underlying t1 = some (.interface (P.methodsAt t1))) (hx : opv x s = some y) (hb : ifnil y = some b) :
    OpOK P N ⟨some d, .binOp .eql t1 x (.const .nilIface) t2, ty, pos, af, g⟩ s (rd x) [(.s d, .sv (.v (.bool b)))] :=
  OpOK.val rfl hN fun E G L a w t hr hR => by
    refine ⟨.bool b, ?_, .bool _⟩
    have hv := opv_sound hr hR hx
    have he : a.eval (.const .nilIface) = .nilIface := rfl
    rcases ifnil_sound hv hb with ⟨rfl, hp⟩ | ⟨rfl, tt, u, hp⟩
    · have hgd : (eqGuard .eql t1 x (.const .nilIface) .nilIface .nilIface).run P w = .ok () w := by rw [eqGuard_nil_constR]; rfl
      simp only [execOp, Sem.run_bind, hp, he, hgd, Result.andThen_ok, run_eql_nil_nil w t1 ht, Sem.run_pure]
    · have hgd : (eqGuard .eql t1 x (.const .nilIface) (.iface tt u) .nilIface).run P w = .ok () w := by simp [eqGuard]
      simp only [execOp, Sem.run_bind, hp, he, hgd, Result.andThen_ok, run_eql_held_nil w t1 tt u ht, Sem.run_pure]
theorem op_nei {t1 t2 : TypeId} {x : Operand} {y : AV} {b : Bool} (hN : d < N) (ht : P.underlying t1 = some (.interface (P.methodsAt t1))) (hx : opv x s = some y) (hb : ifnil y = some b) :
    OpOK P N ⟨some d, .binOp .neq t1 x (.const .nilIface) t2, ty, pos, af, g⟩ s (rd x) [(.s d, .sv (.v (.bool (!b))))] :=
  OpOK.val rfl hN fun E G L a w t hr hR => by
    refine ⟨.bool (!b), ?_, .bool _⟩
    have hv := opv_sound hr hR hx
    have he : a.eval (.const .nilIface) = .nilIface := rfl
    rcases ifnil_sound hv hb with ⟨rfl, hp⟩ | ⟨rfl, tt, u, hp⟩
    · have hgd : (eqGuard .neq t1 x (.const .nilIface) .nilIface .nilIface).run P w = .ok () w := by rw [eqGuard_nil_constR]; rfl
      simp only [execOp, Sem.run_bind, hp, he, hgd, Result.andThen_ok, run_neq_nil_nil w t1 ht, Sem.run_pure, Bool.not_true]
    · have hgd : (eqGuard .neq t1 x (.const .nilIface) (.iface tt u) .nilIface).run P w = .ok () w := by simp [eqGuard]
      simp only [execOp, Sem.run_bind, hp, he, hgd, Result.andThen_ok, run_neq_held_nil w t1 tt u ht, Sem.run_pure, Bool.not_false]
end
end Go.Proofs.YthoncmadikifnaaDoor.X
