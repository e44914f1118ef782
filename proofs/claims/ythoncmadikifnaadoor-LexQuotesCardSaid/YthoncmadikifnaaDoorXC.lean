/- The program logic's rules: shorthands. No condition. -/
import Derived.Test.YthoncmadikifnaaDoorXB
set_option linter.unusedVariables false
set_option linter.unusedSimpArgs false
namespace Go.Proofs.YthoncmadikifnaaDoor.X
open Go Go.RowKit

theorem ltb {a b : Nat} (h : Nat.ble (a + 1) b = true) : a < b := Nat.le_of_ble_eq_true h
theorem leb {a b : Nat} (h : Nat.ble a b = true) : a ≤ b := Nat.le_of_ble_eq_true h
section
variable {P : Program} {N : Nat} {ops : Array Oper} {l : List Oper} {s : St} {Q : St → Prop} {o : Oper} {R : List Comp}
/-- One operation that writes one component; two; three. -/
theorem TriL.c1 {c : Comp} {v : CV} (hg : o.guard = none) (ho : OpOK P N o s R [(c, v)]) (h : TriL P N ops l ((c, v) :: s) Q) : TriL P N ops (o :: l) s Q := TriL.cons hg ho h
theorem TriL.c2 {c d : Comp} {v u : CV} (hg : o.guard = none) (ho : OpOK P N o s R [(c, v), (d, u)]) (h : TriL P N ops l ((c, v) :: (d, u) :: s) Q) : TriL P N ops (o :: l) s Q := TriL.cons hg ho h
theorem TriL.c3 {c d e : Comp} {v u y : CV} (hg : o.guard = none) (ho : OpOK P N o s R [(c, v), (d, u), (e, y)]) (h : TriL P N ops l ((c, v) :: (d, u) :: (e, y) :: s) Q) : TriL P N ops (o :: l) s Q := TriL.cons hg ho h
/-- The same where a guard lets it. -/
theorem TriL.g1 {c : Comp} {v : CV} {d : Nat} {b b' : Bool} (hg : gslot ops o = some (d, b)) (hN : d < N) (hc : get s (.s d) = some (.sv (.v (.bool b')))) (hb : b' = b) (ho : OpOK P N o s R [(c, v)]) (h : TriL P N ops l ((c, v) :: s) Q) : TriL P N ops (o :: l) s Q := TriL.on hN hg (hb ▸ hc) ho h
theorem TriL.g2 {c c' : Comp} {v u : CV} {d : Nat} {b b' : Bool} (hg : gslot ops o = some (d, b)) (hN : d < N) (hc : get s (.s d) = some (.sv (.v (.bool b')))) (hb : b' = b) (ho : OpOK P N o s R [(c, v), (c', u)]) (h : TriL P N ops l ((c, v) :: (c', u) :: s) Q) : TriL P N ops (o :: l) s Q := TriL.on hN hg (hb ▸ hc) ho h
theorem TriL.skip {e d : Nat} {b b' : Bool} (hd : o.dst = some e) (hg : gslot ops o = some (d, b)) (hN : d < N) (hc : get s (.s d) = some (.sv (.v (.bool b')))) (hb : b' = !b) (h : TriL P N ops l ((.s e, .gone) :: s) Q) : TriL P N ops (o :: l) s Q :=
  TriL.off hN hg (hb ▸ hc) (by rw [hd]; exact h)
/-- A slot's bool, one way or the other. -/
theorem TriL.split {d : Nat} {b : Bool} (hc : get s (.s d) = some (.sv (.v (.bool b)))) (h1 : b = true → TriL P N ops l s Q) (h2 : b = false → TriL P N ops l s Q) : TriL P N ops l s Q := by
  cases b
  · exact h2 rfl
  · exact h1 rfl
/-- A region that draws: its chain so far. -/
def TriD (P : Program) (N : Nat) (ops : Array Oper) (A : List (List Nat)) (Q : St → Prop) (acc : List (List Comp × St)) (l : List Oper) (s : St) : Prop := ∃ rs s', Chain P N ops l s rs s' ∧ ordFrom 0 (acc ++ rs) A = true ∧ Kept s' Q
theorem TriD.nil {A : List (List Nat)} {acc : List (List Comp × St)} (ho : ordFrom 0 acc A = true) (hk : Kept s Q) : TriD P N ops A Q acc [] s := ⟨[], s, .nil s, by simpa using ho, hk⟩
theorem TriD.cons {A : List (List Nat)} {acc : List (List Comp × St)} {ws : St} (hs : StepOK P N ops o s R ws) (h : TriD P N ops A Q (acc ++ [(R, ws)]) l (ws ++ s)) : TriD P N ops A Q acc (o :: l) s := by
  obtain ⟨rs, s', h1, h2, h3⟩ := h
  exact ⟨(R, ws) :: rs, s', .cons hs h1, by simpa using h2, h3⟩
theorem TriD.c1 {A : List (List Nat)} {acc : List (List Comp × St)} {c : Comp} {v : CV} (hg : o.guard = none) (ho : OpOK P N o s R [(c, v)]) (h : TriD P N ops A Q (acc ++ [(R, [(c, v)])]) l ((c, v) :: s)) : TriD P N ops A Q acc (o :: l) s := TriD.cons (StepOK.free hg ho) h
theorem TriD.c2 {A : List (List Nat)} {acc : List (List Comp × St)} {c d : Comp} {v u : CV} (hg : o.guard = none) (ho : OpOK P N o s R [(c, v), (d, u)]) (h : TriD P N ops A Q (acc ++ [(R, [(c, v), (d, u)])]) l ((c, v) :: (d, u) :: s)) : TriD P N ops A Q acc (o :: l) s := TriD.cons (StepOK.free hg ho) h
theorem TriD.c3 {A : List (List Nat)} {acc : List (List Comp × St)} {c d e : Comp} {v u y : CV} (hg : o.guard = none) (ho : OpOK P N o s R [(c, v), (d, u), (e, y)]) (h : TriD P N ops A Q (acc ++ [(R, [(c, v), (d, u), (e, y)])]) l ((c, v) :: (d, u) :: (e, y) :: s)) : TriD P N ops A Q acc (o :: l) s := TriD.cons (StepOK.free hg ho) h
theorem TriD.g1 {A : List (List Nat)} {acc : List (List Comp × St)} {c : Comp} {v : CV} {d : Nat} {b b' : Bool} (hg : gslot ops o = some (d, b)) (hN : d < N) (hc : get s (.s d) = some (.sv (.v (.bool b')))) (hb : b' = b) (ho : OpOK P N o s R [(c, v)]) (h : TriD P N ops A Q (acc ++ [(.s d :: R, [(c, v)])]) l ((c, v) :: s)) : TriD P N ops A Q acc (o :: l) s := TriD.cons (StepOK.on hN hg (hb ▸ hc) ho) h
theorem TriD.g2 {A : List (List Nat)} {acc : List (List Comp × St)} {c c' : Comp} {v u : CV} {d : Nat} {b b' : Bool} (hg : gslot ops o = some (d, b)) (hN : d < N) (hc : get s (.s d) = some (.sv (.v (.bool b')))) (hb : b' = b) (ho : OpOK P N o s R [(c, v), (c', u)]) (h : TriD P N ops A Q (acc ++ [(.s d :: R, [(c, v), (c', u)])]) l ((c, v) :: (c', u) :: s)) : TriD P N ops A Q acc (o :: l) s := TriD.cons (StepOK.on hN hg (hb ▸ hc) ho) h
theorem TriD.skip {A : List (List Nat)} {acc : List (List Comp × St)} {e d : Nat} {b b' : Bool} (hd : o.dst = some e) (hg : gslot ops o = some (d, b)) (hN : d < N) (hc : get s (.s d) = some (.sv (.v (.bool b')))) (hb : b' = !b) (h : TriD P N ops A Q (acc ++ [([.s d], [(.s e, .gone)])]) l ((.s e, .gone) :: s)) : TriD P N ops A Q acc (o :: l) s := by
  have := StepOK.off (P := P) hN hg (hb ▸ hc)
  rw [hd] at this
  exact TriD.cons this h
end
theorem TriD.split {P : Program} {N : Nat} {ops : Array Oper} {l : List Oper} {s : St} {Q : St → Prop} {A : List (List Nat)} {acc : List (List Comp × St)} {d : Nat} {b : Bool} (hc : get s (.s d) = some (.sv (.v (.bool b)))) (h1 : b = true → TriD P N ops A Q acc l s) (h2 : b = false → TriD P N ops A Q acc l s) : TriD P N ops A Q acc l s := by
  cases b
  · exact h2 rfl
  · exact h1 rfl
theorem Tri.condT {P : Program} {N : Nat} {s : St} {Q : Exit → St → Prop} {t : Nat} {c d : Code} {b : Bool} (hc : get s (.s t) = some (.sv (.v (.bool b)))) (hb : b = true) (h : Tri P N c s Q) : Tri P N (.cond (.tmp t) c d) s Q :=
  Tri.cond hc (fun _ => h) (fun e => by rw [hb] at e; cases e)
theorem Tri.condF {P : Program} {N : Nat} {s : St} {Q : Exit → St → Prop} {t : Nat} {c d : Code} {b : Bool} (hc : get s (.s t) = some (.sv (.v (.bool b)))) (hb : b = false) (h : Tri P N d s Q) : Tri P N (.cond (.tmp t) c d) s Q :=
  Tri.cond hc (fun e => by rw [hb] at e; cases e) (fun _ => h)
section
variable {P : Program} {N : Nat} {s : St} {d : Nat} {ty : TypeId} {pos : String} {af : Array Edge} {g : Option (Nat × Bool)}
theorem op_pickt {c x y : Operand} {b : Bool} {z : Sv} (hN : d < N) (hc : opv c s = some (.bool b)) (hb : b = true) (hx : opd x s = some z) :
    OpOK P N ⟨some d, .pick c x y, ty, pos, af, g⟩ s (rd c ++ (rd x ++ rd y)) [(.s d, .sv z)] := op_pick hN hc (by rw [hb]; exact hx)
theorem op_pickf {c x y : Operand} {b : Bool} {z : Sv} (hN : d < N) (hc : opv c s = some (.bool b)) (hb : b = false) (hy : opd y s = some z) :
    OpOK P N ⟨some d, .pick c x y, ty, pos, af, g⟩ s (rd c ++ (rd x ++ rd y)) [(.s d, .sv z)] := op_pick hN hc (by rw [hb]; exact hy)
end
theorem Tri.drawn {P : Program} {N : Nat} {s : St} {id : Nat} {l : List Oper} {Q : Exit → St → Prop} (hm : P.follows .mixedOrders = true) (hback : backFrom 0 (l.map edges) = true) (h : TriD P N l.toArray (ancs [] (l.map edges)) (Q .normal) [] l s) : Tri P N (.region id l.toArray true) s Q := by
  obtain ⟨rs, s', h1, h2, h3⟩ := h
  exact Tri.draw hm h1 hback (by simpa using h2) h3

theorem Tri.blk {P : Program} {N : Nat} {s : St} {Q : Exit → St → Prop} {id : Nat} {c : Code} (h : Tri P N c s fun e s' => match e with | .exit id' => bif Nat.beq id' id then Q .normal s' else Q (.exit id') s' | e => Q e s') : Tri P N (.block id c) s Q := by
  refine Tri.block (h.mono ?_)
  intro e s' hq
  cases e with
  | exit id' =>
    by_cases hid : id' = id
    · subst hid
      have hb : Nat.beq id' id' = true := Nat.beq_refl id'
      simp only [hb, cond_true] at hq
      simp only [if_true]
      exact hq
    · have : Nat.beq id' id = false := by
        cases hb : Nat.beq id' id with
        | false => rfl
        | true => exact absurd (Nat.eq_of_beq_eq_true hb) hid
      simp only [this, cond_false] at hq
      simp only [hid, if_false]
      exact hq
  | _ => exact hq
theorem ResOK.r1 {P : Program} {fn : Func} {s : St} {x : ResultVar} {a : AV} (hf : fn.results = [x].toArray) (h : ResL P s [x] [a]) : ResOK P fn s a := ResOK.mk hf h
theorem ResOK.r2 {P : Program} {fn : Func} {s : St} {x y : ResultVar} {a b : AV} (hf : fn.results = [x, y].toArray) (h : ResL P s [x, y] [a, b]) : ResOK P fn s (.tup [a, b]) := ResOK.mk hf h
theorem ResOK.r3 {P : Program} {fn : Func} {s : St} {x y z : ResultVar} {a b c : AV} (hf : fn.results = [x, y, z].toArray) (h : ResL P s [x, y, z] [a, b, c]) : ResOK P fn s (.tup [a, b, c]) := ResOK.mk hf h
theorem ResOK.r0 {P : Program} {fn : Func} {s : St} (hf : fn.results = #[]) : ResOK P fn s (.tup []) := ResOK.mk (l := []) hf .nil
theorem ResOK.cast {P : Program} {fn : Func} {s : St} {r r' : AV} (h : ResOK P fn s r) (e : r = r') : ResOK P fn s r' := e ▸ h
/-- A function: what its code comes to. -/
theorem Pure.of_tri {P : Program} {f : FuncId} {fn : Func} {c : Code} {N : Nat} {args : List AV} {r : AV} (hf : P.funcs[f]? = some fn) (hb : fn.body = some c) (hN : fn.ntmps = N) (hle : args.length ≤ N)
    (h : ∀ H, Tri P N c ((.h, .hp H) :: initS args 0) fun e s' => (e = .normal ∨ e = .ret) ∧ ResOK P fn s' r ∧ get s' .h = some (.hp H)) : Pure P f args r := fun H => Run.of_tri hf hb hN hle (h H)
end Go.Proofs.YthoncmadikifnaaDoor.X
