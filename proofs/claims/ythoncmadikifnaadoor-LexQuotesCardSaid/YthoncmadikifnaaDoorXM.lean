/- The program logic's rules: operations that a guard leaves out, so that what hangs on them is left out too. No condition. -/
import Derived.Test.YthoncmadikifnaaDoorXL
import Derived.Scope
set_option linter.unusedVariables false
set_option linter.unusedSimpArgs false
namespace Go.Proofs.YthoncmadikifnaaDoor.X
open Go Go.RowKit
section
variable {P : Program} {N : Nat} {ops : Array Oper} {l : List Oper} {s : St} {Q : St → Prop} {o : Oper}
theorem TriL.step {R : List Comp} {ws : St} (hs : StepOK P N ops o s R ws) (h : TriL P N ops l (ws ++ s) Q) : TriL P N ops (o :: l) s Q := by
  intro E a w ⟨G, L, hr⟩ QQ hQ
  refine wpList_step fun K hK => ?_
  exact hs s (fun _ _ => rfl) E G L a w hr K QQ fun a' w' G' L' hr' => hK _ _ (h E _ _ ⟨G', L', hr'⟩ QQ hQ)
theorem V_undef (G : Gh) : V G undef (.tup []) := V.tup #[] [] rfl (fun j c h => by simp at h)
theorem StepOK.offu {d e : Nat} {b : Bool} (hN : d < N) (he : e < N) (hd : o.dst = some e) (hg : gslot ops o = some (d, b)) (hc : get s (.s d) = some (.sv (.v (.bool (!b))))) : StepOK P N ops o s [.s d] [(.s e, .sv (.v (.tup [])))] := by
  intro t hR E G L a w hr K Q hK
  rw [wanted_of hr hN hg (by rw [hR (.s d) (List.mem_cons_self ..)]; exact hc), if_neg (by cases b <;> simp), hd]
  exact hK _ _ G L (hr.put e he undef (.v (.tup [])) (V_undef G))
theorem wanted_un {E : Ent} {G : Gh} {L : Loc} {a : Act} {w : World} (hr : Rel E N G L a w s) {d : Nat} {b : Bool} (hN : d < N) (hg : gslot ops o = some (d, b)) (hc : get s (.s d) = some (.sv (.v (.tup [])))) : Region.wanted o (yielded ops a.tmps) = false := by
  unfold gslot at hg
  split at hg
  · rename_i j b' hgd
    cases hd : (ops[j]?).bind (·.dst) with
    | none => rw [hd] at hg; cases hg
    | some d' =>
      rw [hd] at hg
      simp only [Option.map_some, Option.some.injEq, Prod.mk.injEq] at hg
      obtain ⟨rfl, rfl⟩ := hg
      have hv : V G (a.tmps.getD d' undef) (.tup []) := hr.slot d' _ hc
      have hsz := hr.size
      have hlt : d' < a.tmps.size := by rw [hsz]; exact hN
      rw [Array.getD_eq_getD_getElem?, Array.getElem?_eq_getElem hlt] at hv
      simp only [Option.getD_some] at hv
      simp only [Region.wanted, hgd, yielded, hd, Option.bind_some, Array.getElem?_eq_getElem hlt]
      generalize a.tmps[d'] = u at hv
      cases hv
      cases b' <;> rfl
  · cases hg
theorem StepOK.offg {d e : Nat} {b : Bool} (hN : d < N) (he : e < N) (hd : o.dst = some e) (hg : gslot ops o = some (d, b)) (hc : get s (.s d) = some (.sv (.v (.tup [])))) : StepOK P N ops o s [.s d] [(.s e, .sv (.v (.tup [])))] := by
  intro t hR E G L a w hr K Q hK
  rw [wanted_un hr hN hg (by rw [hR (.s d) (List.mem_cons_self ..)]; exact hc), if_neg (by simp), hd]
  exact hK _ _ G L (hr.put e he undef (.v (.tup [])) (V_undef G))
/-- left out by a guard that is not met -/
theorem TriL.skipu {e d : Nat} {b b' : Bool} (hd : o.dst = some e) (hg : gslot ops o = some (d, b)) (hN : d < N) (he : e < N) (hc : get s (.s d) = some (.sv (.v (.bool b')))) (hb : b' = !b) (h : TriL P N ops l ((.s e, .sv (.v (.tup []))) :: s) Q) : TriL P N ops (o :: l) s Q :=
  TriL.step (StepOK.offu hN he hd hg (hb ▸ hc)) h
/-- left out as its guard was -/
theorem TriL.skipg {e d : Nat} {b : Bool} (hd : o.dst = some e) (hg : gslot ops o = some (d, b)) (hN : d < N) (he : e < N) (hc : get s (.s d) = some (.sv (.v (.tup [])))) (h : TriL P N ops l ((.s e, .sv (.v (.tup []))) :: s) Q) : TriL P N ops (o :: l) s Q :=
  TriL.step (StepOK.offg hN he hd hg hc) h
theorem TriD.skipu {A : List (List Nat)} {acc : List (List Comp × St)} {e d : Nat} {b b' : Bool} (hd : o.dst = some e) (hg : gslot ops o = some (d, b)) (hN : d < N) (he : e < N) (hc : get s (.s d) = some (.sv (.v (.bool b')))) (hb : b' = !b) (h : TriD P N ops A Q (acc ++ [([.s d], [(.s e, .sv (.v (.tup [])))])]) l ((.s e, .sv (.v (.tup []))) :: s)) : TriD P N ops A Q acc (o :: l) s :=
  TriD.cons (StepOK.offu hN he hd hg (hb ▸ hc)) h
theorem TriD.skipg {A : List (List Nat)} {acc : List (List Comp × St)} {e d : Nat} {b : Bool} (hd : o.dst = some e) (hg : gslot ops o = some (d, b)) (hN : d < N) (he : e < N) (hc : get s (.s d) = some (.sv (.v (.tup [])))) (h : TriD P N ops A Q (acc ++ [([.s d], [(.s e, .sv (.v (.tup [])))])]) l ((.s e, .sv (.v (.tup []))) :: s)) : TriD P N ops A Q acc (o :: l) s :=
  TriD.cons (StepOK.offg hN he hd hg hc) h
theorem call_keep {s : St} {d : Nat} {o : Oper} {f : FuncId} {R : List Comp} {«as» : List AV} {H : Hp} {r : AV} (hp : Run P f «as» H r H) (hd : o.dst = some d) (hN : d < N) (hH : get s .h = some (.hp H))
    (h : ∀ E G L a w t, Rel E N G L a w t → Reads R s t → ∃ cargs, (execOp a.eval o).run P w = .ok (.enter f cargs) w ∧ VL G cargs «as») : OpOK P N o s (R ++ [.h]) [(.s d, .sv (.v r))] := by
  intro t hR E G L a w hr K Q hK
  obtain ⟨cargs, he, hV⟩ := h E G L a w t hr hR.left
  obtain ⟨H2, hH2, hok, hmay⟩ := hr.heap
  have hHt : get t .h = some (.hp H) := by rw [hR .h (by simp)]; exact hH
  rw [hHt] at hH2; cases hH2
  unfold Oper.wp
  rw [he]
  refine (hp G w cargs (hr.geAt (by assumption)) hr.kn hok hV).mono ?_
  rintro e w' ⟨v, G', rfl, hv, hx, hkn, hok', hf, hft⟩
  refine hK v w' G' L ?_
  rw [hd]
  refine ((hr.called (by assumption) hx hkn hok' hf hft).put d hN v (.v r) hv).ext fun c => ?_
  simp only [List.cons_append, List.nil_append, get]
  split
  · rfl
  · split
    · rename_i h2; subst h2; exact hHt
    · rfl
/-- a call that leaves the objects as they are -/
theorem op_callk {s : St} {d : Nat} {ty : TypeId} {pos : String} {af : Array Edge} {g : Option (Nat × Bool)} {f : FuncId} {xs : Array Operand} {tys : Array TypeId} {«as» : List AV} {r : AV} {H : Hp} (hN : d < N) (hf : isFn P f = true) (hH : get s .h = some (.hp H)) (ha : opvs xs.toList s = some «as») (hp : Run P f «as» H r H) :
    OpOK P N ⟨some d, .call { callee := .value (.func f), args := xs, argTypes := tys }, ty, pos, af, g⟩ s (rds xs.toList ++ [.h]) [(.s d, .sv (.v r))] :=
  call_keep hp rfl hN hH (enter_func hf ha)
end
theorem TriL.c4 {P : Program} {N : Nat} {ops : Array Oper} {l : List Oper} {s : St} {Q : St → Prop} {o : Oper} {R : List Comp} {c d e f : Comp} {v u y z : CV} (hg : o.guard = none) (ho : OpOK P N o s R [(c, v), (d, u), (e, y), (f, z)]) (h : TriL P N ops l ((c, v) :: (d, u) :: (e, y) :: (f, z) :: s) Q) : TriL P N ops (o :: l) s Q := TriL.cons hg ho h
/-- A scope without a goto. -/
theorem Tri.scope {P : Program} {N : Nat} {c : Code} {s : St} {Q : Exit → St → Prop} (h : Tri P N c s fun e s' => match e with | .goto _ => False | e => Q e s') : Tri P N (.scope c) s Q := by
  intro E a w hf
  refine wp_scope_straight (wp_mono (h E a w hf) ?_)
  rintro e a' w' ⟨s', h1, h2⟩
  cases e with
  | goto l => exact h2.elim
  | _ => exact ⟨s', h1, h2⟩
/-- Ways meet. -/
theorem Tri.join {P : Program} {N : Nat} {c d : Code} {s : St} {Q : Exit → St → Prop} (J : St → Prop) (h1 : Tri P N c s fun e s' => match e with | .normal => J s' | e => Q e s') (h2 : ∀ s', J s' → Tri P N d s' Q) : Tri P N (.seq c d) s Q :=
  Tri.seq (h1.mono fun e s' h => by
    cases e <;> first | exact h2 s' h | exact h)
end Go.Proofs.YthoncmadikifnaaDoor.X
