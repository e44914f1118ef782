/- The program logic's rules: calls whose result owns its row. No condition. -/
import Derived.Test.YthoncmadikifnaaDoorXE
set_option linter.unusedVariables false
set_option linter.unusedSimpArgs false
namespace Go.Proofs.YthoncmadikifnaaDoor.X
open Go Go.RowKit

/-- A row comes that nobody has. -/
theorem Rel.addtok {E : Ent} {N : Nat} {G : Gh} {L : Loc} {a : Act} {w : World} {s : St} (h : Rel E N G L a w s) {d el esz : Nat} {m : Bool} {xs : List AV} {v : Value} (hd : get s (.t d) = none) (hr : RowOK G w m el esz v xs)
    (hb : ∀ b, v.ownBlock = some b → E.may b ∧ (∀ id, G.ob id ≠ some b) ∧ (∀ c, ¬ owns s L c b) ∧ ∀ H, get s .h = some (.hp H) → ¬ foot G H w b) : Rel E N G (L.setTok d v) a w ((.t d, .tk m el esz xs) :: s) := by
  have htok0 := h.notok d hd
  have htl := Loc.setTok_le (v := v) htok0
  have hown : ∀ c b, owns ((.t d, .tk m el esz xs) :: s) (L.setTok d v) c b → (c = .t d ∧ v.ownBlock = some b) ∨ owns s L c b := by
    intro c b hc
    by_cases e : c = .t d
    · subst e
      obtain ⟨_, u, hu, hb⟩ := hc
      simp [Loc.setTok] at hu
      subst hu
      exact .inl ⟨rfl, hb⟩
    · have h2 := owns_cons e hc
      refine .inr ?_
      cases c with
      | b j => exact h2
      | t j =>
        obtain ⟨h3, u, hu, h4⟩ := h2
        have hj : j ≠ d := fun e' => e (by rw [e'])
        exact ⟨h3, u, by simpa [Loc.setTok, hj] using hu, h4⟩
      | s n => exact h2
      | h => exact h2
  refine ⟨h.size, h.defs, h.ge, h.kn, h.old, h.obs, h.obn, h.fr, fun n x g => (h.slot n x (by simpa [get] using g)).loc (L := L) (L' := L.setTok d v) (fun _ _ e => e) htl, fun k cv g hl => (h.box k cv (by simpa [get] using g) hl).loc (L := L) (L' := L.setTok d v) (fun _ _ e => e) htl, ?_,
    ?_, by simpa [get] using h.heap, ?_, fun k g => h.nobox k (by simpa [get] using g), ?_⟩
  · intro j m2 el2 esz2 xs2 g
    by_cases e : j = d
    · subst e
      simp [get] at g
      obtain ⟨rfl, rfl, rfl, rfl⟩ := g
      exact ⟨v, by simp [Loc.setTok], hr, fun b e => ⟨(hb b e).1, (hb b e).2.1⟩⟩
    · obtain ⟨u, hu, rest⟩ := h.tok j m2 el2 esz2 xs2 (by simpa [get, Ne.symm e] using g)
      exact ⟨u, htl _ _ hu, rest⟩
  · intro c e b hc he
    rcases hown c b hc with ⟨rfl, h1⟩ | h1 <;> rcases hown e b he with ⟨rfl, h2⟩ | h2
    · rfl
    · exact absurd h2 ((hb b h1).2.2.1 e)
    · exact absurd h1 ((hb b h2).2.2.1 c)
    · exact h.disj c e b h1 h2
  · intro c b hc H g
    have g' : get s .h = some (.hp H) := by simpa [get] using g
    rcases hown c b hc with ⟨rfl, h1⟩ | h1
    · exact (hb b h1).2.2.2 H g'
    · exact h.hdisj c b h1 H g'
  · intro j g
    by_cases e : j = d
    · subst e; simp [get] at g
    · have := h.notok j (by simpa [get, Ne.symm e] using g)
      simpa [Loc.setTok, e] using this

/-- A CALL WHOSE RESULT OWNS ITS ROW: as 'Run'; the result is a slice whose row nobody else has. -/
def RunO (P : Program) (f : FuncId) (args : List AV) (H : Hp) (el esz : Nat) (xs : List AV) (H' : Hp) : Prop :=
  ∀ G w cargs, GE ⟨G, w, foot G H w⟩ → KnOK G w → HpOK G w H → VL G cargs args → Calls P f cargs w fun e w' =>
    ∃ v G', e = .returned v ∧ (RowOK G' w' false el esz v xs ∧ ∀ b, v.ownBlock = some b → (w.heap.size ≤ b ∨ foot G H w b) ∧ (∀ id, G'.ob id ≠ some b) ∧ ¬ foot G' H' w' b) ∧
      GExt (foot G H w) G G' w ∧ KnOK G' w' ∧ HpOK G' w' H' ∧ Fr (foot G H w) w w' ∧ ∀ b, foot G' H' w' b → w.heap.size ≤ b ∨ foot G H w b
def PureO (P : Program) (f : FuncId) (args : List AV) (el esz : Nat) (xs : List AV) : Prop := ∀ H, RunO P f args H el esz xs H
/-- It may be taken as any other call. -/
theorem RunO.run {P : Program} {f : FuncId} {args : List AV} {H H' : Hp} {el esz : Nat} {xs : List AV} (h : RunO P f args H el esz xs H') : Run P f args H (.sl xs) H' := fun G w cargs hg hk hH hV =>
  (h G w cargs hg hk hH hV).mono fun e w' ⟨v, G', he, ⟨⟨cells, hv, _⟩, _⟩, rest⟩ => ⟨v, G', he, hv rfl, rest⟩
theorem PureO.pure {P : Program} {f : FuncId} {args : List AV} {el esz : Nat} {xs : List AV} (h : PureO P f args el esz xs) : Pure P f args (.sl xs) := fun H => (h H).run
theorem RunO.of_tri {P : Program} {f : FuncId} {fn : Func} {c : Code} {N : Nat} {args : List AV} {H : Hp} {el esz : Nat} {xs : List AV} {H' : Hp} {tr : Nat} (hf : P.funcs[f]? = some fn) (hb : fn.body = some c) (hN : fn.ntmps = N) (hle : args.length ≤ N) (hres : fn.results = [ResultVar.tmp tr].toArray)
    (h : Tri P N c ((.h, .hp H) :: initS args 0) fun e s' => (e = .normal ∨ e = .ret) ∧ (∃ k, get s' (.s tr) = some (.sv (.ow k xs)) ∧ get s' (.t k) = some (.tk false el esz xs)) ∧ get s' .h = some (.hp H')) : RunO P f args H el esz xs H' := by
  intro G w cargs hg hk hH hV
  refine calls_of_wp hf hb ?_
  have h0 := fits0 hN hle hg hk hH hV
  refine wp_mono (h ⟨G, w, foot G H w⟩ _ w h0) ?_
  rintro e a' w' ⟨s', ⟨G', L', hr⟩, he, ⟨k, hs, ht⟩, hh⟩
  obtain ⟨v, hv, hV'⟩ := (ResOK.r1 (P := P) (fn := fn) (s := s') (x := .tmp tr) (a := .sl xs) hres (.tmp (by simp [opv, opd, hs, Sv.av]) .nil)) _ _ _ _ _ _ hr
  obtain ⟨H2, g, hok, hmay⟩ := hr.heap
  rw [hh] at g; cases g
  obtain ⟨u, hu, hrow, hm⟩ := hr.tok k _ _ _ _ ht
  obtain ⟨_, hu2⟩ := hr.slot tr _ hs
  rw [hu2] at hu; cases hu
  have hvu : v = a'.tmps.getD tr undef := by
    have : (results fn a'.tmps).run P w' = .ok (a'.tmps.getD tr undef) w' := by
      simp [results, hres]
    rw [this] at hv; cases hv; rfl
  subst hvu
  have hpost : ∃ v2 G', Ending.returned (a'.tmps.getD tr undef) = .returned v2 ∧ (RowOK G' w' false el esz v2 xs ∧ ∀ b, v2.ownBlock = some b → (w.heap.size ≤ b ∨ foot G H w b) ∧ (∀ id, G'.ob id ≠ some b) ∧ ¬ foot G' H' w' b) ∧
      GExt (foot G H w) G G' w ∧ KnOK G' w' ∧ HpOK G' w' H' ∧ Fr (foot G H w) w w' ∧ ∀ b, foot G' H' w' b → w.heap.size ≤ b ∨ foot G H w b :=
    ⟨_, G', rfl, ⟨hrow, fun b hb => ⟨(hm b hb).1, (hm b hb).2, hr.hdisj (.t k) b ⟨⟨_, _, _, _, ht⟩, _, hu2, hb⟩ H' hh⟩⟩, ⟨hr.old, hr.obs, hr.obn⟩, hr.kn, hok, hr.fr, hmay⟩
  rcases he with rfl | rfl
  · exact ⟨hr.defs, _, hv, hpost⟩
  · exact ⟨hr.defs, _, hv, hpost⟩
theorem PureO.of_tri {P : Program} {f : FuncId} {fn : Func} {c : Code} {N : Nat} {args : List AV} {el esz : Nat} {xs : List AV} {tr : Nat} (hf : P.funcs[f]? = some fn) (hb : fn.body = some c) (hN : fn.ntmps = N) (hle : args.length ≤ N) (hres : fn.results = [ResultVar.tmp tr].toArray)
    (h : ∀ H, Tri P N c ((.h, .hp H) :: initS args 0) fun e s' => (e = .normal ∨ e = .ret) ∧ (∃ k, get s' (.s tr) = some (.sv (.ow k xs)) ∧ get s' (.t k) = some (.tk false el esz xs)) ∧ get s' .h = some (.hp H)) : PureO P f args el esz xs := fun H => RunO.of_tri hf hb hN hle hres (h H)
section
variable {P : Program} {N : Nat} {s : St} {d : Nat} {ty : TypeId} {pos : String} {af : Array Edge} {g : Option (Nat × Bool)}
theorem call_pureO {o : Oper} {f : FuncId} {R : List Comp} {«as» : List AV} {el esz : Nat} {xs : List AV} (hp : PureO P f «as» el esz xs) (hd : o.dst = some d) (hN : d < N) (htd : get s (.t d) = none)
    (h : ∀ E G L a w t, Rel E N G L a w t → Reads R s t → ∃ cargs, (execOp a.eval o).run P w = .ok (.enter f cargs) w ∧ VL G cargs «as») : OpOK P N o s (R ++ [.t d]) [(.s d, .sv (.ow d xs)), (.t d, .tk false el esz xs)] := by
  intro t hR E G L a w hr K Q hK
  obtain ⟨cargs, he, hV⟩ := h E G L a w t hr hR.left
  obtain ⟨H, hH, hok, hmay⟩ := hr.heap
  have htd' : get t (.t d) = none := by rw [hR (.t d) (by simp)]; exact htd
  unfold Oper.wp
  rw [he]
  refine (hp H G w cargs (hr.geAt (by assumption)) hr.kn hok hV).mono ?_
  rintro e w' ⟨v, G', rfl, ⟨hrow, hbk⟩, hx, hkn, hok', hf, hft⟩
  have h1 := hr.called hH hx hkn hok' hf hft
  have hown : ∀ c b, owns ((.h, .hp H) :: t) L c b → owns t L c b := by
    intro c b hc
    cases c <;> simp only [owns, get, reduceCtorEq, if_false] at hc ⊢ <;> exact hc
  have h2 := h1.addtok (d := d) (by simpa [get] using htd') hrow (fun b hb => by
    obtain ⟨q1, q2, q3⟩ := hbk b hb
    refine ⟨?_, q2, fun c hc => ?_, fun H2 g2 => ?_⟩
    · rcases q1 with q | q
      · exact .inl (Nat.le_trans hr.base_le q)
      · exact hmay b q
    · have hc' := hown c b hc
      rcases q1 with q | q
      · have := (owns_lt hr hc').1; omega
      · exact hr.hdisj c b hc' H hH q
    · simp [get] at g2; subst g2; exact q3)
  obtain ⟨cells, hv, ho, _⟩ := hrow
  have h3 := h2.put d hN v (.ow d xs) ⟨hv rfl, by simp [Loc.setTok]⟩
  refine hK v w' G' (L.setTok d v) ?_
  rw [hd]
  refine h3.ext fun c => ?_
  simp only [List.cons_append, List.nil_append, get]
  split
  · rfl
  · split
    · rfl
    · split
      · rename_i h4; subst h4; exact hH
      · rfl
theorem op_callo {f : FuncId} {xs : Array Operand} {tys : Array TypeId} {«as» : List AV} {el esz : Nat} {r : List AV} (hN : d < N) (hf : isFn P f = true) (ha : opvs xs.toList s = some «as») (hp : PureO P f «as» el esz r) (htd : get s (.t d) = none) :
    OpOK P N ⟨some d, .call { callee := .value (.func f), args := xs, argTypes := tys }, ty, pos, af, g⟩ s (rds xs.toList ++ [.t d]) [(.s d, .sv (.ow d r)), (.t d, .tk false el esz r)] :=
  call_pureO hp rfl hN htd (enter_func hf ha)
end
end Go.Proofs.YthoncmadikifnaaDoor.X
