/- The program logic's rules: what a call does, one operation, a region in the text's order, and code. No condition. -/
import Derived.Test.YthoncmadikifnaaDoorX1
import Derived.Deep.LoopGhost
set_option linter.unusedVariables false
namespace Go.Proofs.YthoncmadikifnaaDoor.X
open Go Go.RowKit

/-! ### Calls -/
/-- More is known behind a call: of old blocks nothing new, but of such. -/
structure GExt (M : Nat → Prop) (G G' : Gh) (w : World) : Prop where
  kn : ∀ b o, b < w.heap.size → ¬ M b → G'.kn b o = G.kn b o
  ob : ∀ id b, G.ob id = some b → G'.ob id = some b
  obn : ∀ id b, G'.ob id = some b → G.ob id = some b ∨ w.heap.size ≤ b
def KnOK (G : Gh) (w : World) : Prop := ∀ b o v, G.kn b o = some v → w.cell? ⟨b, o, none⟩ = some v
theorem KnOK.lt {G : Gh} {w : World} (h : KnOK G w) {b o : Nat} {v : Value} (e : G.kn b o = some v) : b < w.heap.size := World.block_lt_of_cell? w _ (h b o v e)
theorem GExt.le {M : Nat → Prop} {G G' : Gh} {w : World} (h : GExt M G G' w) (hk : KnOK G w) (hM : ∀ b, M b → ∀ o, G.kn b o = none) : G.le G' :=
  ⟨fun b o v e => by rw [h.kn b o (hk.lt e) (fun hm => by rw [hM b hm o] at e; cases e)]; exact e, h.ob⟩
def VL (G : Gh) (cargs : Array Value) (args : List AV) : Prop := cargs.size = args.length ∧ ∀ (j : Nat) x, args[j]? = some x → V G (cargs.getD j undef) x

/-- A CALL: given values that stand for 'args', and objects as 'H' says, it answers what stands for 'r', and leaves the objects as 'H'' says. -/
def Run (P : Program) (f : FuncId) (args : List AV) (H : Hp) (r : AV) (H' : Hp) : Prop :=
  ∀ G w cargs, GE ⟨G, w, foot G H w⟩ → KnOK G w → HpOK G w H → VL G cargs args → Calls P f cargs w fun e w' =>
    ∃ v G', e = .returned v ∧ V G' v r ∧ GExt (foot G H w) G G' w ∧ KnOK G' w' ∧ HpOK G' w' H' ∧ Fr (foot G H w) w w' ∧ ∀ b, foot G' H' w' b → w.heap.size ≤ b ∨ foot G H w b
/-- It leaves all objects alone. -/
def Pure (P : Program) (f : FuncId) (args : List AV) (r : AV) : Prop := ∀ H, Run P f args H r H

theorem owns_cons {s : St} {L : Loc} {c' : Comp} {v : CV} {c : Comp} {blk : Nat} (hne : c ≠ c') (h : owns ((c', v) :: s) L c blk) : owns s L c blk := by
  cases c <;> simp only [owns, get, if_neg (Ne.symm hne)] at h ⊢ <;> exact h
theorem owns_lt {E : Ent} {N : Nat} {G : Gh} {L : Loc} {a : Act} {w : World} {s : St} (h : Rel E N G L a w s) {c : Comp} {blk : Nat} (hc : owns s L c blk) : blk < w.heap.size ∧ E.may blk := by
  cases c with
  | b k =>
    obtain ⟨⟨cs, hcs, hl⟩, hb⟩ := hc
    obtain ⟨blk', o, hb', hb2, hh, _⟩ := h.box k cs hcs hl
    rw [hb] at hb'; cases hb'
    exact ⟨(Array.getElem?_eq_some_iff.1 hh).1, hb2⟩
  | t k =>
    obtain ⟨⟨m, el, esz, xs, hcs⟩, v, hv, hb⟩ := hc
    obtain ⟨v', hv', hr, hm⟩ := h.tok k m el esz xs hcs
    rw [hv] at hv'; cases hv'
    exact ⟨hr.lt hb, (hm _ hb).1⟩
  | s n => exact hc.elim
  | h => exact hc.elim
/-- A row of the frame's own stays, where its block does. -/
theorem TokOK.stay {E : Ent} {G G' : Gh} {L : Loc} {w w' : World} {k : Nat} {m : Bool} {el esz : Nat} {xs : List AV} (h : TokOK E G L w k m el esz xs) (hle : G.le G') (hob : ∀ id b, G'.ob id = some b → G.ob id = some b ∨ w.heap.size ≤ b) (hb : ∀ v b, L.tok k = some v → v.ownBlock = some b → w'.heap[b]? = w.heap[b]?)
    (hkn : ∀ v b, L.tok k = some v → v.ownBlock = some b → ∀ o, G'.kn b o = G.kn b o) : TokOK E G' L w' k m el esz xs := by
  obtain ⟨v, hv, hr, hm⟩ := h
  refine ⟨v, hv, hr.stay hle (fun b e => hb v b hv e) (fun b e => hkn v b hv e), fun b e => ⟨(hm b e).1, fun id e2 => ?_⟩⟩
  rcases hob id b e2 with e3 | e3
  · exact (hm b e).2 id e3
  · have := hr.lt e; omega

theorem Rel.called {E : Ent} {N : Nat} {G G' : Gh} {L : Loc} {a : Act} {w w' : World} {s : St} {H : Hp} (h : Rel E N G L a w s) (hH0 : get s .h = some (.hp H)) (hx : GExt (foot G H w) G G' w) (hk : KnOK G' w') {H' : Hp} (hH : HpOK G' w' H') (hf : Fr (foot G H w) w w')
    (hft : ∀ b, foot G' H' w' b → w.heap.size ≤ b ∨ foot G H w b) : Rel E N G' L a w' ((.h, .hp H') :: s) := by
  obtain ⟨H2, g2, hok, hmay⟩ := h.heap
  rw [hH0] at g2; cases g2
  have hle : G.le G' := hx.le h.kn (fun b hb => (hok.foot hb).2)
  have ho : ∀ c blk, owns ((.h, .hp H') :: s) L c blk → owns s L c blk := by
    intro c blk hc
    cases c <;> simp only [owns, get, reduceCtorEq, if_false] at hc ⊢ <;> exact hc
  have hlt : ∀ c blk, owns s L c blk → blk < w.heap.size := fun c blk hc => (owns_lt h hc).1
  have hnf : ∀ c blk, owns s L c blk → ¬ foot G H w blk := fun c blk hc => h.hdisj c blk hc H hH0
  have hblk : ∀ c blk, owns s L c blk → w'.heap[blk]? = w.heap[blk]? := fun c blk hc => hf.block blk (hlt c blk hc) (hnf c blk hc)
  have hknb : ∀ c blk, owns s L c blk → ∀ o, G'.kn blk o = G.kn blk o := fun c blk hc o => hx.kn blk o (hlt c blk hc) (hnf c blk hc)
  have hold : ∀ b, b < E.w0.heap.size → ¬ E.M b → ¬ foot G H w b := fun b hb hm hf' => by
    rcases hmay b hf' with e | e
    · omega
    · exact hm e
  refine ⟨h.size, h.defs, h.ge, hk, fun b o hb hm => (hx.kn b o (Nat.lt_of_lt_of_le hb h.base_le) (hold b hb hm)).trans (h.old b o hb hm), fun id b e => hx.ob id b (h.obs id b e), ?_, ?_, ?_, ?_, ?_,
    fun c d blk hc hd => h.disj c d blk (ho _ _ hc) (ho _ _ hd), ⟨H', by simp [get], hH, fun b hb => ?_⟩, ?_, fun k g => h.nobox k (by simpa [get] using g), fun k g => h.notok k (by simpa [get] using g)⟩
  · intro id b e
    rcases hx.obn id b e with e | e
    · exact h.obn id b e
    · exact .inr (Nat.le_trans h.base_le e)
  · exact ⟨hf.os.trans h.fr.os, hf.tape.trans h.fr.tape, hf.output.trans h.fr.output, Nat.le_trans h.fr.size hf.size, fun k hk hno =>
      (hf.block k (Nat.lt_of_lt_of_le hk h.base_le) (hold k hk hno)).trans (h.fr.block k hk hno)⟩
  · intro n x g
    exact (h.slot n x (by simpa [get] using g)).mono hle
  · intro k cv g hl
    have g' : get s (.b k) = some cv := by simpa [get] using g
    have how : ∀ b, L.box k = some b → owns s L (.b k) b := fun b hb => ⟨⟨cv, g', hl⟩, hb⟩
    exact (h.box k cv g' hl).stay hle hx.obn (fun b hb => hblk _ _ (how b hb)) (fun b hb => hknb _ _ (how b hb))
  · intro k m el esz xs g
    have g' : get s (.t k) = some (.tk m el esz xs) := by simpa [get] using g
    have hown : ∀ v b, L.tok k = some v → v.ownBlock = some b → owns s L (.t k) b := fun v b hv hb => ⟨⟨m, el, esz, xs, g'⟩, v, hv, hb⟩
    exact (h.tok k m el esz xs g').stay hle hx.obn (fun v b hv hb => hblk _ _ (hown v b hv hb)) (fun v b hv hb => hknb _ _ (hown v b hv hb))
  · rcases hft b hb with e | e
    · exact .inl (Nat.le_trans h.base_le e)
    · exact hmay b e
  · intro c blk hc H2 g hft2
    simp [get] at g
    subst g
    rcases hft blk hft2 with e | e
    · have := hlt c blk (ho _ _ hc); omega
    · exact hnf c blk (ho _ _ hc) e

theorem Rel.geAt {E : Ent} {N : Nat} {G : Gh} {L : Loc} {a : Act} {w : World} {s : St} {H : Hp} (h : Rel E N G L a w s) (hH : get s .h = some (.hp H)) : GE ⟨G, w, foot G H w⟩ := by
  obtain ⟨h1, h2, h3⟩ := h.ge
  obtain ⟨H0, g0, _, hmay⟩ := h.heap
  rw [hH] at g0; cases g0
  refine ⟨gloc (fun k hk => h.fr.block k (Nat.lt_of_lt_of_le hk h2) (h3 k hk)) h1, Nat.le_trans h2 h.fr.size, fun g hg hf => ?_⟩
  rcases hmay g hf with e | e
  · exact absurd (Nat.lt_of_lt_of_le hg h2) (Nat.not_lt.2 e)
  · exact h3 g hg e
/-! ### One operation -/
def Reads (R : List Comp) (s t : St) : Prop := ∀ c ∈ R, get t c = get s c
/-- In each state that holds what 's' holds of 'R': the operation is carried out, and the state gets 'ws'. -/
def OpOK (P : Program) (N : Nat) (o : Oper) (s : St) (R : List Comp) (ws : St) : Prop :=
  ∀ t, Reads R s t → ∀ E G L a w, Rel E N G L a w t → ∀ (K : Act → World → Prop) (Q : Exit → Act → World → Prop),
    (∀ v w' G' L', Rel E N G' L' (a.put o.dst v) w' (ws ++ t) → K (a.put o.dst v) w') → o.wp P a w K Q

/-- A frame and a world fit a state, somehow. -/
def Fits (E : Ent) (N : Nat) (s : St) (a : Act) (w : World) : Prop := ∃ G L, Rel E N G L a w s

/-- A region's operations, in the text's order. -/
def TriL (P : Program) (N : Nat) (ops : Array Oper) (l : List Oper) (s : St) (Q : St → Prop) : Prop :=
  ∀ E a w, Fits E N s a w → ∀ QQ : Exit → Act → World → Prop, (∀ a' w' s', Fits E N s' a' w' → Q s' → QQ .normal a' w') → wpList P ops QQ l a w
section
variable {P : Program} {N : Nat} {ops : Array Oper} {l : List Oper} {s : St} {Q : St → Prop}
theorem TriL.nil (h : Q s) : TriL P N ops [] s Q := fun _ _ _ hf _ hQ => hQ _ _ _ hf h
theorem TriL.cons {o : Oper} {R : List Comp} {ws : St} (hg : o.guard = none) (ho : OpOK P N o s R ws) (h : TriL P N ops l (ws ++ s) Q) : TriL P N ops (o :: l) s Q := by
  intro E a w ⟨G, L, hr⟩ QQ hQ
  refine wpList_plain hg fun K hK => ?_
  exact ho s (fun _ _ => rfl) E G L a w hr K QQ fun v w' G' L' hr' => hK _ _ (h E _ _ ⟨G', L', hr'⟩ QQ hQ)
/-- What a guard looks at. -/
def gslot (ops : Array Oper) (o : Oper) : Option (Nat × Bool) :=
  match o.guard with
  | some (j, b) => ((ops[j]?).bind (·.dst)).map fun d => (d, b)
  | none => none
theorem wanted_of {E : Ent} {G : Gh} {L : Loc} {a : Act} {w : World} (hr : Rel E N G L a w s) {o : Oper} {d : Nat} {b c : Bool} (hN : d < N) (hg : gslot ops o = some (d, b)) (hc : get s (.s d) = some (.sv (.v (.bool c)))) :
    Region.wanted o (yielded ops a.tmps) = (c == b) := by
  unfold gslot at hg
  split at hg
  · rename_i j b' hgd
    cases hd : (ops[j]?).bind (·.dst) with
    | none => rw [hd] at hg; cases hg
    | some d' =>
      rw [hd] at hg
      simp only [Option.map_some, Option.some.injEq, Prod.mk.injEq] at hg
      obtain ⟨rfl, rfl⟩ := hg
      have hv := hr.slot d' _ hc
      have hsz := hr.size
      have hv' : a.tmps[d']? = some (.bool c) := by
        have hlt : d' < a.tmps.size := by rw [hsz]; exact hN
        rw [Array.getD_eq_getD_getElem?, Array.getElem?_eq_getElem hlt] at hv
        rw [Array.getElem?_eq_getElem hlt]
        simp only [Option.getD_some] at hv
        have hx : ∀ v, SV G L v (.v (.bool c)) → v = .bool c := by
          intro v h
          have h' : V G v (.bool c) := h
          cases h'
          rfl
        rw [hx _ hv]
      simp only [Region.wanted, hgd, yielded, hd, Option.bind_some, hv']
      cases c <;> cases b' <;> rfl
  · cases hg
theorem TriL.on {o : Oper} {R : List Comp} {ws : St} {d : Nat} {b : Bool} (hN : d < N) (hg : gslot ops o = some (d, b)) (hc : get s (.s d) = some (.sv (.v (.bool b)))) (ho : OpOK P N o s R ws) (h : TriL P N ops l (ws ++ s) Q) :
    TriL P N ops (o :: l) s Q := by
  intro E a w ⟨G, L, hr⟩ QQ hQ
  refine wpList_step fun K hK => ?_
  rw [wanted_of hr hN hg hc, beq_self_eq_true, if_pos rfl]
  exact ho s (fun _ _ => rfl) E G L a w hr K QQ fun v w' G' L' hr' => hK _ _ (h E _ _ ⟨G', L', hr'⟩ QQ hQ)
theorem TriL.off {o : Oper} {d : Nat} {b : Bool} (hN : d < N) (hg : gslot ops o = some (d, b)) (hc : get s (.s d) = some (.sv (.v (.bool (!b))))) (h : TriL P N ops l (match o.dst with | some d => (.s d, .gone) :: s | none => s) Q) :
    TriL P N ops (o :: l) s Q := by
  intro E a w ⟨G, L, hr⟩ QQ hQ
  refine wpList_step fun K hK => ?_
  rw [wanted_of hr hN hg hc, if_neg (by cases b <;> simp)]
  exact hK _ _ (h E _ _ ⟨G, L, hr.drop o.dst undef⟩ QQ hQ)
theorem TriL.mono {Q' : St → Prop} (h : TriL P N ops l s Q) (hq : ∀ s', Q s' → Q' s') : TriL P N ops l s Q' :=
  fun E a w hf QQ hQ => h E a w hf QQ fun a' w' s' hf' hs' => hQ a' w' s' hf' (hq _ hs')
end

/-! ### Code -/
def Tri (P : Program) (N : Nat) (c : Code) (s : St) (Q : Exit → St → Prop) : Prop :=
  ∀ E a w, Fits E N s a w → c.wp P (fun e a' w' => ∃ s', Fits E N s' a' w' ∧ Q e s') a w
section
variable {P : Program} {N : Nat} {s : St} {Q : Exit → St → Prop}
theorem Tri.mono {c : Code} {Q' : Exit → St → Prop} (h : Tri P N c s Q) (hq : ∀ e s', Q e s' → Q' e s') : Tri P N c s Q' :=
  fun E a w hf => wp_mono (h E a w hf) fun e _ _ ⟨s', h1, h2⟩ => ⟨s', h1, hq e s' h2⟩
theorem Tri.region {id : Nat} {l : List Oper} (h : TriL P N l.toArray l s (Q .normal)) : Tri P N (.region id l.toArray false) s Q :=
  fun E a w hf => wp_region_lit (h E a w hf _ fun _ _ s' h1 h2 => ⟨s', h1, h2⟩)
theorem Tri.seq {c d : Code} (h : Tri P N c s fun e s' => match e with | .normal => Tri P N d s' Q | e => Q e s') : Tri P N (.seq c d) s Q := by
  intro E a w hf
  refine wp_seq (wp_mono (h E a w hf) ?_)
  rintro e a' w' ⟨s', h1, h2⟩
  cases e with
  | normal => exact h2 E a' w' h1
  | _ => exact ⟨s', h1, h2⟩
theorem Tri.skip (h : Q .normal s) : Tri P N .skip s Q := fun E a w hf => wp_skip ⟨s, hf, h⟩
theorem Tri.ret (h : Q .ret s) : Tri P N .ret s Q := fun E a w hf => wp_ret ⟨s, hf, h⟩
theorem Tri.exit {id : Nat} (h : Q (.exit id) s) : Tri P N (.exit id) s Q := fun E a w hf => wp_exit ⟨s, hf, h⟩
theorem Tri.label {id : Nat} (h : Q .normal s) : Tri P N (.label id) s Q := fun E a w hf => wp_label ⟨s, hf, h⟩
theorem Tri.block {id : Nat} {c : Code} (h : Tri P N c s fun e s' => match e with | .exit id' => if id' = id then Q .normal s' else Q (.exit id') s' | e => Q e s') : Tri P N (.block id c) s Q := by
  intro E a w hf
  refine wp_block (wp_mono (h E a w hf) ?_)
  rintro e a' w' ⟨s', h1, h2⟩
  cases e with
  | exit id' =>
    simp only [Exit.inBlock] at h2 ⊢
    split
    · rename_i hid; rw [if_pos hid] at h2; exact ⟨s', h1, h2⟩
    · rename_i hid; rw [if_neg hid] at h2; exact ⟨s', h1, h2⟩
  | _ => exact ⟨s', h1, h2⟩
/-- A slot's value, as a condition. -/
theorem slot_bool {E : Ent} {G : Gh} {L : Loc} {a : Act} {w : World} (hr : Rel E N G L a w s) {t : Nat} {b : Bool} (hc : get s (.s t) = some (.sv (.v (.bool b)))) : a.eval (.tmp t) = .bool b := by
  have h : V G (a.tmps.getD t undef) (.bool b) := hr.slot t _ hc
  have hx : ∀ v, V G v (.bool b) → v = .bool b := by intro v h; cases h; rfl
  exact hx _ h
theorem Tri.cond {t : Nat} {c d : Code} {b : Bool} (hc : get s (.s t) = some (.sv (.v (.bool b)))) (h1 : b = true → Tri P N c s Q) (h2 : b = false → Tri P N d s Q) : Tri P N (.cond (.tmp t) c d) s Q := by
  intro E a w ⟨G, L, hr⟩
  exact wp_cond_split (slot_bool hr hc) (fun e => h1 e E a w ⟨G, L, hr⟩) (fun e => h2 e E a w ⟨G, L, hr⟩)
theorem Tri.condc {c d : Code} {b : Bool} (h1 : b = true → Tri P N c s Q) (h2 : b = false → Tri P N d s Q) : Tri P N (.cond (.const (.bool b)) c d) s Q := by
  intro E a w hf
  exact wp_cond_split rfl (fun e => h1 e E a w hf) (fun e => h2 e E a w hf)
/-- A LOOP: 'T n s': at its head, with at most n rounds to come. -/
theorem Tri.loop {c : Code} (T : Nat → St → Prop) (hT : ∀ n s, T n s → Tri P N c s fun e s' => match e with | .normal => ∃ m, m < n ∧ T m s' | e => Q e s') {n : Nat} (h0 : T n s) : Tri P N (.loop c) s Q := by
  intro E a w hf
  refine wp_loop_ghost (fun n a w => ∃ s, T n s ∧ Fits E N s a w) n ⟨s, h0, hf⟩ fun n a w ⟨s1, hT1, hf1⟩ => ?_
  refine wp_mono (hT n s1 hT1 E a w hf1) ?_
  rintro e a' w' ⟨s', h1, h2⟩
  cases e with
  | normal =>
    obtain ⟨m, hlt, hTm⟩ := h2
    exact ⟨m, hlt, s', hTm, h1⟩
  | _ => exact ⟨s', h1, h2⟩
end

/-! ### A function -/
def initS : List AV → Nat → St
  | [], _ => []
  | a :: l, n => (.s n, .sv (.v a)) :: initS l (n + 1)
theorem get_initS (args : List AV) : ∀ (n : Nat) (c : Comp) (v : CV), get (initS args n) c = some v → ∃ j a, args[j]? = some a ∧ c = .s (n + j) ∧ v = .sv (.v a) := by
  induction args with
  | nil => intro n c v h; simp [initS, get] at h
  | cons a l ih =>
    intro n c v h
    simp only [initS, get] at h
    split at h
    · rename_i hc
      cases h
      exact ⟨0, a, rfl, by rw [← hc]; simp, rfl⟩
    · obtain ⟨j, b, h1, h2, h3⟩ := ih _ _ _ h
      exact ⟨j + 1, b, by simpa using h1, by rw [h2]; congr 1; omega, h3⟩
/-- What a function's results are. -/
def ResOK (P : Program) (fn : Func) (s : St) (r : AV) : Prop :=
  ∀ E N G L a w, Rel E N G L a w s → ∃ v, (results fn a.tmps).run P w = .ok v w ∧ V G v r
theorem fits0 {fn : Func} {N : Nat} {args : List AV} {H : Hp} {G : Gh} {w : World} {cargs : Array Value} (hN : fn.ntmps = N) (hle : args.length ≤ N) (hg : GE ⟨G, w, foot G H w⟩) (hk : KnOK G w) (hH : HpOK G w H) (hV : VL G cargs args) :
    Fits ⟨G, w, foot G H w⟩ N ((.h, .hp H) :: initS args 0) { tmps := cargs ++ Array.replicate (fn.ntmps - cargs.size) undef, defers := [] } w := by
  refine ⟨G, ⟨fun _ => none, fun _ => none⟩, ?_, rfl, hg, hk, fun _ _ _ _ => rfl, fun _ _ h => h, fun _ _ h => .inl h, Fr.refl _ _, ?_, ?_, ?_, ?_, ⟨H, by simp [get], hH, fun b hb => .inr hb⟩, ?_, fun _ _ => rfl, fun _ _ => rfl⟩
  · have := hV.1; simp; omega
  · intro n x g
    have g' : get (initS args 0) (.s n) = some (.sv x) := by simpa [get] using g
    obtain ⟨j, b, h1, h2, h3⟩ := get_initS _ _ _ _ g'
    cases h3
    have : n = j := by injection h2 with h2; omega
    subst this
    have hlt : n < cargs.size := by
      have := hV.1
      have := (List.getElem?_eq_some_iff.1 h1).1
      omega
    have : (cargs ++ Array.replicate (fn.ntmps - cargs.size) undef).getD n undef = cargs.getD n undef := by
      simp only [Array.getD_eq_getD_getElem?]
      rw [Array.getElem?_append_left hlt]
    show V G ((cargs ++ Array.replicate (fn.ntmps - cargs.size) undef).getD n undef) b
    rw [this]
    exact hV.2 n b h1
  · intro k cs g hl
    obtain ⟨j, b, _, h2, _⟩ := get_initS _ _ _ _ (show get (initS args 0) (.b k) = _ by simpa [get] using g)
    cases h2
  · intro k m el esz xs g
    obtain ⟨j, b, _, h2, _⟩ := get_initS _ _ _ _ (show get (initS args 0) (.t k) = _ by simpa [get] using g)
    cases h2
  · intro c d blk hc
    cases c with
    | b k =>
      obtain ⟨⟨cs, g, _⟩, _⟩ := hc
      obtain ⟨j, b, _, h2, _⟩ := get_initS _ _ _ _ (show get (initS args 0) (.b k) = _ by simpa [get] using g)
      cases h2
    | t k =>
      obtain ⟨⟨m, el, esz, xs, g⟩, _⟩ := hc
      obtain ⟨j, b, _, h2, _⟩ := get_initS _ _ _ _ (show get (initS args 0) (.t k) = _ by simpa [get] using g)
      cases h2
    | s n => exact hc.elim
    | h => exact hc.elim
  · intro c blk hc
    cases c with
    | b k =>
      obtain ⟨⟨cs, g, _⟩, _⟩ := hc
      obtain ⟨j, b, _, h2, _⟩ := get_initS _ _ _ _ (show get (initS args 0) (.b k) = _ by simpa [get] using g)
      cases h2
    | t k =>
      obtain ⟨⟨m, el, esz, xs, g⟩, _⟩ := hc
      obtain ⟨j, b, _, h2, _⟩ := get_initS _ _ _ _ (show get (initS args 0) (.t k) = _ by simpa [get] using g)
      cases h2
    | s n => exact hc.elim
    | h => exact hc.elim
theorem Run.of_tri {P : Program} {f : FuncId} {fn : Func} {c : Code} {N : Nat} {args : List AV} {H : Hp} {r : AV} {H' : Hp} (hf : P.funcs[f]? = some fn) (hb : fn.body = some c) (hN : fn.ntmps = N) (hle : args.length ≤ N)
    (h : Tri P N c ((.h, .hp H) :: initS args 0) fun e s' => (e = .normal ∨ e = .ret) ∧ ResOK P fn s' r ∧ get s' .h = some (.hp H')) : Run P f args H r H' := by
  intro G w cargs hg hk hH hV
  refine calls_of_wp hf hb ?_
  have h0 := fits0 hN hle hg hk hH hV
  refine wp_mono (h ⟨G, w, foot G H w⟩ _ w h0) ?_
  rintro e a' w' ⟨s', ⟨G', L', hr⟩, he, hres, hh⟩
  obtain ⟨v, hv, hV'⟩ := hres _ _ _ _ _ _ hr
  obtain ⟨H2, g, hok, hmay⟩ := hr.heap
  rw [hh] at g; cases g
  have hpost : ∃ v2 G', Ending.returned v = .returned v2 ∧ V G' v2 r ∧ GExt (foot G H w) G G' w ∧ KnOK G' w' ∧ HpOK G' w' H' ∧ Fr (foot G H w) w w' ∧ ∀ b, foot G' H' w' b → w.heap.size ≤ b ∨ foot G H w b :=
    ⟨v, G', rfl, hV', ⟨hr.old, hr.obs, hr.obn⟩, hr.kn, hok, hr.fr, hmay⟩
  rcases he with rfl | rfl
  · exact ⟨hr.defs, v, hv, hpost⟩
  · exact ⟨hr.defs, v, hv, hpost⟩
end Go.Proofs.YthoncmadikifnaaDoor.X
