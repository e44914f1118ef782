/- The program logic's rules: what a state may forget; names of growing slices; a local box that is given away; results. No condition. -/
import Derived.Test.YthoncmadikifnaaDoorX9
set_option linter.unusedVariables false
set_option linter.unusedSimpArgs false
namespace Go.Proofs.YthoncmadikifnaaDoor.X
open Go Go.RowKit

/-! ### Forgetting -/
def keepSv (cs : List Comp) : Sv → Option Sv
  | .v a => some (.v a)
  | .lp k o => if Comp.b k ∈ cs then some (.lp k o) else none
  | .ow k xs => if Comp.t k ∈ cs then some (.ow k xs) else some (.v (.sl xs))
  | .mv k n => if Comp.b k ∈ cs then some (.mv k n) else none
  | .om k n => if Comp.t k ∈ cs then some (.om k n) else none
  | .ov k z l n => if Comp.t k ∈ cs then some (.ov k z l n) else none
  | .ta k o => if Comp.t k ∈ cs then some (.ta k o) else none
  | .cd g b a => some (.cd g b a)
def keepSvs (cs : List Comp) : List Sv → Option (List Sv)
  | [] => some []
  | x :: l => match keepSv cs x, keepSvs cs l with
    | some y, some r => some (y :: r)
    | _, _ => none
def keepCV (cs : List Comp) : CV → Option CV
  | .sv x => (keepSv cs x).map .sv
  | .bx l => (keepSvs cs l).map .bx
  | .ob id l => (keepSvs cs l).map (.ob id)
  | .bt ty l => (keepSvs cs l).map (.bt ty)
  | v => some v
/-- What is kept: of each component named, what the state has of it. -/
def keep (cs : List Comp) (s : St) : List Comp → Option St
  | [] => some []
  | c :: l => match get s c with
    | some v => match keepCV cs v, keep cs s l with
      | some v', some r => some ((c, v') :: r)
      | _, _ => none
    | none => none
theorem keepSv_sound {cs : List Comp} {G : Gh} {L : Loc} {v : Value} {x y : Sv} (h : keepSv cs x = some y) (hv : SV G L v x) :
    SV G ⟨fun k => if Comp.b k ∈ cs then L.box k else none, fun k => if Comp.t k ∈ cs then L.tok k else none⟩ v y ∧ (x.flat = true → y.flat = true) := by
  cases x with
  | v a => simp [keepSv] at h; subst h; exact ⟨hv, fun h => h⟩
  | lp k o =>
    simp only [keepSv] at h
    split at h
    · rename_i hc
      cases h
      obtain ⟨blk, hb, e⟩ := hv
      exact ⟨⟨blk, by simp [hc, hb], e⟩, fun h => h⟩
    · cases h
  | ow k xs =>
    simp only [keepSv] at h
    split at h
    · rename_i hc
      cases h
      exact ⟨⟨hv.1, by simp [hc, hv.2]⟩, fun h => h⟩
    · cases h
      exact ⟨hv.1, fun _ => rfl⟩
  | mv k n =>
    simp only [keepSv] at h
    split at h
    · rename_i hc
      cases h
      obtain ⟨blk, cap, hb, e⟩ := hv
      exact ⟨⟨blk, cap, by simp [hc, hb], e⟩, fun h => h⟩
    · cases h
  | om k n =>
    simp only [keepSv] at h
    split at h
    · rename_i hc
      cases h
      exact ⟨⟨by simp [hc, hv.1], hv.2⟩, fun h => h⟩
    · cases h
  | ov k z l n =>
    simp only [keepSv] at h
    split at h
    · rename_i hc
      cases h
      refine ⟨?_, fun h => h⟩
      rcases hv with h0 | ⟨blk, m, c, c', h1, h2⟩
      · exact .inl h0
      · exact .inr ⟨blk, m, c, c', by simp [hc, h1], h2⟩
    · cases h
  | ta k o =>
    simp only [keepSv] at h
    split at h
    · rename_i hc
      cases h
      obtain ⟨blk, m, c, h1, h2⟩ := hv
      exact ⟨⟨blk, m, c, by simp [hc, h1], h2⟩, fun h => h⟩
    · cases h
  | cd g b a => simp [keepSv] at h; subst h; exact ⟨hv, fun h => h⟩
theorem keepSvs_get {cs : List Comp} : ∀ {l r : List Sv}, keepSvs cs l = some r → l.length = r.length ∧ ∀ (j : Nat) y, r[j]? = some y → ∃ x, l[j]? = some x ∧ keepSv cs x = some y
  | [], r, h => by simp [keepSvs] at h; subst h; exact ⟨rfl, fun j y e => by simp at e⟩
  | x :: l, r, h => by
    simp only [keepSvs] at h
    split at h
    · rename_i y r' hy hr
      cases h
      obtain ⟨h1, h2⟩ := keepSvs_get hr
      refine ⟨by simp [h1], fun j z e => ?_⟩
      cases j with
      | zero => simp at e; subst e; exact ⟨x, rfl, hy⟩
      | succ j => simpa using h2 j z (by simpa using e)
    · cases h
theorem keep_get {cs : List Comp} {s : St} : ∀ {l : List Comp} {r : St}, keep cs s l = some r → ∀ c, (c ∈ l → ∃ v v', get s c = some v ∧ keepCV cs v = some v' ∧ get r c = some v') ∧ (c ∉ l → get r c = none)
  | [], r, h, c => by
    simp [keep] at h; subst h
    exact ⟨(fun hm => absurd hm (by simp)), (fun _ => rfl)⟩
  | d :: l, r, h, c => by
    simp only [keep] at h
    split at h
    · rename_i v hv
      split at h
      · rename_i v' r' hv' hr
        cases h
        obtain ⟨h1, h2⟩ := keep_get hr c
        by_cases e : d = c
        · subst e
          exact ⟨fun _ => ⟨v, v', hv, hv', by simp [get]⟩, fun hn => absurd (List.mem_cons_self ..) hn⟩
        · refine ⟨fun hm => ?_, fun hn => ?_⟩
          · rcases List.mem_cons.1 hm with rfl | hm
            · exact absurd rfl e
            · obtain ⟨w, w', q1, q2, q3⟩ := h1 hm
              exact ⟨w, w', q1, q2, by simp [get, e, q3]⟩
          · simp only [get, e, if_false]
            exact h2 (fun hm => hn (List.mem_cons_of_mem _ hm))
      · cases h
    · cases h
theorem Rel.keep {E : Ent} {N : Nat} {G : Gh} {L : Loc} {a : Act} {w : World} {s : St} (h : Rel E N G L a w s) {cs : List Comp} {r : St} (hk : keep cs s cs = some r) (hh : Comp.h ∈ cs) : ∃ L', Rel E N G L' a w r := by
  let L' : Loc := ⟨fun k => if Comp.b k ∈ cs then L.box k else none, fun k => if Comp.t k ∈ cs then L.tok k else none⟩
  have hg : ∀ c v', get r c = some v' → c ∈ cs ∧ ∃ v, get s c = some v ∧ keepCV cs v = some v' := by
    intro c v' e
    by_cases hc : c ∈ cs
    · obtain ⟨v, v2, q1, q2, q3⟩ := (keep_get hk c).1 hc
      rw [q3] at e; cases e
      exact ⟨hc, v, q1, q2⟩
    · rw [(keep_get hk c).2 hc] at e; cases e
  have hlive : ∀ v v', keepCV cs v = some v' → v'.live = v.live := by
    intro v v' e
    cases v <;> simp only [keepCV, Option.map_eq_some_iff, Option.some.injEq] at e
    · obtain ⟨x, _, rfl⟩ := e; rfl
    · obtain ⟨x, _, rfl⟩ := e; rfl
    · obtain ⟨x, _, rfl⟩ := e; rfl
    · obtain ⟨x, _, rfl⟩ := e; rfl
    all_goals subst e; rfl
  have hlink : ∀ v v', keepCV cs v = some v' → v'.link = v.link := by
    intro v v' e
    cases v <;> simp only [keepCV, Option.map_eq_some_iff, Option.some.injEq] at e
    · obtain ⟨x, _, rfl⟩ := e; rfl
    · obtain ⟨x, _, rfl⟩ := e; rfl
    · obtain ⟨x, _, rfl⟩ := e; rfl
    · obtain ⟨x, _, rfl⟩ := e; rfl
    all_goals subst e; rfl
  have htk : ∀ v m el esz xs, keepCV cs v = some (.tk m el esz xs) → v = .tk m el esz xs := by
    intro v m el esz xs e
    cases v <;> simp only [keepCV, Option.map_eq_some_iff, Option.some.injEq] at e
    · obtain ⟨x, _, e⟩ := e; cases e
    · obtain ⟨x, _, e⟩ := e; cases e
    · obtain ⟨x, _, e⟩ := e; cases e
    · obtain ⟨x, _, e⟩ := e; cases e
    all_goals first | exact e | cases e
  have hown : ∀ c b, owns r L' c b → owns s L c b := by
    intro c b hc
    cases c with
    | b k =>
      obtain ⟨⟨cv, g, hl⟩, hb⟩ := hc
      obtain ⟨hm, v, q1, q2⟩ := hg _ _ g
      refine ⟨⟨v, q1, by rw [← hlive _ _ q2]; exact hl⟩, ?_⟩
      simpa [L', hm] using hb
    | t k =>
      obtain ⟨⟨m, el, esz, xs, g⟩, v, hv, hb⟩ := hc
      obtain ⟨hm, v2, q1, q2⟩ := hg _ _ g
      rw [htk _ _ _ _ _ q2] at q1
      exact ⟨⟨m, el, esz, xs, q1⟩, v, by simpa [L', hm] using hv, hb⟩
    | s n => exact hc.elim
    | h => exact hc.elim
  refine ⟨L', h.size, h.defs, h.ge, h.kn, h.old, h.obs, h.obn, h.fr, ?_, ?_, ?_, fun c d b hc hd => h.disj c d b (hown _ _ hc) (hown _ _ hd), ?_, ?_, ?_, ?_⟩
  · intro n x g
    obtain ⟨_, v, q1, q2⟩ := hg _ _ g
    cases v <;> simp only [keepCV, Option.map_eq_some_iff, Option.some.injEq] at q2
    · obtain ⟨y, q3, q4⟩ := q2
      cases q4
      exact (keepSv_sound q3 (h.slot n _ q1)).1
    · obtain ⟨y, _, q4⟩ := q2; cases q4
    · obtain ⟨y, _, q4⟩ := q2; cases q4
    · obtain ⟨y, _, q4⟩ := q2; cases q4
    all_goals cases q2
  · intro k cv g hl
    obtain ⟨hm, v, q1, q2⟩ := hg _ _ g
    obtain ⟨blk, o, hb, hbase, hh2, hok, hn⟩ := h.box k v q1 (by rw [← hlive _ _ q2]; exact hl)
    refine ⟨blk, o, by simp [L', hm, hb], hbase, hh2, ?_, by rw [hlink _ _ q2]; exact hn⟩
    cases v <;> simp only [keepCV, Option.map_eq_some_iff, Option.some.injEq] at q2
    · obtain ⟨y, _, q4⟩ := q2; subst q4; cases hl
    · obtain ⟨l', q3, rfl⟩ := q2
      obtain ⟨arr, el, e1, e2, e3⟩ := hok
      obtain ⟨p1, p2⟩ := keepSvs_get q3
      refine ⟨arr, el, e1, by rw [e2, p1], fun j y e => ?_⟩
      obtain ⟨x, p3, p4⟩ := p2 j y e
      obtain ⟨e4, e5⟩ := e3 j x p3
      exact ⟨(keepSv_sound p4 e5).2 e4, (keepSv_sound p4 e5).1⟩
    · obtain ⟨l', q3, rfl⟩ := q2
      obtain ⟨arr, el, e1, e2, e3⟩ := hok
      obtain ⟨p1, p2⟩ := keepSvs_get q3
      refine ⟨arr, el, e1, by rw [e2, p1], fun j y e => ?_⟩
      obtain ⟨x, p3, p4⟩ := p2 j y e
      obtain ⟨e4, e5⟩ := e3 j x p3
      exact ⟨(keepSv_sound p4 e5).2 e4, (keepSv_sound p4 e5).1⟩
    · obtain ⟨l', q3, rfl⟩ := q2
      obtain ⟨arr, e1, e2, e3⟩ := hok
      obtain ⟨p1, p2⟩ := keepSvs_get q3
      refine ⟨arr, e1, by rw [e2, p1], fun j y e => ?_⟩
      obtain ⟨x, p3, p4⟩ := p2 j y e
      obtain ⟨e4, e5⟩ := e3 j x p3
      exact ⟨(keepSv_sound p4 e5).2 e4, (keepSv_sound p4 e5).1⟩
    · subst q2; exact hok
    all_goals subst q2; cases hl
  · intro k m el esz xs g
    obtain ⟨hm, v, q1, q2⟩ := hg _ _ g
    rw [htk _ _ _ _ _ q2] at q1
    obtain ⟨v', hv, rest⟩ := h.tok k m el esz xs q1
    exact ⟨v', by simp [L', hm, hv], rest⟩
  · obtain ⟨H, g, hok⟩ := h.heap
    obtain ⟨v, v', q1, q2, q3⟩ := (keep_get hk .h).1 hh
    rw [g] at q1; cases q1
    simp [keepCV] at q2
    subst q2
    exact ⟨H, q3, hok⟩
  · intro c b hc H2 g2
    obtain ⟨_, v, q1, q2⟩ := hg _ _ g2
    have hv2 : v = .hp H2 := by
      cases v <;> simp only [keepCV, Option.map_eq_some_iff, Option.some.injEq] at q2
      · obtain ⟨x, _, e⟩ := q2; cases e
      · obtain ⟨x, _, e⟩ := q2; cases e
      · obtain ⟨x, _, e⟩ := q2; cases e
      · obtain ⟨x, _, e⟩ := q2; cases e
      all_goals first | exact q2 | cases q2
    subst hv2
    exact h.hdisj c b (hown _ _ hc) H2 q1
  · intro k g
    by_cases hm : Comp.b k ∈ cs
    · obtain ⟨v, v', _, _, q3⟩ := (keep_get hk (.b k)).1 hm
      rw [g] at q3; cases q3
    · simp [L', hm]
  · intro k g
    by_cases hm : Comp.t k ∈ cs
    · obtain ⟨v, v', _, _, q3⟩ := (keep_get hk (.t k)).1 hm
      rw [g] at q3; cases q3
    · simp [L', hm]
section
variable {P : Program} {N : Nat} {s r : St}
theorem Tri.keep {c : Code} {Q : Exit → St → Prop} (cs : List Comp) (hk : keep cs s cs = some r) (hh : Comp.h ∈ cs) (h : Tri P N c r Q) : Tri P N c s Q := by
  intro E a w ⟨G, L, hr⟩
  obtain ⟨L', hr'⟩ := hr.keep hk hh
  exact h E a w ⟨G, L', hr'⟩
theorem TriL.keep {ops : Array Oper} {l : List Oper} {Q : St → Prop} (cs : List Comp) (hk : X.keep cs s cs = some r) (hh : Comp.h ∈ cs) (h : TriL P N ops l r Q) : TriL P N ops l s Q := by
  intro E a w ⟨G, L, hr⟩
  obtain ⟨L', hr'⟩ := hr.keep hk hh
  exact h E a w ⟨G, L', hr'⟩
/-- Behind a piece of code, too. -/
def Kept (s : St) (Q : St → Prop) : Prop := ∀ E N a w, Fits E N s a w → ∃ s', Fits E N s' a w ∧ Q s'
theorem Kept.now {Q : St → Prop} (h : Q s) : Kept s Q := fun _ _ _ _ hf => ⟨s, hf, h⟩
theorem Kept.keep {Q : St → Prop} (cs : List Comp) (hk : X.keep cs s cs = some r) (hh : Comp.h ∈ cs) (h : Kept r Q) : Kept s Q := fun E N a w ⟨G, L, hr⟩ => by
  obtain ⟨L', hr'⟩ := hr.keep hk hh
  exact h E N a w ⟨G, L', hr'⟩
theorem Tri.kept {c : Code} {Q : Exit → St → Prop} (h : Tri P N c s fun e s' => Kept s' (Q e)) : Tri P N c s Q := by
  intro E a w hf
  refine wp_mono (h E a w hf) ?_
  rintro e a' w' ⟨s', h1, h2⟩
  exact h2 E N a' w' h1
theorem Tri.ofKept {c : Code} {Q : Exit → St → Prop} (h : Kept s fun s' => Tri P N c s' Q) : Tri P N c s Q := by
  intro E a w hf
  obtain ⟨s', h1, h2⟩ := h E N a w hf
  exact h2 E a w h1
theorem TriL.kept {ops : Array Oper} {Q : St → Prop} (h : Kept s Q) : TriL P N ops [] s Q := by
  intro E a w hf QQ hQ
  obtain ⟨s', h1, h2⟩ := h E N a w hf
  exact hQ a w s' h1 h2

/-! ### A growing slice under another name -/
def renSv (k k' : Nat) : Sv → Sv
  | .ow j xs => if j = k then .ow k' xs else .ow j xs
  | .om j n => if j = k then .om k' n else .om j n
  | .ov j z l n => if j = k then .ov k' z l n else .ov j z l n
  | .ta j o => if j = k then .ta k' o else .ta j o
  | x => x
def renCV (k k' : Nat) : CV → CV
  | .sv x => .sv (renSv k k' x)
  | .bx l => .bx (l.map (renSv k k'))
  | .ob id l => .ob id (l.map (renSv k k'))
  | .bt ty l => .bt ty (l.map (renSv k k'))
  | v => v
def ren (k k' : Nat) : St → St
  | [] => []
  | (c, v) :: s => ((if c = .t k then .t k' else c), renCV k k' v) :: ren k k' s
theorem get_ren {k k' : Nat} (hne : k ≠ k') : ∀ {s : St}, get s (.t k') = none → ∀ c, get (ren k k' s) c = (if c = .t k then none else if c = .t k' then (get s (.t k)).map (renCV k k') else (get s c).map (renCV k k'))
  | [], _, c => by simp [ren, get]
  | (d, v) :: s, h, c => by
    have hd : d ≠ .t k' := by rintro rfl; simp [get] at h
    have h' : get s (.t k') = none := by simpa [get, hd] using h
    have ih := get_ren hne h' c
    simp only [ren, get]
    by_cases e1 : d = .t k
    · subst e1
      simp only [if_true]
      by_cases e2 : c = .t k'
      · subst e2
        have : Comp.t k' ≠ .t k := fun e => hne (by injection e with e; exact e.symm)
        simp [this]
      · rw [if_neg (Ne.symm e2), ih]
        by_cases e3 : c = .t k
        · simp [e3]
        · simp [e3, e2, Ne.symm e3]
    · simp only [e1, if_false]
      by_cases e2 : d = c
      · subst e2
        simp [e1, hd]
      · rw [if_neg e2, ih]
        by_cases e3 : c = .t k
        · simp [e3]
        · by_cases e4 : c = .t k'
          · simp [e4, e1]
          · simp [e3, e4, e2]
theorem Rel.ren {E : Ent} {G : Gh} {L : Loc} {a : Act} {w : World} (h : Rel E N G L a w s) {k k' : Nat} (hne : k ≠ k') (hk : get s (.t k') = none) : ∃ L', Rel E N G L' a w (ren k k' s) := by
  let L' : Loc := ⟨L.box, fun j => if j = k then none else if j = k' then L.tok k else L.tok j⟩
  have hk0 := h.notok k' hk
  have hsv : ∀ v x, SV G L v x → SV G L' v (renSv k k' x) := by
    intro v x hv
    cases x with
    | ow j xs =>
      simp only [renSv]
      split
      · rename_i e; subst e
        exact ⟨hv.1, by simp [L', hne, Ne.symm hne, hv.2]⟩
      · rename_i e
        refine ⟨hv.1, ?_⟩
        have : j ≠ k' := by rintro rfl; have := hv.2; rw [hk0] at this; cases this
        simp [L', e, this, hv.2]
    | om j n =>
      simp only [renSv]
      split
      · rename_i e; subst e
        exact ⟨by simp [L', hne, Ne.symm hne, hv.1], hv.2⟩
      · rename_i e
        refine ⟨?_, hv.2⟩
        have : j ≠ k' := by rintro rfl; have := hv.1; rw [hk0] at this; cases this
        simp [L', e, this, hv.1]
    | ov j z l n =>
      simp only [renSv]
      rcases hv with h0 | ⟨blk, m, c, c', h1, h2⟩
      · split <;> exact .inl h0
      · split
        · rename_i e; subst e
          exact .inr ⟨blk, m, c, c', by simp [L', hne, Ne.symm hne, h1], h2⟩
        · rename_i e
          have : j ≠ k' := by rintro rfl; rw [hk0] at h1; cases h1
          exact .inr ⟨blk, m, c, c', by simp [L', e, this, h1], h2⟩
    | ta j o =>
      simp only [renSv]
      obtain ⟨blk, m, c, h1, h2⟩ := hv
      split
      · rename_i e; subst e
        exact ⟨blk, m, c, by simp [L', hne, Ne.symm hne, h1], h2⟩
      · rename_i e
        have : j ≠ k' := by rintro rfl; rw [hk0] at h1; cases h1
        exact ⟨blk, m, c, by simp [L', e, this, h1], h2⟩
    | v a => exact hv
    | lp k o => exact hv
    | mv k n => exact hv
    | cd g b a => exact hv
  have hfl : ∀ x, (renSv k k' x).flat = x.flat := by intro x; cases x <;> simp only [renSv] <;> (try split) <;> rfl
  have hg := fun c => get_ren hne hk c
  have hlive : ∀ v, (renCV k k' v).live = v.live := by intro v; cases v <;> rfl
  have hb : ∀ j, get (X.ren k k' s) (.b j) = (get s (.b j)).map (renCV k k') := fun j => by rw [hg]; simp
  have hs : ∀ j, get (X.ren k k' s) (.s j) = (get s (.s j)).map (renCV k k') := fun j => by rw [hg]; simp
  have hown : ∀ c b, owns (X.ren k k' s) L' c b → ∃ c', owns s L c' b ∧ c = (if c' = .t k then .t k' else c') := by
    intro c b hc
    cases c with
    | b j =>
      obtain ⟨⟨cv, g, hl⟩, hb'⟩ := hc
      rw [hb] at g
      obtain ⟨v, q1, rfl⟩ := Option.map_eq_some_iff.1 g
      exact ⟨.b j, ⟨⟨v, q1, by rw [← hlive]; exact hl⟩, hb'⟩, by simp⟩
    | t j =>
      obtain ⟨⟨m, el, esz, xs, g⟩, v, hv, hb'⟩ := hc
      rw [hg] at g
      split at g
      · cases g
      · rename_i e1
        split at g
        · rename_i e2
          have : j = k' := by injection e2
          subst this
          obtain ⟨v2, q1, q2⟩ := Option.map_eq_some_iff.1 g
          have hv2 : v2 = .tk m el esz xs := by cases v2 <;> simp [renCV] at q2 <;> first | exact q2 | (obtain ⟨rfl, rfl, rfl, rfl⟩ := q2; rfl)
          subst hv2
          exact ⟨.t k, ⟨⟨m, el, esz, xs, q1⟩, v, by simpa [L', Ne.symm hne] using hv, hb'⟩, by simp⟩
        · rename_i e2
          obtain ⟨v2, q1, q2⟩ := Option.map_eq_some_iff.1 g
          have hv2 : v2 = .tk m el esz xs := by cases v2 <;> simp [renCV] at q2 <;> first | exact q2 | (obtain ⟨rfl, rfl, rfl, rfl⟩ := q2; rfl)
          subst hv2
          have n1 : j ≠ k := fun e => e1 (by rw [e])
          have n2 : j ≠ k' := fun e => e2 (by rw [e])
          exact ⟨.t j, ⟨⟨m, el, esz, xs, q1⟩, v, by simpa [L', n1, n2] using hv, hb'⟩, by simp [n1]⟩
    | s n => exact hc.elim
    | h => exact hc.elim
  refine ⟨L', h.size, h.defs, h.ge, h.kn, h.old, h.obs, h.obn, h.fr, ?_, ?_, ?_, ?_, ?_, ?_, ?_, ?_⟩
  · intro n x g
    rw [hs] at g
    obtain ⟨v, q1, q2⟩ := Option.map_eq_some_iff.1 g
    cases v <;> simp [renCV] at q2
    subst q2
    exact hsv _ _ (h.slot n _ q1)
  · intro j cv g hl
    rw [hb] at g
    obtain ⟨v, q1, rfl⟩ := Option.map_eq_some_iff.1 g
    rw [hlive] at hl
    obtain ⟨blk, o, q2, q3, q4, hok, hn⟩ := h.box j v q1 hl
    refine ⟨blk, o, q2, q3, q4, ?_, by rw [show (renCV k k' v).link = v.link by cases v <;> rfl]; exact hn⟩
    cases v with
    | bx l =>
      obtain ⟨arr, el, e1, e2, e3⟩ := hok
      refine ⟨arr, el, e1, by simpa using e2, fun i y e => ?_⟩
      simp only [List.getElem?_map] at e
      obtain ⟨x, p1, rfl⟩ := Option.map_eq_some_iff.1 e
      exact ⟨by rw [hfl]; exact (e3 i x p1).1, hsv _ _ (e3 i x p1).2⟩
    | ob id l =>
      obtain ⟨arr, el, e1, e2, e3⟩ := hok
      refine ⟨arr, el, e1, by simpa using e2, fun i y e => ?_⟩
      simp only [List.getElem?_map] at e
      obtain ⟨x, p1, rfl⟩ := Option.map_eq_some_iff.1 e
      exact ⟨by rw [hfl]; exact (e3 i x p1).1, hsv _ _ (e3 i x p1).2⟩
    | bt ty l =>
      obtain ⟨arr, e1, e2, e3⟩ := hok
      refine ⟨arr, e1, by simpa using e2, fun i y e => ?_⟩
      simp only [List.getElem?_map] at e
      obtain ⟨x, p1, rfl⟩ := Option.map_eq_some_iff.1 e
      exact ⟨by rw [hfl]; exact (e3 i x p1).1, hsv _ _ (e3 i x p1).2⟩
    | it l p => exact hok
    | _ => cases hl
  · intro j m el esz xs g
    rw [hg] at g
    split at g
    · cases g
    · rename_i e1
      split at g
      · rename_i e2
        have : j = k' := by injection e2
        subst this
        obtain ⟨v2, q1, q2⟩ := Option.map_eq_some_iff.1 g
        have hv2 : v2 = .tk m el esz xs := by cases v2 <;> simp [renCV] at q2 <;> first | exact q2 | (obtain ⟨rfl, rfl, rfl, rfl⟩ := q2; rfl)
        subst hv2
        obtain ⟨v, hv, rest⟩ := h.tok k m el esz xs q1
        exact ⟨v, by simp [L', Ne.symm hne, hv], rest⟩
      · rename_i e2
        obtain ⟨v2, q1, q2⟩ := Option.map_eq_some_iff.1 g
        have hv2 : v2 = .tk m el esz xs := by cases v2 <;> simp [renCV] at q2 <;> first | exact q2 | (obtain ⟨rfl, rfl, rfl, rfl⟩ := q2; rfl)
        subst hv2
        have n1 : j ≠ k := fun e => e1 (by rw [e])
        have n2 : j ≠ k' := fun e => e2 (by rw [e])
        obtain ⟨v, hv, rest⟩ := h.tok j m el esz xs q1
        exact ⟨v, by simp [L', n1, n2, hv], rest⟩
  · intro c d b hc hd
    obtain ⟨c', h1, rfl⟩ := hown c b hc
    obtain ⟨d', h2, rfl⟩ := hown d b hd
    rw [h.disj c' d' b h1 h2]
  · obtain ⟨H, g, hok⟩ := h.heap
    exact ⟨H, by rw [hg]; simp [g, renCV], hok⟩
  · intro c b hc H2 g2
    obtain ⟨c', h1, rfl⟩ := hown c b hc
    rw [hg] at g2
    simp only [reduceCtorEq, if_false] at g2
    obtain ⟨v, q1, q2⟩ := Option.map_eq_some_iff.1 g2
    have hv2 : v = .hp H2 := by cases v <;> simp [renCV] at q2; exact congrArg _ q2
    subst hv2
    exact h.hdisj c' b h1 H2 q1
  · intro j g
    rw [hb] at g
    exact h.nobox j (by simpa using g)
  · intro j g
    rw [hg] at g
    split at g
    · rename_i e
      have : j = k := by injection e
      simp [L', this]
    · rename_i e1
      have n1 : j ≠ k := fun e => e1 (by rw [e])
      split at g
      · rename_i e2
        have : j = k' := by injection e2
        subst this
        simp only [L', n1, if_false, if_true]
        exact h.notok k (by simpa using g)
      · rename_i e2
        have n2 : j ≠ k' := fun e => e2 (by rw [e])
        simp only [L', n1, n2, if_false]
        exact h.notok j (by simpa using g)
theorem Kept.ren {Q : St → Prop} (k k' : Nat) (hne : k ≠ k') (hk : get s (.t k') = none) (h : Kept (X.ren k k' s) Q) : Kept s Q := fun E N a w ⟨G, L, hr⟩ => by
  obtain ⟨L', hr'⟩ := hr.ren hne hk
  exact h E N a w ⟨G, L', hr'⟩

/-! ### A local box that is given away as a slice -/
def frzSv (k : Nat) (xs : List AV) : Sv → Sv
  | .mv j n => if j = k then .v (.sl xs) else .mv j n
  | x => x
def frzCV (k : Nat) (xs : List AV) : CV → CV
  | .sv x => .sv (frzSv k xs x)
  | v => v
def frz (k : Nat) (xs : List AV) : St → St
  | [] => []
  | (c, v) :: s => (c, (if c = .b k then .gone else frzCV k xs v)) :: frz k xs s
theorem get_frz {k : Nat} {xs : List AV} : ∀ {s : St} (c : Comp), get (frz k xs s) c = (get s c).map (fun v => if c = .b k then .gone else frzCV k xs v)
  | [], c => by simp [frz, get]
  | (d, v) :: s, c => by
    simp only [frz, get]
    split
    · rename_i e; subst e; rfl
    · exact get_frz c
theorem Rel.frz {E : Ent} {G : Gh} {L : Loc} {a : Act} {w : World} (h : Rel E N G L a w s) {k : Nat} {xs : List AV} {esz : Nat} (hk : get s (.b k) = some (.bx ((xs.flatMap AV.cells).map .v))) (hes : ∀ e ∈ xs, e.cells.length = esz)
    (hn : ∀ n x, get s (.s n) = some (.sv x) → ∀ m, x = .mv k m → m = xs.length) (hnb : ∀ j l, get s (.b j) = some (.bx l) → ∀ m, Sv.mv k m ∉ l) : ∃ G', Rel E N G' L a w (frz k xs s) := by
  obtain ⟨blk, o, hb, hbase, hh, ⟨arr, el, rfl, hsz, hc⟩, hno, _⟩ := h.box k _ hk rfl
  have hmine : owns s L (.b k) blk := ⟨⟨_, hk, rfl⟩, hb⟩
  let G' := G.add blk arr.toList
  have hle : G.le G' := Gh.add_le (fun o v e => by rw [hno o] at e; cases e)
  have hrow : Row G arr (xs.flatMap AV.cells) := by
    refine ⟨by simpa using hsz, fun j x e => ?_⟩
    have := hc j (.v x) (by simp [e])
    exact this
  have hL := Lay.of_row hes hrow
  have hkn2 : ∀ c j, c ≠ blk → G'.kn c j = G.kn c j := fun c j e => by simp [G', Gh.add, e]
  have hg := fun c => get_frz (k := k) (xs := xs) (s := s) c
  have hsv : ∀ v x, SV G L v x → (∀ m, x = .mv k m → m = xs.length) → SV G' L v (frzSv k xs x) := by
    intro v x hv hm
    cases x with
    | mv j n =>
      simp only [frzSv]
      split
      · rename_i e; subst e
        have hn' := hm n rfl
        subst hn'
        obtain ⟨b2, cap, h1, rfl, h3⟩ := hv
        rw [hb] at h1; cases h1
        refine V.slN blk 0 cap esz xs (fun i j => arr.toList.getD (i * esz + j) undef) h3 hL.1 ?_ (fun i e j c a b => (hL.2 i e j c a b).1) (fun i e j c a b => ((hL.mono hle).2 i e j c a b).2)
        intro i e j c he hj
        have hi := (List.getElem?_eq_some_iff.1 he).1
        have hj' := (List.getElem?_eq_some_iff.1 hj).1
        rw [hL.1 i e he] at hj'
        have hbb := lay_bound (j := j) hi hj'
        have hl : i * esz + j < arr.toList.length := by rw [Array.length_toList, hrow.1, flat_len hes]; exact hbb
        rw [Nat.zero_add, add_kn, List.getElem?_eq_getElem hl]
        simp [List.getD_eq_getElem?_getD, List.getElem?_eq_getElem hl]
      · exact hv
    | v a => exact SV.mono hle hv
    | lp j o => exact hv
    | ow j ys => exact SV.mono hle hv
    | om j n => exact hv
    | ov j z l n => exact hv
    | ta j o => exact hv
    | cd g b a => exact SV.mono hle hv
  have hlive : ∀ v, (frzCV k xs v).live = v.live := by intro v; cases v <;> rfl
  have hown : ∀ c b, owns (X.frz k xs s) L c b → c ≠ .b k ∧ owns s L c b := by
    intro c b hc
    cases c with
    | b j =>
      obtain ⟨⟨cv, g, hl⟩, hb'⟩ := hc
      rw [hg] at g
      obtain ⟨v, q1, q2⟩ := Option.map_eq_some_iff.1 g
      split at q2
      · subst q2; cases hl
      · rename_i e
        subst q2
        exact ⟨e, ⟨v, q1, by rw [← hlive]; exact hl⟩, hb'⟩
    | t j =>
      obtain ⟨⟨m, el, esz, ys, g⟩, v, hv, hb'⟩ := hc
      rw [hg] at g
      obtain ⟨v2, q1, q2⟩ := Option.map_eq_some_iff.1 g
      simp only [reduceCtorEq, if_false] at q2
      have hv2 : v2 = .tk m el esz ys := by cases v2 <;> simp [frzCV] at q2 <;> first | exact q2 | (obtain ⟨rfl, rfl, rfl, rfl⟩ := q2; rfl)
      subst hv2
      exact ⟨by simp, ⟨_, _, _, _, q1⟩, v, hv, hb'⟩
    | s n => exact hc.elim
    | h => exact hc.elim
  have hneb : ∀ c b, owns (X.frz k xs s) L c b → b ≠ blk := by
    rintro c b hc rfl
    obtain ⟨h1, h2⟩ := hown c _ hc
    exact h1 (h.disj c (.b k) _ h2 hmine)
  obtain ⟨H0, gH, hokH, hmayH⟩ := h.heap
  have hfb : ∀ c, foot G H0 w c → c ≠ blk := fun c hc e => h.hdisj _ _ hmine H0 gH (e ▸ hc)
  have hst := hokH.stay (w' := w) hle rfl (fun c hc o => (hkn2 c o (hfb c hc)).trans ((hokH.foot hc).2 o)) (fun c hc => rfl) (Nat.le_refl _)
  have hgh : ∀ H2, get (X.frz k xs s) .h = some (.hp H2) → get s .h = some (.hp H2) := by
    intro H2 g2
    rw [hg] at g2
    obtain ⟨v, q1, q2⟩ := Option.map_eq_some_iff.1 g2
    simp only [reduceCtorEq, if_false] at q2
    have hv2 : v = .hp H2 := by cases v <;> simp [frzCV] at q2; exact congrArg _ q2
    rw [hv2] at q1; exact q1
  refine ⟨G', h.size, h.defs, h.ge, ?_, ?_, h.obs, h.obn, h.fr, ?_, ?_, ?_, fun c d b hc hd => h.disj c d b (hown _ _ hc).2 (hown _ _ hd).2, ⟨H0, by rw [hg]; simp [gH, frzCV], hst.1, fun b hb => hmayH b ((hst.2 b).1 hb)⟩, fun c b hc H2 g2 e2 => ?_, ?_, ?_⟩
  · intro b j v e
    by_cases eb : b = blk
    · subst eb
      rw [add_kn] at e
      rw [cell_of_row w b j arr el (0, 0) hh]
      simpa using e
    · rw [hkn2 b j eb] at e; exact h.kn b j v e
  · intro b j hlt hm
    rw [hkn2 b j (fun e => by
      subst e
      rcases hbase with e | e
      · omega
      · exact hm e)]
    exact h.old b j hlt hm
  · intro n x g
    rw [hg] at g
    obtain ⟨v, q1, q2⟩ := Option.map_eq_some_iff.1 g
    simp only [reduceCtorEq, if_false] at q2
    cases v <;> simp [frzCV] at q2
    subst q2
    exact hsv _ _ (h.slot n _ q1) (hn n _ q1)
  · intro j cv g hl
    rw [hg] at g
    obtain ⟨v, q1, q2⟩ := Option.map_eq_some_iff.1 g
    split at q2
    · subst q2; cases hl
    · rename_i e
      subst q2
      rw [hlive] at hl
      have hne : ∀ b2, L.box j = some b2 → b2 ≠ blk := by
        rintro b2 p1 rfl
        exact e (h.disj (.b j) (.b k) _ ⟨⟨v, q1, hl⟩, p1⟩ hmine)
      have e1 : frzCV k xs v = v := by cases v <;> first | rfl | cases hl
      rw [e1]
      exact (h.box j v q1 hl).stay hle (fun _ _ e => .inl e) (fun _ _ => rfl) (fun b2 p1 o => hkn2 b2 o (hne b2 p1))
  · intro j m el' esz' ys g
    rw [hg] at g
    obtain ⟨v2, q1, q2⟩ := Option.map_eq_some_iff.1 g
    simp only [reduceCtorEq, if_false] at q2
    have hv2 : v2 = .tk m el' esz' ys := by cases v2 <;> simp [frzCV] at q2 <;> first | exact q2 | (obtain ⟨rfl, rfl, rfl, rfl⟩ := q2; rfl)
    subst hv2
    refine (h.tok j m el' esz' ys q1).stay hle (fun _ _ e => .inl e) (fun _ _ _ _ => rfl) (fun v b2 hv hb2 o => hkn2 b2 o ?_)
    rintro rfl
    have := h.disj (.t j) (.b k) _ ⟨⟨_, _, _, _, q1⟩, v, hv, hb2⟩ hmine
    cases this
  · have := hgh H2 g2
    rw [gH] at this; cases this
    have e3 := (hst.2 b).1 e2
    exact h.hdisj c b (hown _ _ hc).2 _ gH e3
  · intro j g
    rw [hg] at g
    exact h.nobox j (by simpa using g)
  · intro j g
    rw [hg] at g
    exact h.notok j (by simpa using g)
/-- The side conditions, as a test. -/
def frzOK (k n : Nat) : St → Bool
  | [] => true
  | (_, .sv (.mv j m)) :: s => (!(j == k) || m == n) && frzOK k n s
  | (_, .bx l) :: s => l.all (fun x => match x with | .mv j _ => !(j == k) | _ => true) && frzOK k n s
  | _ :: s => frzOK k n s
theorem Kept.frz {Q : St → Prop} (k : Nat) (xs : List AV) (esz : Nat) (hk : get s (.b k) = some (.bx ((xs.flatMap AV.cells).map .v))) (hes : ∀ e ∈ xs, e.cells.length = esz)
    (hn : ∀ n x, get s (.s n) = some (.sv x) → ∀ m, x = .mv k m → m = xs.length) (hnb : ∀ j l, get s (.b j) = some (.bx l) → ∀ m, Sv.mv k m ∉ l) (h : Kept (X.frz k xs s) Q) : Kept s Q := fun E N a w ⟨G, L, hr⟩ => by
  obtain ⟨G', hr'⟩ := hr.frz hk hes hn hnb
  exact h E N a w ⟨G', L, hr'⟩

/-! ### Results -/
inductive ResL (P : Program) (s : St) : List ResultVar → List AV → Prop where
  | nil : ResL P s [] []
  | tmp {t : Nat} {a : AV} {l : List ResultVar} {m : List AV} : opv (.tmp t) s = some a → ResL P s l m → ResL P s (.tmp t :: l) (a :: m)
  | cell {t : Nat} {ty : TypeId} {k off n : Nat} {b : Bool} {cs : List Sv} {z : Sv} {a : AV} {l : List ResultVar} {m : List AV} : lk P ty = some (b, n) → opd (.tmp t) s = some (.lp k off) → get s (.b k) = some (.bx cs) → ldc b n (cs.drop off) = some z → z.av = some a → ResL P s l m → ResL P s (.cell t ty :: l) (a :: m)
def res (m : List AV) : AV :=
  match m with
  | [a] => a
  | m => .tup m
def resF (tmps : Array Value) : ResultVar → Sem Value
  | .tmp t => pure (tmps.getD t undef)
  | .cell p t => do loadVar t (← asAddr (tmps.getD p undef))
theorem ResL.run {E : Ent} {G : Gh} {L : Loc} {a : Act} {w : World} (hr : Rel E N G L a w s) {l : List ResultVar} {m : List AV} (h : ResL P s l m) : ∃ vs : List Value, (l.mapM (resF a.tmps)).run P w = .ok vs w ∧ vs.length = m.length ∧ ∀ (j : Nat) x, m[j]? = some x → V G (vs.getD j undef) x := by
  induction h with
  | nil => exact ⟨[], rfl, rfl, fun j x e => by simp at e⟩
  | @tmp t b l m hx _ ih =>
    obtain ⟨vs, h1, h2, h3⟩ := ih
    have hv := opv_sound hr (fun _ _ => rfl) hx
    refine ⟨a.tmps.getD t undef :: vs, ?_, by simp [h2], fun j x e => ?_⟩
    · simp only [List.mapM_cons, resF, Sem.run_bind, Sem.run_pure, Result.andThen_ok, h1]
    · cases j with
      | zero => simp at e; subst e; exact hv
      | succ j => simpa using h3 j x (by simpa using e)
  | @cell t ty k off n b cs z c l m hlk hx hk hz ha _ ih =>
    obtain ⟨vs, h1, h2, h3⟩ := ih
    obtain ⟨blk, hb, hv⟩ := opd_sound hr (fun _ _ => rfl) hx
    obtain ⟨blk', o, hb', hbase, hh, ⟨arr, el, rfl, hsz, hc⟩, hn⟩ := hr.box k (.bx cs) hk rfl
    rw [hb] at hb'; cases hb'
    have hcell : ∀ (j : Nat) y, (cs.drop off)[j]? = some y → w.cell? ((⟨blk, off, none⟩ : Addr).add j) = some (arr.getD (off + j) undef) ∧ y.flat = true ∧ SV G L (arr.getD (off + j) undef) y := by
      intro j y e
      rw [List.getElem?_drop] at e
      refine ⟨?_, hc _ y e⟩
      have hlt : off + j < arr.size := by have := (List.getElem?_eq_some_iff.1 e).1; omega
      rw [Addr.add_lit, cell_of_row w blk (off + j) arr el (0, 0) hh, Array.getD_eq_getD_getElem?, Array.getElem?_eq_getElem hlt]
      rfl
    obtain ⟨v, hrun, hV⟩ := run_load_of (P := P) hlk hz hcell
    have hv' : a.tmps.getD t undef = .pointer (some ⟨blk, off, none⟩) := hv
    refine ⟨v :: vs, ?_, by simp [h2], fun j x e => ?_⟩
    · simp only [List.mapM_cons, resF, Sem.run_bind, hv', asAddr, Sem.run_pure, Result.andThen_ok, hrun, h1]
    · cases j with
      | zero => simp at e; subst e; exact hV.av ha
      | succ j => simpa using h3 j x (by simpa using e)
theorem ResOK.mk {fn : Func} {l : List ResultVar} {m : List AV} (hf : fn.results = l.toArray) (h : ResL P s l m) : ResOK P fn s (res m) := by
  intro E N G L a w hr
  obtain ⟨vs, h1, h2, h3⟩ := h.run hr
  have hm : (fn.results.mapM (resF a.tmps)).run P w = .ok vs.toArray w := by
    rw [hf, Array.mapM_eq_mapM_toList]
    simp only [Sem.run_map, List.toList_toArray, h1, Result.andThen_ok]
  by_cases hone : m.length = 1
  · match m, hone with
    | [x], _ =>
      match vs, h2 with
      | [v], _ =>
        refine ⟨v, ?_, show V G v x by simpa using h3 0 x rfl⟩
        show ((fn.results.mapM (resF a.tmps)) >>= fun vs => pure (if h : vs.size = 1 then vs[0] else .tuple vs) : Sem Value).run P w = _
        rw [Sem.run_bind, hm]
        rfl
  · refine ⟨.tuple vs.toArray, ?_, ?_⟩
    · have : ¬ vs.toArray.size = 1 := by simp [h2, hone]
      show ((fn.results.mapM (resF a.tmps)) >>= fun vs => pure (if h : vs.size = 1 then vs[0] else .tuple vs) : Sem Value).run P w = _
      rw [Sem.run_bind, hm]
      simp only [Result.andThen_ok]
      rw [dif_neg this]
      rfl
    · have e : res m = .tup m := by
        match m, hone with
        | [], _ => rfl
        | [x], h => exact absurd rfl h
        | x :: y :: m, _ => rfl
      rw [e]
      refine V.tup _ _ (by simpa using h2) fun j c ej => ?_
      have := h3 j c ej
      simpa [Array.getD_eq_getD_getElem?, List.getD_eq_getElem?_getD] using this
end
end Go.Proofs.YthoncmadikifnaaDoor.X
