/- The program logic's rules: shared objects are opened, closed, published. No condition. -/
import Derived.Test.YthoncmadikifnaaDoorXC
set_option linter.unusedVariables false
set_option linter.unusedSimpArgs false
namespace Go.Proofs.YthoncmadikifnaaDoor.X
open Go Go.RowKit

/-! ### Pointers to an object that is open -/
theorem Rel.re {E : Ent} {N : Nat} {G : Gh} {L : Loc} {a : Act} {w : World} {s : St} (h : Rel E N G L a w s) {j : Nat} {y : Sv} (hv : SV G L (a.tmps.getD j undef) y) : Rel E N G L a w ((.s j, .sv y) :: s) := by
  have ho : ∀ c blk, owns ((.s j, .sv y) :: s) L c blk → owns s L c blk := by
    intro c blk hc
    cases c <;> simp only [owns, get, reduceCtorEq, if_false] at hc ⊢ <;> exact hc
  refine ⟨h.size, h.defs, h.ge, h.kn, h.old, h.obs, h.obn, h.fr, ?_, fun k cv g => h.box k cv (by simpa [get] using g), fun k m el esz xs g => h.tok k m el esz xs (by simpa [get] using g),
    fun c d b hc hd => h.disj c d b (ho _ _ hc) (ho _ _ hd), by simpa [get] using h.heap, fun c b hc H g => h.hdisj c b (ho _ _ hc) H (by simpa [get] using g), fun k g => h.nobox k (by simpa [get] using g), fun k g => h.notok k (by simpa [get] using g)⟩
  intro n x g
  by_cases e : j = n
  · subst e; simp [get] at g; subst g; exact hv
  · exact h.slot n x (by simpa [get, e] using g)
theorem Kept.lp {s : St} {Q : St → Prop} (j k : Nat) {id off : Nat} {cs : List Sv} (hj : get s (.s j) = some (.sv (.v (.op id off)))) (hk : get s (.b k) = some (.ob id cs)) (h : Kept ((.s j, .sv (.lp k off)) :: s) Q) : Kept s Q := fun E N a w ⟨G, L, hr⟩ => by
  obtain ⟨blk, o, q1, q2, q3, q4, q5, q6⟩ := hr.box k _ hk rfl
  have hv : V G (a.tmps.getD j undef) (.op id off) := hr.slot j _ hj
  generalize hu : a.tmps.getD j undef = u at hv
  cases hv with
  | op _ _ b hb =>
    have q6' : G.ob id = some blk := q6
    rw [q6'] at hb; cases hb
    exact h E N a w ⟨G, L, hr.re (by rw [hu]; exact ⟨_, q1, rfl⟩)⟩
theorem Kept.op {s : St} {Q : St → Prop} (j : Nat) {k id off : Nat} {cs : List Sv} (hj : get s (.s j) = some (.sv (.lp k off))) (hk : get s (.b k) = some (.ob id cs)) (h : Kept ((.s j, .sv (.v (.op id off))) :: s) Q) : Kept s Q := fun E N a w ⟨G, L, hr⟩ => by
  obtain ⟨blk, o, q1, q2, q3, q4, q5, q6⟩ := hr.box k _ hk rfl
  obtain ⟨b, hb, hv⟩ := hr.slot j _ hj
  rw [q1] at hb; cases hb
  refine h E N a w ⟨G, L, hr.re (by rw [hv]; exact V.op id off _ q6)⟩

/-! ### A new object -/
def Gh.pub (G : Gh) (id blk : Nat) : Gh := ⟨G.kn, fun i => if i = id then some blk else G.ob i⟩
theorem Rel.pub {E : Ent} {N : Nat} {G : Gh} {L : Loc} {a : Act} {w : World} {s : St} (h : Rel E N G L a w s) {k : Nat} {cs : List Sv} {H : Hp} (hk : get s (.b k) = some (.bx cs)) (hH : get s .h = some (.hp H)) :
    ∃ G', Rel E N G' L a w ((.b k, .ob H.next cs) :: (.h, .hp ⟨H.next + 1, H.obj⟩) :: s) := by
  obtain ⟨blk, o, hb, hbase, hh, hobj, hno, hlk⟩ := h.box k _ hk rfl
  have hlk : E.w0.heap.size ≤ blk ∧ ∀ id, G.ob id ≠ some blk := hlk
  obtain ⟨H0, gH, hok, hmay⟩ := h.heap
  rw [hH] at gH; cases gH
  have hmine : owns s L (.b k) blk := ⟨⟨_, hk, rfl⟩, hb⟩
  have hnf : ¬ foot G H w blk := h.hdisj _ _ hmine H hH
  let G' := G.pub H.next blk
  have hnew : G.ob H.next = none := by
    cases e : G.ob H.next with
    | none => rfl
    | some b => have := (hok.lt _ _ e).1; omega
  have hle : G.le G' := ⟨fun b o v e => e, fun id b e => by
    show (if id = H.next then some blk else G.ob id) = some b
    rw [if_neg (fun e2 => by rw [e2, hnew] at e; cases e)]; exact e⟩
  have hob : ∀ id b, G'.ob id = some b → (id = H.next ∧ b = blk) ∨ (id ≠ H.next ∧ G.ob id = some b) := by
    intro id b e
    by_cases e2 : id = H.next
    · refine .inl ⟨e2, ?_⟩
      have : (if id = H.next then some blk else G.ob id) = some b := e
      rw [if_pos e2] at this; cases this; rfl
    · refine .inr ⟨e2, ?_⟩
      have : (if id = H.next then some blk else G.ob id) = some b := e
      rwa [if_neg e2] at this
  have hob1 : G'.ob H.next = some blk := by show (if H.next = H.next then some blk else G.ob H.next) = some blk; rw [if_pos rfl]
  have hnone : H.obj H.next = none := by
    cases e : H.obj H.next with
    | none => rfl
    | some hs => obtain ⟨b, _, _, q, _⟩ := hok.obj _ _ e; rw [hnew] at q; cases q
  have hrw : ∀ H' : Hp, H'.obj = H.obj → ∀ id j b, hrow G' H' w id j b → hrow G H w id j b := by
    rintro H' e id j b ⟨cs, el, esz, xs, b0, arr, t, fr, h1, h2, h3, h4, h5⟩
    rw [e] at h1
    refine ⟨cs, el, esz, xs, b0, arr, t, fr, h1, h2, ?_, h4, h5⟩
    rcases hob _ _ h3 with ⟨rfl, _⟩ | ⟨_, q⟩
    · rw [hnone] at h1; cases h1
    · exact q
  have hft : ∀ H' : Hp, H'.obj = H.obj → ∀ b, foot G' H' w b → foot G H w b := by
    rintro H' e b (⟨id, ⟨hs, h1⟩, h2⟩ | ⟨id, j, hr⟩)
    · rw [e] at h1
      rcases hob _ _ h2 with ⟨rfl, _⟩ | ⟨_, q⟩
      · rw [hnone] at h1; cases h1
      · exact .inl ⟨id, ⟨hs, h1⟩, q⟩
    · exact .inr ⟨id, j, hrw H' e id j b hr⟩
  have hown : ∀ c b, owns ((.b k, .ob H.next cs) :: (.h, .hp ⟨H.next + 1, H.obj⟩) :: s) L c b → owns s L c b := by
    intro c b hc
    by_cases e : c = .b k
    · subst e
      have := hc.2
      rw [hb] at this; cases this
      exact hmine
    · have := owns_cons e hc
      cases c with
      | b j => exact owns_cons (by simp) this
      | t j => exact owns_cons (by simp) this
      | s n => exact this.elim
      | h => exact this.elim
  refine ⟨G', h.size, h.defs, h.ge, h.kn, h.old, fun id b e => hle.ob _ _ (h.obs id b e), ?_, h.fr, ?_, ?_, ?_, fun c d b hc hd => h.disj c d b (hown _ _ hc) (hown _ _ hd), ⟨⟨H.next + 1, H.obj⟩, by simp [get], ⟨?_, ?_, ?_, ?_⟩, fun b hb => hmay b (hft _ rfl b hb)⟩, ?_, ?_, ?_⟩
  · intro id b e
    rcases hob _ _ e with ⟨_, rfl⟩ | ⟨_, q⟩
    · exact .inr hlk.1
    · exact h.obn id b q
  · intro n x g
    exact (h.slot n x (by simpa [get] using g)).mono hle
  · intro j cv g hl
    by_cases e : j = k
    · subst e
      simp [get] at g
      subst g
      exact ⟨blk, o, hb, hbase, hh, (show ObjOK G' L o (.ob H.next cs) from (hobj.mono hle : ObjOK G' L o (.bx cs))), hno, hob1⟩
    · have g' : get s (.b j) = some cv := by simpa [get, Ne.symm e] using g
      obtain ⟨b2, o2, p1, p2, p3, p4, p5, p6⟩ := h.box j cv g' hl
      refine ⟨b2, o2, p1, p2, p3, p4.mono hle, p5, ?_⟩
      cases hl2 : cv.link with
      | some id => rw [hl2] at p6; exact hle.ob _ _ p6
      | none =>
        rw [hl2] at p6
        refine ⟨p6.1, fun id e2 => ?_⟩
        rcases hob _ _ e2 with ⟨_, rfl⟩ | ⟨_, q⟩
        · have := h.disj (.b j) (.b k) _ ⟨⟨cv, g', hl⟩, p1⟩ hmine
          exact e (by injection this)
        · exact p6.2 id q
  · intro j m el esz xs g
    have g' : get s (.t j) = some (.tk m el esz xs) := by simpa [get] using g
    obtain ⟨v, hv, hr, hm⟩ := h.tok j m el esz xs g'
    refine ⟨v, hv, hr.stay hle (fun _ _ => rfl) (fun _ _ _ => rfl), fun b e => ⟨(hm b e).1, fun id e2 => ?_⟩⟩
    rcases hob _ _ e2 with ⟨_, rfl⟩ | ⟨_, q⟩
    · have := h.disj (.t j) (.b k) _ ⟨⟨_, _, _, _, g'⟩, v, hv, e⟩ hmine
      cases this
    · exact (hm b e).2 id q
  · intro id b e
    rcases hob _ _ e with ⟨rfl, rfl⟩ | ⟨_, q⟩
    · exact ⟨Nat.lt_succ_self _, (Array.getElem?_eq_some_iff.1 hh).1⟩
    · exact ⟨Nat.lt_succ_of_lt (hok.lt id b q).1, (hok.lt id b q).2⟩
  · intro id id' b e e'
    rcases hob _ _ e with ⟨rfl, rfl⟩ | ⟨_, q⟩ <;> rcases hob _ _ e' with ⟨rfl, h2⟩ | ⟨_, q'⟩
    · rfl
    · exact absurd q' (hlk.2 _)
    · subst h2; exact absurd q (hlk.2 _)
    · exact hok.inj id id' b q q'
  · intro id hs e
    obtain ⟨b2, arr, el, q1, q2, q3, q4, q5⟩ := hok.obj id hs e
    refine ⟨b2, arr, el, hle.ob _ _ q1, q2, q3, fun j x hx => ?_, q5⟩
    have := q4 j x hx
    cases x with
    | v a => exact ⟨this.1, this.2.mono hle⟩
    | row el2 esz xs =>
      have hr : RowOK G w true el2 esz (arr.getD j undef) xs := this
      exact hr.stay hle (fun _ _ => rfl) (fun _ _ _ => rfl)
  · intro id j b hr
    have hr0 := hrw ⟨H.next + 1, H.obj⟩ rfl id j b hr
    obtain ⟨h1, h2⟩ := hok.apart id j b hr0
    refine ⟨fun id' e => ?_, fun id' j' hr' => h2 id' j' (hrw ⟨H.next + 1, H.obj⟩ rfl id' j' b hr')⟩
    rcases hob _ _ e with ⟨rfl, rfl⟩ | ⟨_, q⟩
    · exact hnf (.inr ⟨id, j, hr0⟩)
    · exact h1 id' q
  · intro c b hc H2 g2 e
    simp [get] at g2
    subst g2
    exact h.hdisj c b (hown _ _ hc) H hH (hft _ rfl b e)
  · intro j g
    by_cases e : j = k
    · subst e; simp [get] at g
    · exact h.nobox j (by simpa [get, Ne.symm e] using g)
  · intro j g; exact h.notok j (by simpa [get] using g)
theorem Kept.pub {s : St} {Q : St → Prop} (k : Nat) {cs : List Sv} {H : Hp} (hk : get s (.b k) = some (.bx cs)) (hH : get s .h = some (.hp H)) (h : Kept ((.b k, .ob H.next cs) :: (.h, .hp ⟨H.next + 1, H.obj⟩) :: s) Q) : Kept s Q := fun E N a w ⟨G, L, hr⟩ => by
  obtain ⟨G', hr'⟩ := hr.pub hk hH
  exact h E N a w ⟨G', L, hr'⟩

/-! ### An object is opened -/
def opnCells (f : Nat) : Nat → List Hc → List Sv
  | _, [] => []
  | j, .v a :: l => .v a :: opnCells f (j + 1) l
  | j, .row _ _ xs :: l => .om (f + j) xs.length :: opnCells f (j + 1) l
def opnToks (f : Nat) : Nat → List Hc → St
  | _, [] => []
  | j, .v _ :: l => opnToks f (j + 1) l
  | j, .row el esz xs :: l => (.t (f + j), .tk true el esz xs) :: opnToks f (j + 1) l
theorem opnCells_get (f : Nat) : ∀ (hs : List Hc) (i j : Nat), (opnCells f i hs)[j]? = match hs[j]? with | some (.v a) => some (.v a) | some (.row _ _ xs) => some (.om (f + (i + j)) xs.length) | none => none
  | [], i, j => by simp [opnCells]
  | .v a :: l, i, 0 => by simp [opnCells]
  | .row el esz xs :: l, i, 0 => by simp [opnCells]
  | .v a :: l, i, j + 1 => by simp only [opnCells, List.getElem?_cons_succ, opnCells_get f l (i + 1) j]; rw [show i + 1 + j = i + (j + 1) by omega]
  | .row el esz xs :: l, i, j + 1 => by simp only [opnCells, List.getElem?_cons_succ, opnCells_get f l (i + 1) j]; rw [show i + 1 + j = i + (j + 1) by omega]
theorem opnCells_len (f : Nat) : ∀ (hs : List Hc) (i : Nat), (opnCells f i hs).length = hs.length
  | [], i => rfl
  | .v a :: l, i => by simp [opnCells, opnCells_len f l]
  | .row el esz xs :: l, i => by simp [opnCells, opnCells_len f l]
theorem opnToks_get (f : Nat) (s : St) : ∀ (hs : List Hc) (i : Nat) (c : Comp), (∃ j el esz xs, c = .t (f + (i + j)) ∧ hs[j]? = some (.row el esz xs) ∧ get (opnToks f i hs ++ s) c = some (.tk true el esz xs)) ∨
    ((∀ j el esz xs, hs[j]? = some (.row el esz xs) → c ≠ .t (f + (i + j))) ∧ get (opnToks f i hs ++ s) c = get s c)
  | [], i, c => .inr ⟨fun j el esz xs e => by simp at e, rfl⟩
  | .v a :: l, i, c => by
    rcases opnToks_get f s l (i + 1) c with ⟨j, el, esz, xs, h1, h2, h3⟩ | ⟨h1, h2⟩
    · exact .inl ⟨j + 1, el, esz, xs, by rw [h1]; congr 2; omega, by simpa using h2, h3⟩
    · refine .inr ⟨fun j el esz xs e => ?_, h2⟩
      cases j with
      | zero => simp at e
      | succ j => rw [show i + (j + 1) = i + 1 + j by omega]; exact h1 j el esz xs (by simpa using e)
  | .row el0 esz0 xs0 :: l, i, c => by
    by_cases hc : c = .t (f + i)
    · refine .inl ⟨0, el0, esz0, xs0, by rw [hc]; rfl, rfl, ?_⟩
      simp [opnToks, get, hc]
    · have hg : get (opnToks f i (.row el0 esz0 xs0 :: l) ++ s) c = get (opnToks f (i + 1) l ++ s) c := by
        simp only [opnToks, List.cons_append, get, if_neg (Ne.symm hc)]
      rw [hg]
      rcases opnToks_get f s l (i + 1) c with ⟨j, el, esz, xs, h1, h2, h3⟩ | ⟨h1, h2⟩
      · exact .inl ⟨j + 1, el, esz, xs, by rw [h1]; congr 2; omega, by simpa using h2, h3⟩
      · refine .inr ⟨fun j el esz xs e => ?_, h2⟩
        cases j with
        | zero => exact hc
        | succ j => rw [show i + (j + 1) = i + 1 + j by omega]; exact h1 j el esz xs (by simpa using e)
def Hp.del (H : Hp) (id : Nat) : Hp := ⟨H.next, fun i => if i = id then none else H.obj i⟩
theorem HpOK.del {G : Gh} {w : World} {H : Hp} (h : HpOK G w H) (id : Nat) : HpOK G w (H.del id) ∧ (∀ id' j b, hrow G (H.del id) w id' j b → id' ≠ id ∧ hrow G H w id' j b) ∧ ∀ b, X.foot G (H.del id) w b → X.foot G H w b := by
  have ho : ∀ i hs, (H.del id).obj i = some hs → i ≠ id ∧ H.obj i = some hs := by
    intro i hs e
    by_cases e2 : i = id
    · have : (if i = id then none else H.obj i) = some hs := e
      rw [if_pos e2] at this; cases this
    · have : (if i = id then none else H.obj i) = some hs := e
      rw [if_neg e2] at this; exact ⟨e2, this⟩
  have hr : ∀ id' j b, hrow G (H.del id) w id' j b → id' ≠ id ∧ hrow G H w id' j b := by
    rintro id' j b ⟨cs, el, esz, xs, b0, arr, t, fr, h1, h2, h3, h4, h5⟩
    exact ⟨(ho _ _ h1).1, cs, el, esz, xs, b0, arr, t, fr, (ho _ _ h1).2, h2, h3, h4, h5⟩
  refine ⟨⟨h.lt, h.inj, fun i hs e => h.obj i hs (ho i hs e).2, fun id' j b e => ⟨(h.apart id' j b (hr _ _ _ e).2).1, fun i2 j2 e2 => (h.apart id' j b (hr _ _ _ e).2).2 i2 j2 (hr _ _ _ e2).2⟩⟩, hr, ?_⟩
  rintro b (⟨i, ⟨hs, h1⟩, h2⟩ | ⟨i, j, h1⟩)
  · exact .inl ⟨i, ⟨hs, (ho _ _ h1).2⟩, h2⟩
  · exact .inr ⟨i, j, (hr _ _ _ h1).2⟩
theorem BoxOK.loc {E : Ent} {G : Gh} {L L' : Loc} {w : World} {k : Nat} {cv : CV} (h : BoxOK E G L w k cv) (hb : ∀ k b, L.box k = some b → L'.box k = some b) (ht : ∀ k u, L.tok k = some u → L'.tok k = some u) : BoxOK E G L' w k cv := by
  obtain ⟨blk, o, q1, q2, q3, q4, q5⟩ := h
  exact ⟨blk, o, hb _ _ q1, q2, q3, q4.loc hb ht, q5⟩
theorem Rel.opn {E : Ent} {N : Nat} {G : Gh} {L : Loc} {a : Act} {w : World} {s : St} (h : Rel E N G L a w s) {k id f : Nat} {hs : List Hc} {H : Hp} (hH : get s .h = some (.hp H)) (ho : H.obj id = some hs) (hk : get s (.b k) = none)
    (hf : ∀ j el esz xs, hs[j]? = some (.row el esz xs) → get s (.t (f + j)) = none) : ∃ L', Rel E N G L' a w ((.b k, .ob id (opnCells f 0 hs)) :: (opnToks f 0 hs ++ ((.h, .hp (H.del id)) :: s))) := by
  obtain ⟨H0, gH, hok, hmay⟩ := h.heap
  rw [hH] at gH; cases gH
  obtain ⟨blk, arr, el0, q1, q2, q3, q4, q5⟩ := hok.obj id hs ho
  obtain ⟨hd1, hd2, hd3⟩ := hok.del id
  have hfb : foot G H w blk := .inl ⟨id, ⟨hs, ho⟩, q1⟩
  have hrowb : ∀ (j el esz xs b : _), hs[j]? = some (.row el esz xs) → (arr.getD j undef).ownBlock = some b → hrow G H w id j b := fun j el esz xs b e e2 => ⟨_, _, _, _, _, _, _, _, ho, e, q1, q2, e2⟩
  let L' : Loc := ⟨fun j => if j = k then some blk else L.box j, fun t => match (if f ≤ t then hs[t - f]? else none) with | some (.row _ _ _) => some (arr.getD (t - f) undef) | _ => L.tok t⟩
  have hLt : ∀ j el esz xs, hs[j]? = some (.row el esz xs) → L'.tok (f + j) = some (arr.getD j undef) := by
    intro j el esz xs e
    show (match (if f ≤ f + j then hs[f + j - f]? else none) with | some (.row _ _ _) => some (arr.getD (f + j - f) undef) | _ => L.tok (f + j)) = _
    rw [if_pos (by omega), show f + j - f = j by omega, e]
  have hLo : ∀ t, (∀ j el esz xs, hs[j]? = some (.row el esz xs) → t ≠ f + j) → L'.tok t = L.tok t := by
    intro t ht
    show (match (if f ≤ t then hs[t - f]? else none) with | some (.row _ _ _) => some (arr.getD (t - f) undef) | _ => L.tok t) = _
    by_cases e : f ≤ t
    · rw [if_pos e]
      cases e2 : hs[t - f]? with
      | none => rfl
      | some x =>
        cases x with
        | v a => rfl
        | row el esz xs => exact absurd (by omega) (ht _ _ _ _ e2)
    · rw [if_neg e]
  have hbl : ∀ j b, L.box j = some b → L'.box j = some b := by
    intro j b e
    by_cases e2 : j = k
    · subst e2; rw [h.nobox _ hk] at e; cases e
    · show (if j = k then some blk else L.box j) = some b
      rw [if_neg e2]; exact e
  have htl : ∀ t u, L.tok t = some u → L'.tok t = some u := by
    intro t u e
    rw [hLo t]; exact e
    intro j el esz xs e2 e3
    rw [e3, h.notok _ (hf j el esz xs e2)] at e; cases e
  have hg : ∀ c, get ((.b k, .ob id (opnCells f 0 hs)) :: (opnToks f 0 hs ++ ((.h, .hp (H.del id)) :: s))) c = if c = .b k then some (.ob id (opnCells f 0 hs)) else get (opnToks f 0 hs ++ ((.h, .hp (H.del id)) :: s)) c := by
    intro c
    by_cases e : c = .b k
    · rw [if_pos e, e]; simp [get]
    · rw [if_neg e]; simp [get, Ne.symm e]
  have hgs : ∀ n, get ((.b k, .ob id (opnCells f 0 hs)) :: (opnToks f 0 hs ++ ((.h, .hp (H.del id)) :: s))) (.s n) = get s (.s n) := by
    intro n
    rw [hg, if_neg (by simp)]
    rcases opnToks_get f ((.h, .hp (H.del id)) :: s) hs 0 (.s n) with ⟨j, _, _, _, e, _⟩ | ⟨_, e⟩
    · cases e
    · rw [e]; simp [get]
  have hgb : ∀ j, j ≠ k → get ((.b k, .ob id (opnCells f 0 hs)) :: (opnToks f 0 hs ++ ((.h, .hp (H.del id)) :: s))) (.b j) = get s (.b j) := by
    intro j hj
    rw [hg, if_neg (by simpa using hj)]
    rcases opnToks_get f ((.h, .hp (H.del id)) :: s) hs 0 (.b j) with ⟨i, _, _, _, e, _⟩ | ⟨_, e⟩
    · cases e
    · rw [e]; simp [get]
  have hgh : get ((.b k, .ob id (opnCells f 0 hs)) :: (opnToks f 0 hs ++ ((.h, .hp (H.del id)) :: s))) .h = some (.hp (H.del id)) := by
    rw [hg, if_neg (by simp)]
    rcases opnToks_get f ((.h, .hp (H.del id)) :: s) hs 0 .h with ⟨i, _, _, _, e, _⟩ | ⟨_, e⟩
    · cases e
    · rw [e]; simp [get]
  have hgt : ∀ t, (∃ j el esz xs, t = f + j ∧ hs[j]? = some (.row el esz xs) ∧ get ((.b k, .ob id (opnCells f 0 hs)) :: (opnToks f 0 hs ++ ((.h, .hp (H.del id)) :: s))) (.t t) = some (.tk true el esz xs)) ∨
      ((∀ j el esz xs, hs[j]? = some (.row el esz xs) → t ≠ f + j) ∧ get ((.b k, .ob id (opnCells f 0 hs)) :: (opnToks f 0 hs ++ ((.h, .hp (H.del id)) :: s))) (.t t) = get s (.t t)) := by
    intro t
    rw [hg, if_neg (by simp)]
    rcases opnToks_get f ((.h, .hp (H.del id)) :: s) hs 0 (.t t) with ⟨j, el, esz, xs, e1, e2, e3⟩ | ⟨e1, e2⟩
    · exact .inl ⟨j, el, esz, xs, by injection e1 with e1; omega, e2, e3⟩
    · refine .inr ⟨fun j el esz xs e e4 => e1 j el esz xs e (by rw [e4]; congr 1; omega), ?_⟩
      rw [e2]; simp [get]
  have hown : ∀ c b, owns ((.b k, .ob id (opnCells f 0 hs)) :: (opnToks f 0 hs ++ ((.h, .hp (H.del id)) :: s))) L' c b → (c = .b k ∧ b = blk) ∨ (∃ j el esz xs, c = .t (f + j) ∧ hs[j]? = some (.row el esz xs) ∧ (arr.getD j undef).ownBlock = some b) ∨ owns s L c b := by
    intro c b hc
    cases c with
    | b j =>
      by_cases e : j = k
      · subst e
        refine .inl ⟨rfl, ?_⟩
        have h2 : (if j = j then some blk else L.box j) = some b := hc.2
        rw [if_pos rfl] at h2; cases h2; rfl
      · obtain ⟨⟨cv, g, hl⟩, hb⟩ := hc
        rw [hgb j e] at g
        have h2 : (if j = k then some blk else L.box j) = some b := hb
        rw [if_neg e] at h2
        exact .inr (.inr ⟨⟨cv, g, hl⟩, h2⟩)
    | t t =>
      obtain ⟨⟨m, el, esz, xs, g⟩, v, hv, hb⟩ := hc
      rcases hgt t with ⟨j, el2, esz2, xs2, rfl, e2, _⟩ | ⟨e1, e2⟩
      · rw [hLt j _ _ _ e2] at hv; cases hv
        exact .inr (.inl ⟨j, _, _, _, rfl, e2, hb⟩)
      · rw [e2] at g
        rw [hLo t e1] at hv
        exact .inr (.inr ⟨⟨m, el, esz, xs, g⟩, v, hv, hb⟩)
    | s n => exact hc.elim
    | h => exact hc.elim
  refine ⟨L', h.size, h.defs, h.ge, h.kn, h.old, h.obs, h.obn, h.fr, ?_, ?_, ?_, ?_, ⟨H.del id, hgh, hd1, fun b hb => hmay b (hd3 b hb)⟩, ?_, ?_, ?_⟩
  · intro n x g
    rw [hgs] at g
    exact (h.slot n x g).loc hbl htl
  · intro j cv g hl
    by_cases e : j = k
    · subst e
      rw [hg, if_pos rfl] at g
      cases g
      refine ⟨blk, _, by show (if j = j then some blk else L.box j) = some blk; rw [if_pos rfl], hmay blk hfb, q2, ⟨arr, el0, rfl, by rw [q3, opnCells_len], fun i x hx => ?_⟩, q5, q1⟩
      rw [opnCells_get] at hx
      cases e2 : hs[i]? with
      | none => rw [e2] at hx; cases hx
      | some y =>
        rw [e2] at hx
        have := q4 i y e2
        cases y with
        | v a => cases hx; exact ⟨this.1, this.2⟩
        | row el esz xs =>
          cases hx
          refine ⟨rfl, ?_⟩
          have hr : RowOK G w true el esz (arr.getD i undef) xs := this
          obtain ⟨cells, _, ho2, _⟩ := hr
          refine ⟨by rw [Nat.zero_add]; exact hLt i _ _ _ e2, ?_⟩
          rcases ho2.2 with ⟨e3, e4⟩ | ⟨g2, cap, cur, e3, _⟩
          · exact ⟨none, 0, by rw [e3, e4]⟩
          · exact ⟨_, _, e3⟩
    · rw [hgb j e] at g
      exact (h.box j cv g hl).loc hbl htl
  · intro t m el esz xs g
    rcases hgt t with ⟨j, el2, esz2, xs2, rfl, e2, e3⟩ | ⟨e1, e2⟩
    · rw [e3] at g; cases g
      have hr : RowOK G w true el esz (arr.getD j undef) xs := q4 j _ e2
      exact ⟨_, hLt j _ _ _ e2, hr, fun b hb => ⟨hmay b (.inr ⟨id, j, hrowb j _ _ _ b e2 hb⟩), (hok.apart id j b (hrowb j _ _ _ b e2 hb)).1⟩⟩
    · rw [e2] at g
      obtain ⟨v, hv, rest⟩ := h.tok t m el esz xs g
      exact ⟨v, by rw [hLo t e1]; exact hv, rest⟩
  · intro c d b hc hd
    rcases hown c b hc with ⟨rfl, rfl⟩ | ⟨j, el, esz, xs, rfl, e1, e2⟩ | h1 <;> rcases hown d _ hd with ⟨rfl, h3⟩ | ⟨j', el', esz', xs', rfl, e1', e2'⟩ | h2
    · rfl
    · exact absurd q1 ((hok.apart id j' _ (hrowb _ _ _ _ _ e1' e2')).1 id)
    · exact absurd hfb (h.hdisj _ _ h2 H hH)
    · subst h3; exact absurd q1 ((hok.apart id j _ (hrowb _ _ _ _ _ e1 e2)).1 id)
    · have := (hok.apart id j _ (hrowb _ _ _ _ _ e1 e2)).2 id j' (hrowb _ _ _ _ _ e1' e2')
      rw [this.2]
    · exact absurd (.inr ⟨id, j, hrowb _ _ _ _ _ e1 e2⟩) (h.hdisj _ _ h2 H hH)
    · subst h3; exact absurd hfb (h.hdisj _ _ h1 H hH)
    · exact absurd (.inr ⟨id, j', hrowb _ _ _ _ _ e1' e2'⟩) (h.hdisj _ _ h1 H hH)
    · exact h.disj c d b h1 h2
  · intro c b hc H2 g2 hft
    rw [hgh] at g2; cases g2
    rcases hown c b hc with ⟨rfl, rfl⟩ | ⟨j, el, esz, xs, rfl, e1, e2⟩ | h1
    · rcases hft with ⟨i, ⟨hs2, e1⟩, e2⟩ | ⟨i, j, e1⟩
      · have := hok.inj i id _ e2 q1
        subst this
        have e3 : (if i = i then none else H.obj i) = some hs2 := e1
        rw [if_pos rfl] at e3; cases e3
      · exact (hok.apart i j _ (hd2 _ _ _ e1).2).1 id q1
    · have hr := hrowb _ _ _ _ _ e1 e2
      rcases hft with ⟨i, ⟨hs2, e3⟩, e4⟩ | ⟨i, j2, e3⟩
      · exact (hok.apart id j b hr).1 i e4
      · obtain ⟨e5, e6⟩ := hd2 _ _ _ e3
        exact e5 ((hok.apart id j b hr).2 i j2 e6).1
    · exact h.hdisj c b h1 H hH (hd3 b hft)
  · intro j g
    by_cases e : j = k
    · subst e; rw [hg, if_pos rfl] at g; cases g
    · rw [hgb j e] at g
      show (if j = k then some blk else L.box j) = none
      rw [if_neg e]; exact h.nobox j g
  · intro t g
    rcases hgt t with ⟨j, el2, esz2, xs2, rfl, e2, e3⟩ | ⟨e1, e2⟩
    · rw [e3] at g; cases g
    · rw [e2] at g; rw [hLo t e1]; exact h.notok t g
def freeToks (f : Nat) (s : St) : Nat → List Hc → Bool
  | _, [] => true
  | j, .v _ :: l => freeToks f s (j + 1) l
  | j, .row _ _ _ :: l => (get s (.t (f + j))).isNone && freeToks f s (j + 1) l
theorem freeToks_spec {f : Nat} {s : St} : ∀ {hs : List Hc} {i : Nat}, freeToks f s i hs = true → ∀ j el esz xs, hs[j]? = some (.row el esz xs) → get s (.t (f + (i + j))) = none
  | .v a :: l, i, h, 0, el, esz, xs, e => by simp at e
  | .v a :: l, i, h, j + 1, el, esz, xs, e => by
    have := freeToks_spec (hs := l) (i := i + 1) h j el esz xs (by simpa using e)
    rwa [show i + 1 + j = i + (j + 1) by omega] at this
  | .row _ _ _ :: l, i, h, 0, el, esz, xs, e => by
    simp only [freeToks, Bool.and_eq_true, Option.isNone_iff_eq_none] at h
    exact h.1
  | .row _ _ _ :: l, i, h, j + 1, el, esz, xs, e => by
    simp only [freeToks, Bool.and_eq_true] at h
    have := freeToks_spec (hs := l) (i := i + 1) h.2 j el esz xs (by simpa using e)
    rwa [show i + 1 + j = i + (j + 1) by omega] at this
/-- Object id is opened, as box k, its rows as f, f+1, .. -/
theorem Kept.opn {s : St} {Q : St → Prop} (k id f : Nat) {hs : List Hc} {H : Hp} (hH : get s .h = some (.hp H)) (ho : H.obj id = some hs) (hk : get s (.b k) = none) (hf : freeToks f s 0 hs = true)
    (h : Kept ((.b k, .ob id (opnCells f 0 hs)) :: (opnToks f 0 hs ++ ((.h, .hp (H.del id)) :: s))) Q) : Kept s Q := fun E N a w ⟨G, L, hr⟩ => by
  obtain ⟨L', hr'⟩ := hr.opn hH ho hk (fun j el esz xs e => by have := freeToks_spec hf j el esz xs e; rwa [Nat.zero_add] at this)
  exact h E N a w ⟨G, L', hr'⟩

/-! ### An object is closed -/
def hcOf (s : St) : Sv → Option Hc
  | .v a => some (.v a)
  | .ow _ xs => some (.v (.sl xs))
  | .om j _ => match get s (.t j) with
    | some (.tk true el esz xs) => some (.row el esz xs)
    | _ => none
  | _ => none
def hcsOf (s : St) : List Sv → Option (List Hc)
  | [] => some []
  | x :: l => match hcOf s x, hcsOf s l with
    | some y, some r => some (y :: r)
    | _, _ => none
def rowsOf : List Sv → List Nat
  | [] => []
  | .om j _ :: l => j :: rowsOf l
  | _ :: l => rowsOf l
theorem rowsOf_mem {j n : Nat} : ∀ {cs : List Sv} {i : Nat}, cs[i]? = some (.om j n) → j ∈ rowsOf cs
  | x :: l, 0, e => by simp at e; subst e; simp [rowsOf]
  | x :: l, i + 1, e => by
    have := rowsOf_mem (cs := l) (i := i) (by simpa using e)
    cases x <;> simp only [rowsOf] <;> first | exact this | exact List.mem_cons_of_mem _ this
theorem rowsOf_inj : ∀ {cs : List Sv} (_ : (rowsOf cs).Nodup) {i i' j n n' : Nat}, cs[i]? = some (.om j n) → cs[i']? = some (.om j n') → i = i'
  | x :: l, hnd, 0, 0, j, n, n', e, e' => rfl
  | x :: l, hnd, 0, i' + 1, j, n, n', e, e' => by
    simp at e; subst e
    simp only [rowsOf, List.nodup_cons] at hnd
    exact absurd (rowsOf_mem (by simpa using e')) hnd.1
  | x :: l, hnd, i + 1, 0, j, n, n', e, e' => by
    simp at e'; subst e'
    simp only [rowsOf, List.nodup_cons] at hnd
    exact absurd (rowsOf_mem (by simpa using e)) hnd.1
  | x :: l, hnd, i + 1, i' + 1, j, n, n', e, e' => by
    have hnd' : (rowsOf l).Nodup := by cases x <;> simp only [rowsOf] at hnd <;> first | exact hnd | exact (List.nodup_cons.1 hnd).2
    rw [rowsOf_inj hnd' (i := i) (i' := i') (by simpa using e) (by simpa using e')]
theorem hcsOf_get {s : St} : ∀ {cs : List Sv} {hs : List Hc}, hcsOf s cs = some hs → cs.length = hs.length ∧ ∀ (j : Nat) y, hs[j]? = some y → ∃ x, cs[j]? = some x ∧ hcOf s x = some y
  | [], hs, h => by simp [hcsOf] at h; subst h; exact ⟨rfl, fun j y e => by simp at e⟩
  | x :: l, hs, h => by
    simp only [hcsOf] at h
    split at h
    · rename_i y r hy hr
      cases h
      obtain ⟨h1, h2⟩ := hcsOf_get hr
      refine ⟨by simp [h1], fun j z e => ?_⟩
      cases j with
      | zero => simp at e; subst e; exact ⟨x, rfl, hy⟩
      | succ j => simpa using h2 j z (by simpa using e)
    · cases h
def goneToks : List Nat → St
  | [] => []
  | j :: l => (.t j, .gone) :: goneToks l
theorem goneToks_get (s : St) (c : Comp) : ∀ l : List Nat, ((∃ j ∈ l, c = .t j) ∧ get (goneToks l ++ s) c = some .gone) ∨ ((∀ j ∈ l, c ≠ .t j) ∧ get (goneToks l ++ s) c = get s c)
  | [] => .inr ⟨fun j h => by simp at h, rfl⟩
  | j :: l => by
    by_cases e : c = .t j
    · exact .inl ⟨⟨j, by simp, e⟩, by simp [goneToks, get, e]⟩
    · have hg : get (goneToks (j :: l) ++ s) c = get (goneToks l ++ s) c := by simp [goneToks, get, Ne.symm e]
      rw [hg]
      rcases goneToks_get s c l with ⟨⟨i, h1, h2⟩, h3⟩ | ⟨h1, h2⟩
      · exact .inl ⟨⟨i, List.mem_cons_of_mem _ h1, h2⟩, h3⟩
      · refine .inr ⟨fun i hi => ?_, h2⟩
        rcases List.mem_cons.1 hi with rfl | hi
        · exact e
        · exact h1 i hi
def Hp.set (H : Hp) (id : Nat) (hs : List Hc) : Hp := ⟨H.next, fun i => if i = id then some hs else H.obj i⟩
theorem Rel.cls {E : Ent} {N : Nat} {G : Gh} {L : Loc} {a : Act} {w : World} {s : St} (h : Rel E N G L a w s) {k id : Nat} {cs : List Sv} {hs : List Hc} {H : Hp} (hk : get s (.b k) = some (.ob id cs)) (hH : get s .h = some (.hp H)) (hcs : hcsOf s cs = some hs) (hnd : (rowsOf cs).Nodup) :
    Rel E N G L a w ((.b k, .gone) :: (goneToks (rowsOf cs) ++ ((.h, .hp (H.set id hs)) :: s))) := by
  obtain ⟨blk, o, hb, hbase, hh, ⟨arr, el0, rfl, hsz, hc⟩, hno, hlk⟩ := h.box k _ hk rfl
  have hlk : G.ob id = some blk := hlk
  obtain ⟨H0, gH, hok, hmay⟩ := h.heap
  rw [hH] at gH; cases gH
  have hmine : owns s L (.b k) blk := ⟨⟨_, hk, rfl⟩, hb⟩
  obtain ⟨hl, hcg⟩ := hcsOf_get hcs
  -- a row's cell
  have hrow1 : ∀ j el esz xs, hs[j]? = some (.row el esz xs) → ∃ t n, cs[j]? = some (.om t n) ∧ get s (.t t) = some (.tk true el esz xs) ∧ L.tok t = some (arr.getD j undef) ∧ RowOK G w true el esz (arr.getD j undef) xs ∧ ∀ b, (arr.getD j undef).ownBlock = some b → owns s L (.t t) b ∧ E.may b ∧ ∀ i, G.ob i ≠ some b := by
    intro j el esz xs e
    obtain ⟨x, hx, hy⟩ := hcg j _ e
    cases x <;> simp only [hcOf, Option.some.injEq, reduceCtorEq] at hy
    rename_i t n
    split at hy
    · rename_i el2 esz2 xs2 gt
      cases hy
      obtain ⟨_, hsv⟩ := hc j _ hx
      obtain ⟨htk, _⟩ := hsv
      obtain ⟨v, hv, hr, hm⟩ := h.tok t _ _ _ _ gt
      rw [htk] at hv; cases hv
      exact ⟨t, n, hx, gt, htk, hr, fun b e2 => ⟨⟨⟨_, _, _, _, gt⟩, _, htk, e2⟩, hm b e2⟩⟩
    · cases hy
  have hobj : ∀ i hs2, (H.set id hs).obj i = some hs2 → (i = id ∧ hs2 = hs) ∨ (i ≠ id ∧ H.obj i = some hs2) := by
    intro i hs2 e
    by_cases e2 : i = id
    · have e3 : (if i = id then some hs else H.obj i) = some hs2 := e
      rw [if_pos e2] at e3; cases e3; exact .inl ⟨e2, rfl⟩
    · have e3 : (if i = id then some hs else H.obj i) = some hs2 := e
      rw [if_neg e2] at e3; exact .inr ⟨e2, e3⟩
  have hhr : ∀ i j b, hrow G (H.set id hs) w i j b → (i = id ∧ ∃ el esz xs, hs[j]? = some (.row el esz xs) ∧ (arr.getD j undef).ownBlock = some b) ∨ (i ≠ id ∧ hrow G H w i j b) := by
    rintro i j b ⟨cs2, el, esz, xs, b0, arr2, t2, fr, h1, h2, h3, h4, h5⟩
    rcases hobj _ _ h1 with ⟨rfl, rfl⟩ | ⟨e1, e2⟩
    · rw [hlk] at h3; cases h3
      rw [hh] at h4; cases h4
      exact .inl ⟨rfl, el, esz, xs, h2, h5⟩
    · exact .inr ⟨e1, cs2, el, esz, xs, b0, arr2, t2, fr, e2, h2, h3, h4, h5⟩
  have hft : ∀ b, foot G (H.set id hs) w b → foot G H w b ∨ b = blk ∨ ∃ t ∈ rowsOf cs, owns s L (.t t) b := by
    rintro b (⟨i, ⟨hs2, h1⟩, h2⟩ | ⟨i, j, h1⟩)
    · rcases hobj _ _ h1 with ⟨rfl, rfl⟩ | ⟨e1, e2⟩
      · rw [hlk] at h2; cases h2; exact .inr (.inl rfl)
      · exact .inl (.inl ⟨i, ⟨hs2, e2⟩, h2⟩)
    · rcases hhr _ _ _ h1 with ⟨rfl, el, esz, xs, e1, e2⟩ | ⟨e1, e2⟩
      · obtain ⟨t, n, q1, q2, q3, q4, q5⟩ := hrow1 j _ _ _ e1
        exact .inr (.inr ⟨t, rowsOf_mem q1, (q5 b e2).1⟩)
      · exact .inl (.inr ⟨i, j, e2⟩)
  have hg : ∀ c, get ((.b k, .gone) :: (goneToks (rowsOf cs) ++ ((.h, .hp (H.set id hs)) :: s))) c = some .gone ∨ (c ≠ .b k ∧ (∀ j ∈ rowsOf cs, c ≠ .t j) ∧ get ((.b k, .gone) :: (goneToks (rowsOf cs) ++ ((.h, .hp (H.set id hs)) :: s))) c = get ((.h, .hp (H.set id hs)) :: s) c) := by
    intro c
    by_cases e : c = .b k
    · exact .inl (by simp [get, e])
    · have e2 : get ((.b k, .gone) :: (goneToks (rowsOf cs) ++ ((.h, .hp (H.set id hs)) :: s))) c = get (goneToks (rowsOf cs) ++ ((.h, .hp (H.set id hs)) :: s)) c := by simp [get, Ne.symm e]
      rw [e2]
      rcases goneToks_get ((.h, .hp (H.set id hs)) :: s) c (rowsOf cs) with ⟨_, h3⟩ | ⟨h1, h2⟩
      · exact .inl h3
      · exact .inr ⟨e, h1, h2⟩
  have hown : ∀ c b, owns ((.b k, .gone) :: (goneToks (rowsOf cs) ++ ((.h, .hp (H.set id hs)) :: s))) L c b → c ≠ .b k ∧ (∀ j ∈ rowsOf cs, c ≠ .t j) ∧ owns s L c b := by
    intro c b hc2
    rcases hg c with e | ⟨e1, e2, e3⟩
    · cases c with
      | b j => obtain ⟨⟨cv, g, hl2⟩, _⟩ := hc2; rw [e] at g; cases g; cases hl2
      | t j => obtain ⟨⟨m, el, esz, xs, g⟩, _⟩ := hc2; rw [e] at g; cases g
      | s n => exact hc2.elim
      | h => exact hc2.elim
    · refine ⟨e1, e2, ?_⟩
      cases c with
      | b j => obtain ⟨⟨cv, g, hl2⟩, hb2⟩ := hc2; rw [e3] at g; exact ⟨⟨cv, by simpa [get] using g, hl2⟩, hb2⟩
      | t j => obtain ⟨⟨m, el, esz, xs, g⟩, hb2⟩ := hc2; rw [e3] at g; exact ⟨⟨m, el, esz, xs, by simpa [get] using g⟩, hb2⟩
      | s n => exact hc2.elim
      | h => exact hc2.elim
  have hgh : get ((.b k, .gone) :: (goneToks (rowsOf cs) ++ ((.h, .hp (H.set id hs)) :: s))) .h = some (.hp (H.set id hs)) := by
    have e2 : get ((.b k, .gone) :: (goneToks (rowsOf cs) ++ ((.h, .hp (H.set id hs)) :: s))) .h = get (goneToks (rowsOf cs) ++ ((.h, .hp (H.set id hs)) :: s)) .h := by simp [get]
    rw [e2]
    rcases goneToks_get ((.h, .hp (H.set id hs)) :: s) .h (rowsOf cs) with ⟨⟨j, _, h3⟩, _⟩ | ⟨h1, h2⟩
    · cases h3
    · rw [h2]; simp [get]
  refine ⟨h.size, h.defs, h.ge, h.kn, h.old, h.obs, h.obn, h.fr, ?_, ?_, ?_, fun c d b hc hd => h.disj c d b (hown _ _ hc).2.2 (hown _ _ hd).2.2, ⟨H.set id hs, hgh, ⟨hok.lt, hok.inj, ?_, ?_⟩, ?_⟩, ?_, ?_, ?_⟩
  · intro n x g
    rcases hg (.s n) with e | ⟨_, _, e3⟩
    · rw [e] at g; cases g
    · rw [e3] at g; exact h.slot n x (by simpa [get] using g)
  · intro j cv g hl2
    rcases hg (.b j) with e | ⟨_, _, e3⟩
    · rw [e] at g; cases g; cases hl2
    · rw [e3] at g; exact h.box j cv (by simpa [get] using g) hl2
  · intro j m el esz xs g
    rcases hg (.t j) with e | ⟨_, _, e3⟩
    · rw [e] at g; cases g
    · rw [e3] at g; exact h.tok j m el esz xs (by simpa [get] using g)
  · intro i hs2 e
    rcases hobj _ _ e with ⟨rfl, rfl⟩ | ⟨e1, e2⟩
    · refine ⟨blk, arr, el0, hlk, hh, by rw [hsz, hl], fun j y ey => ?_, hno⟩
      cases y with
      | row el esz xs =>
        obtain ⟨t, n, q1, q2, q3, q4, q5⟩ := hrow1 j _ _ _ ey
        exact q4
      | v b =>
        obtain ⟨x, hx, hy⟩ := hcg j _ ey
        obtain ⟨q1, q2⟩ := hc j x hx
        cases x <;> simp only [hcOf, Option.some.injEq, reduceCtorEq, Hc.v.injEq] at hy
        · subst hy; exact ⟨q1, q2⟩
        · subst hy; exact ⟨rfl, q2.1⟩
        · split at hy <;> cases hy
    · exact hok.obj i hs2 e2
  · intro i j b hr
    rcases hhr _ _ _ hr with ⟨rfl, el, esz, xs, e1, e2⟩ | ⟨e1, e2⟩
    · obtain ⟨t, n, q1, q2, q3, q4, q5⟩ := hrow1 j _ _ _ e1
      obtain ⟨p1, p2, p3⟩ := q5 b e2
      refine ⟨p3, fun i' j' hr' => ?_⟩
      rcases hhr _ _ _ hr' with ⟨rfl, el', esz', xs', e1', e2'⟩ | ⟨e1', e2'⟩
      · obtain ⟨t', n', q1', q2', q3', q4', q5'⟩ := hrow1 j' _ _ _ e1'
        have := h.disj _ _ b p1 (q5' b e2').1
        have ht : t = t' := by injection this
        subst ht
        exact ⟨rfl, (rowsOf_inj hnd q1 q1').symm⟩
      · exact absurd (.inr ⟨i', j', e2'⟩) (h.hdisj _ _ p1 H hH)
    · refine ⟨(hok.apart i j b e2).1, fun i' j' hr' => ?_⟩
      rcases hhr _ _ _ hr' with ⟨rfl, el', esz', xs', e1', e2'⟩ | ⟨e1', e2'⟩
      · obtain ⟨t', n', q1', q2', q3', q4', q5'⟩ := hrow1 j' _ _ _ e1'
        exact absurd (.inr ⟨i, j, e2⟩) (h.hdisj _ _ (q5' b e2').1 H hH)
      · exact (hok.apart i j b e2).2 i' j' e2'
  · intro b hb2
    rcases hft b hb2 with e | rfl | ⟨t, _, e⟩
    · exact hmay b e
    · exact hbase
    · exact (owns_lt h e).2
  · intro c b hc2 H2 g2 hf2
    rw [hgh] at g2; cases g2
    obtain ⟨e1, e2, e3⟩ := hown c b hc2
    rcases hft b hf2 with e | rfl | ⟨t, ht, e⟩
    · exact h.hdisj c b e3 H hH e
    · exact e1 (h.disj c (.b k) _ e3 hmine)
    · exact e2 t ht (h.disj c (.t t) _ e3 e)
  · intro j g
    rcases hg (.b j) with e | ⟨_, _, e3⟩
    · rw [e] at g; cases g
    · rw [e3] at g; exact h.nobox j (by simpa [get] using g)
  · intro j g
    rcases hg (.t j) with e | ⟨_, _, e3⟩
    · rw [e] at g; cases g
    · rw [e3] at g; exact h.notok j (by simpa [get] using g)
def ndB : List Nat → Bool
  | [] => true
  | x :: l => !l.contains x && ndB l
theorem ndB_spec : ∀ {l : List Nat}, ndB l = true → l.Nodup
  | [], _ => List.nodup_nil
  | x :: l, h => by
    simp only [ndB, Bool.and_eq_true, Bool.not_eq_true', List.contains_eq_mem, decide_eq_false_iff_not] at h
    exact List.nodup_cons.2 ⟨h.1, ndB_spec h.2⟩
theorem Kept.cls {s : St} {Q : St → Prop} (k : Nat) {id : Nat} {cs : List Sv} {hs : List Hc} {H : Hp} (hk : get s (.b k) = some (.ob id cs)) (hH : get s .h = some (.hp H)) (hcs : hcsOf s cs = some hs) (hnd : ndB (rowsOf cs) = true)
    (h : Kept ((.b k, .gone) :: (goneToks (rowsOf cs) ++ ((.h, .hp (H.set id hs)) :: s))) Q) : Kept s Q := fun E N a w ⟨G, L, hr⟩ => h E N a w ⟨G, L, hr.cls hk hH hcs (ndB_spec hnd)⟩
end Go.Proofs.YthoncmadikifnaaDoor.X
