/- The program logic's rules: slices that grow. No condition. -/
import Derived.Test.YthoncmadikifnaaDoorX6
set_option linter.unusedVariables false
namespace Go.Proofs.YthoncmadikifnaaDoor.X
open Go Go.RowKit

/-! ### More is known -/
def Gh.add (G : Gh) (b : Nat) (cells : List Value) : Gh := ⟨fun c o => if c = b then cells[o]? else G.kn c o, G.ob⟩
theorem Gh.add_le {G : Gh} {b : Nat} {cells : List Value} (h : ∀ o v, G.kn b o = some v → cells[o]? = some v) : G.le (G.add b cells) := by
  refine ⟨fun c o v e => ?_, fun _ _ e => e⟩
  simp only [Gh.add]
  split
  · rename_i hc; subst hc; exact h o v e
  · exact e
def Loc.setTok (L : Loc) (k : Nat) (v : Value) : Loc := ⟨L.box, fun j => if j = k then some v else L.tok j⟩
theorem Loc.setTok_le {L : Loc} {k : Nat} {v : Value} (h : L.tok k = none) : ∀ j u, L.tok j = some u → (L.setTok k v).tok j = some u := by
  intro j u e
  simp only [Loc.setTok]
  split
  · rename_i hj; subst hj; rw [h] at e; cases e
  · exact e

theorem lay_bound {esz i j n : Nat} (hi : i < n) (hj : j < esz) : i * esz + j < n * esz := by
  have : (i + 1) * esz ≤ n * esz := Nat.mul_le_mul_right _ hi
  rw [Nat.add_mul] at this
  omega
theorem Lay.append {G : Gh} {esz : Nat} {xs ys : List AV} {cs ds : List Value} (h : Lay G esz xs cs) (k : Lay G esz ys ds) (hc : cs.length = xs.length * esz) : Lay G esz (xs ++ ys) (cs ++ ds) := by
  refine ⟨fun i e he => ?_, fun i e j c he hj => ?_⟩
  · rw [List.getElem?_append] at he
    split at he
    · exact h.1 i e he
    · exact k.1 _ e he
  · have hjl := (List.getElem?_eq_some_iff.1 hj).1
    rw [List.getElem?_append] at he
    split at he
    · rename_i hi
      have hlen := h.1 i e he
      obtain ⟨h1, h2⟩ := h.2 i e j c he hj
      refine ⟨h1, ?_⟩
      have hb := lay_bound (esz := esz) (j := j) hi (by omega)
      rw [List.getD_eq_getElem?_getD, List.getElem?_append_left (by omega), ← List.getD_eq_getElem?_getD]
      exact h2
    · rename_i hi
      obtain ⟨h1, h2⟩ := k.2 _ e j c he hj
      refine ⟨h1, ?_⟩
      have e2 : i * esz + j = cs.length + ((i - xs.length) * esz + j) := by
        rw [hc]
        have : i = xs.length + (i - xs.length) := by omega
        conv => lhs; rw [this]
        rw [Nat.add_mul]; omega
      rw [e2, List.getD_eq_getElem?_getD, List.getElem?_append_right (by omega), Nat.add_sub_cancel_left, ← List.getD_eq_getElem?_getD]
      exact h2

/-- What owns a row, and knows it, is a list. -/
theorem V_of_row {G : Gh} {w : World} {base el esz : Nat} {v : Value} {xs : List AV} {cells : List Value} (ho : w.ownsRow base el esz v xs.length cells) (hL : Lay G esz xs cells)
    (hk : ∀ b, v.ownBlock = some b → ∀ o, o < xs.length * esz → G.kn b o = cells[o]?) : V G v (.sl xs) := by
  rcases ho.2 with ⟨rfl, hn⟩ | ⟨q, cap, cur, rfl, hq, hh, hcap, hm, _⟩
  · have : xs = [] := List.eq_nil_of_length_eq_zero hn
    subst this
    exact V.slE none 0
  · refine V.slN q 0 cap esz xs (fun i j => cells.getD (i * esz + j) undef) hcap hL.1 ?_ (fun i e j c a b => (hL.2 i e j c a b).1) (fun i e j c a b => (hL.2 i e j c a b).2)
    intro i e j c he hj
    have hi := (List.getElem?_eq_some_iff.1 he).1
    have hj' := (List.getElem?_eq_some_iff.1 hj).1
    rw [hL.1 i e he] at hj'
    have hb := lay_bound (j := j) hi hj'
    rw [Nat.zero_add, hk q rfl _ hb]
    have hl : i * esz + j < cells.length := by rw [ho.1]; exact hb
    simp [List.getD_eq_getElem?_getD, List.getElem?_eq_getElem hl]

theorem KnOK.of_blocks {G : Gh} {w w' : World} (h : KnOK G w) (hb : ∀ b o v, G.kn b o = some v → w'.heap[b]? = w.heap[b]?) : KnOK G w' := fun b o v e => by
  rw [World.cell?_of_block (w := w) (hb b o v e)]; exact h b o v e

/-- A slice that grows is made, or has grown: 'row' is the block that it lay in (none: it is new). m: it may be written. -/
theorem Rel.newtok {E : Ent} {N : Nat} {G : Gh} {L : Loc} {a : Act} {w w1 : World} {s : St} (h : Rel E N G L a w s) {d el esz : Nat} {xs : List AV} {v1 : Value} {cells : List Value} {row : Option Nat} (m : Bool) (hd : get s (.t d) = none) (hz : 0 < esz)
    (hg : w.grownBy w1 row) (hrow : ∀ b, row = some b → E.may b ∧ (∀ c, ¬ owns s L c b) ∧ (∀ H, get s .h = some (.hp H) → ¬ foot G H w b) ∧ (∀ id, G.ob id ≠ some b) ∧ ∀ o v, G.kn b o = some v → w1.cell? ⟨b, o, none⟩ = some v)
    (hv1 : ∀ b, v1.ownBlock = some b → row = some b ∨ w.heap.size ≤ b) (ho : w1.ownsRow 0 el esz v1 xs.length cells) (hL : Lay G esz xs cells)
    (hcons : ∀ b, v1.ownBlock = some b → ∀ o v, G.kn b o = some v → m = false ∧ cells[o]? = some v) :
    ∃ G', (m = false → V G' v1 (.sl xs)) ∧ G.le G' ∧ Rel E N G' (L.setTok d v1) a w1 ((.t d, .tk m el esz xs) :: s) := by
  let G' : Gh := match m with | true => G | false => match v1.ownBlock with | some b => G.add b cells | none => G
  have hlen : cells.length = xs.length * esz := ho.1
  have hle : G.le G' := by
    cases m with
    | true => exact Gh.le.refl G
    | false =>
      simp only [G']
      split
      · rename_i b hb; exact Gh.add_le (fun o v e => (hcons b hb o v e).2)
      · exact Gh.le.refl G
  have hkn' : m = false → ∀ b, v1.ownBlock = some b → ∀ o, G'.kn b o = cells[o]? := by
    intro hm b hb o
    subst hm
    simp only [G', hb, Gh.add, if_pos]
  have hkn2 : ∀ b o, (v1.ownBlock ≠ some b ∨ m = true) → G'.kn b o = G.kn b o := by
    intro b o hb
    cases m with
    | true => rfl
    | false =>
      have hb : v1.ownBlock ≠ some b := by rcases hb with hb | hb; exact hb; cases hb
      simp only [G']
      split
      · rename_i c hc
        simp only [Gh.add]
        rw [if_neg (fun e => hb (by rw [hc, e]))]
      · rfl
  have hkn3 : m = true → ∀ b, v1.ownBlock = some b → ∀ o, G'.kn b o = none := by
    intro hm b hb o
    rw [hkn2 b o (.inr hm)]
    cases e : G.kn b o with
    | none => rfl
    | some v => have := (hcons b hb o v e).1; rw [hm] at this; cases this
  have hob : G'.ob = G.ob := by
    cases m with
    | true => rfl
    | false => simp only [G']; split <;> rfl
  have hV : m = false → V G' v1 (.sl xs) := fun hm => V_of_row ho (hL.mono hle) fun b hb o _ => hkn' hm b hb o
  have htok0 := h.notok d hd
  have hbl : ∀ j c, L.box j = some c → (L.setTok d v1).box j = some c := fun _ _ e => e
  have htl := Loc.setTok_le (v := v1) htok0
  have hv1may : ∀ b, v1.ownBlock = some b → E.may b := by
    intro b hb
    rcases hv1 b hb with e | e
    · exact (hrow b e).1
    · exact .inl (Nat.le_trans h.base_le e)
  -- the blocks of others stay
  have hother : ∀ c b, owns s L c b → w1.heap[b]? = w.heap[b]? ∧ v1.ownBlock ≠ some b := by
    intro c b hc
    obtain ⟨hlt, hbase⟩ := owns_lt h hc
    have hne : some b ≠ row := fun e => (hrow b e.symm).2.1 c hc
    refine ⟨hg.block b hlt hne, fun e => ?_⟩
    rcases hv1 b e with e2 | e2
    · exact hne e2.symm
    · omega
  obtain ⟨H0, gH, hokH, hmayH⟩ := h.heap
  have hfoot : ∀ b, foot G H0 w b → some b ≠ row ∧ v1.ownBlock ≠ some b := by
    intro b hb
    have hne : some b ≠ row := fun e => (hrow b e.symm).2.2.1 H0 gH hb
    refine ⟨hne, fun e => ?_⟩
    rcases hv1 b e with e2 | e2
    · exact hne e2.symm
    · have := (hokH.foot hb).1; omega
  have hst := hokH.stay (w' := w1) hle hob (fun b hb o => (hkn2 b o (.inl (hfoot b hb).2)).trans ((hokH.foot hb).2 o)) (fun b hb => hg.block b (hokH.foot hb).1 (hfoot b hb).1) hg.size
  have hown : ∀ c b, owns ((.t d, .tk m el esz xs) :: s) (L.setTok d v1) c b → (c = .t d ∧ v1.ownBlock = some b) ∨ owns s L c b := by
    intro c b hc
    by_cases e : c = .t d
    · subst e
      obtain ⟨_, v, hv, hb⟩ := hc
      simp [Loc.setTok] at hv
      subst hv
      exact .inl ⟨rfl, hb⟩
    · have h2 := owns_cons e hc
      refine .inr ?_
      cases c with
      | b j => exact h2
      | t j =>
        obtain ⟨h3, v, hv, h4⟩ := h2
        have hj : j ≠ d := fun e' => e (by rw [e'])
        exact ⟨h3, v, by simpa [Loc.setTok, hj] using hv, h4⟩
      | s n => exact h2
      | h => exact h2
  refine ⟨G', hV, hle, h.size, h.defs, h.ge, ?_, ?_, ?_, ?_, ?_, ?_, ?_, ?_, ?_, ?_, ?_, ?_, ?_⟩
  · -- kn
    intro b o v e
    by_cases hb : v1.ownBlock = some b ∧ m = false
    · obtain ⟨hb, hm⟩ := hb
      rw [hkn' hm b hb] at e
      have ho' := ho
      rcases ho'.2 with ⟨rfl, _⟩ | ⟨q, cap, cur, rfl, hq, hh, hcap, hmm, hcs, htake⟩
      · simp [Value.ownBlock] at hb
      · simp [Value.ownBlock] at hb
        subst hb
        rw [cell_of_row w1 q o cur el (0, 0) hh]
        rw [← htake, List.getElem?_take] at e
        split at e
        · simpa using e
        · cases e
    · have hb2 : v1.ownBlock ≠ some b ∨ m = true := by
        by_cases h1 : v1.ownBlock = some b
        · refine .inr ?_
          cases hm : m with
          | true => rfl
          | false => exact absurd ⟨h1, hm⟩ hb
        · exact .inl h1
      rw [hkn2 b o hb2] at e
      by_cases hr : row = some b
      · exact (hrow b hr).2.2.2.2 o v e
      · rw [World.cell?_of_block (w := w) (hg.block b (h.knlt e) (fun e2 => hr e2.symm))]
        exact h.kn b o v e
  · intro b o hb hmb
    by_cases hb1 : v1.ownBlock = some b
    · rcases hv1may b hb1 with e | e
      · omega
      · exact absurd e hmb
    · rw [hkn2 b o (.inl hb1)]; exact h.old b o hb hmb
  · intro id b e; rw [hob]; exact h.obs id b e
  · intro id b e; rw [hob] at e; exact h.obn id b e
  · refine ⟨hg.os.trans h.fr.os, hg.tape.trans h.fr.tape, hg.output.trans h.fr.output, Nat.le_trans h.fr.size hg.size, fun k hk hno => ?_⟩
    rw [hg.block k (Nat.lt_of_lt_of_le hk h.base_le) (fun e => by
      rcases (hrow k e.symm).1 with e2 | e2
      · omega
      · exact hno e2)]
    exact h.fr.block k hk hno
  · intro n x g
    exact ((h.slot n x (by simpa [get] using g)).mono hle).loc hbl htl
  · intro k cv g hl
    have g' : get s (.b k) = some cv := by simpa [get] using g
    obtain ⟨blk, o, hb, hbase, hh, hok, hn, hlk⟩ := h.box k cv g' hl
    obtain ⟨q1, q2⟩ := hother (.b k) blk ⟨⟨cv, g', hl⟩, hb⟩
    refine ⟨blk, o, hb, hbase, q1.trans hh, (hok.mono hle).loc hbl htl, fun j => (hkn2 blk j (.inl q2)).trans (hn j), ?_⟩
    cases hl2 : cv.link with
    | some id => rw [hl2] at hlk; exact (congrFun hob id).trans hlk
    | none => rw [hl2] at hlk; exact ⟨hlk.1, fun id e => hlk.2 id ((congrFun hob id).symm.trans e)⟩
  · intro k m' el' esz' xs' g
    by_cases e : k = d
    · subst e
      simp [get] at g
      obtain ⟨rfl, rfl, rfl, rfl⟩ := g
      refine ⟨v1, by simp [Loc.setTok], ⟨cells, hV, ho, hz, hL.mono hle, fun blk hb => ?_⟩, fun b hb => ⟨hv1may b hb, fun id e => ?_⟩⟩
      · cases m with
        | true => exact hkn3 rfl blk hb
        | false =>
        refine ⟨fun o _ => hkn' rfl blk hb o, fun o hoo => ?_⟩
        rw [hkn' rfl blk hb, List.getElem?_eq_none (by omega)]
      · rw [hob] at e
        rcases hv1 b hb with e2 | e2
        · exact (hrow b e2).2.2.2.1 id e
        · have := (hokH.lt id b e).2; omega
    · have g' : get s (.t k) = some (.tk m' el' esz' xs') := by simpa [get, Ne.symm e] using g
      obtain ⟨v, hv, hr, hm⟩ := h.tok k m' el' esz' xs' g'
      have how : ∀ b, v.ownBlock = some b → owns s L (.t k) b := fun b hb => ⟨⟨_, _, _, _, g'⟩, v, hv, hb⟩
      exact ⟨v, htl k v hv, hr.stay hle (fun b hb => (hother _ b (how b hb)).1) (fun b hb o => hkn2 b o (.inl (hother _ b (how b hb)).2)), fun b hb => ⟨(hm b hb).1, fun id e => (hm b hb).2 id ((congrFun hob id).symm.trans e)⟩⟩
  · intro c e b hc he
    rcases hown c b hc with ⟨rfl, h1⟩ | h1 <;> rcases hown e b he with ⟨rfl, h2⟩ | h2
    · rfl
    · exact absurd h1 (hother e b h2).2
    · exact absurd h2 (hother c b h1).2
    · exact h.disj c e b h1 h2
  · exact ⟨H0, by simpa [get] using gH, hst.1, fun b hb => hmayH b ((hst.2 b).1 hb)⟩
  · intro c b hc H2 g2 e
    have g3 : get s .h = some (.hp H2) := by simpa [get] using g2
    rw [gH] at g3; cases g3
    have e2 := (hst.2 b).1 e
    rcases hown c b hc with ⟨rfl, h1⟩ | h1
    · exact (hfoot b e2).2 h1
    · exact h.hdisj c b h1 _ gH e2
  · intro k g; exact h.nobox k (by simpa [get] using g)
  · intro k g
    by_cases e : k = d
    · subst e; simp [get] at g
    · have := h.notok k (by simpa [get, Ne.symm e] using g)
      simpa [Loc.setTok, e] using this

/-- A slice that grows is given up. -/
theorem Rel.gonetok {E : Ent} {N : Nat} {G : Gh} {L : Loc} {a : Act} {w : World} {s : St} (h : Rel E N G L a w s) {k : Nat} {m : Bool} {el esz : Nat} {xs : List AV} (hk : get s (.t k) = some (.tk m el esz xs)) : Rel E N G L a w ((.t k, .gone) :: s) := by
  have hown : ∀ c b, owns ((.t k, .gone) :: s) L c b → owns s L c b := by
    intro c b hc
    by_cases e : c = .t k
    · subst e; obtain ⟨⟨m, el, esz, xs, g⟩, _⟩ := hc; simp [get] at g
    · exact owns_cons e hc
  refine ⟨h.size, h.defs, h.ge, h.kn, h.old, h.obs, h.obn, h.fr, fun n x g => h.slot n x (by simpa [get] using g), fun j cv g => h.box j cv (by simpa [get] using g), fun j m el esz xs g => ?_,
    fun c d b hc hd => h.disj c d b (hown _ _ hc) (hown _ _ hd), (by simpa [get] using h.heap), fun c b hc H g => h.hdisj c b (hown _ _ hc) H (by simpa [get] using g), fun j g => h.nobox j (by simpa [get] using g), fun j g => ?_⟩
  · by_cases e : j = k
    · subst e; simp [get] at g
    · exact h.tok j m el esz xs (by simpa [get, Ne.symm e] using g)
  · by_cases e : j = k
    · subst e; simp [get] at g
    · exact h.notok j (by simpa [get, Ne.symm e] using g)
end Go.Proofs.YthoncmadikifnaaDoor.X
