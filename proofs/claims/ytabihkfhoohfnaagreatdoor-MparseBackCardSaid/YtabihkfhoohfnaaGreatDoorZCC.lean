/- The program logic's rules: rows of one's own that may be written. No condition. -/
import Derived.Test.YtabihkfhoohfnaaGreatDoorZCB
import Derived.Laws.CopyRow
import Derived.Laws.IdiomCopy
import Derived.Laws.Cover3
import Derived.Scope
import Derived.Lib.AppendStr
import Derived.Test.YtabihkfhoohfnaaGreatDoorRows
import Derived.WalkKit
import Derived.ProofKit
import Derived.OpenShut
import Derived.Carry
import Derived.JoinedCond
import Derived.Deep.Strs
import Derived.Deep.Slices
import Derived.Lib.SmallJoins
import Derived.SizedLaws
import Derived.Maps.Own
import Derived.Maps.OwnSet
import Derived.Maps.Views
import Derived.Defers
import Derived.Recover
set_option linter.unusedVariables false
set_option linter.unusedSimpArgs false
namespace Go.Proofs.YtabihkfhoohfnaaGreatDoor.X
open Go Go.RowKit

/-! ### A nil slice becomes a row of one's own -/
theorem Rel.niltok {E : Ent} {N : Nat} {G : Gh} {L : Loc} {a : Act} {w : World} {s : St} (h : Rel E N G L a w s) {t el esz : Nat} (ht : get s (.t t) = none) (hz : 0 < esz) : Rel E N G (L.setTok t (.slice none 0 0)) a w ((.t t, .tk true el esz []) :: s) := by
 obtain ⟨G', _, hle, hr⟩ := h.newtok true (xs := []) (v1 := .slice none 0 0) (row := none) (el := el) (esz := esz) (cells := []) ht hz (w1 := w) ⟨rfl, rfl, rfl, Nat.le_refl _, fun _ _ _ => rfl⟩ (by simp) (fun b hb => by simp [Value.ownBlock] at hb) (World.ownsRow_nil w 0 el esz) ⟨fun i e h => by simp at h, fun i e j c h => by simp at h⟩ (fun b hb => by simp [Value.ownBlock] at hb)
 have htok0 := h.notok t ht
 have htl := Loc.setTok_le (v := Value.slice none 0 0) htok0
 have hown : ∀ c b, owns ((.t t, .tk true el esz []) :: s) (L.setTok t (.slice none 0 0)) c b → owns s L c b := by
  intro c b hc
  by_cases e : c = .t t
  ·subst e
   obtain ⟨_, v, hv, hb⟩ := hc
   simp [Loc.setTok] at hv
   subst hv; cases hb
  ·have h2 := owns_cons e hc
   cases c with
   | b j => exact h2
   | t j =>
    obtain ⟨h3, v, hv, h4⟩ := h2
    have hj : j ≠ t := fun e' => e (by rw [e'])
    exact ⟨h3, v, by simpa [Loc.setTok, hj] using hv, h4⟩
   | s n => exact h2
   | h => exact h2
 refine ⟨h.size, h.defs, h.ge, h.kn, h.old, h.obs, h.obn, h.fr, fun n x g => (h.slot n x (by simpa [get] using g)).loc (L := L) (L' := L.setTok t (.slice none 0 0)) (fun _ _ e => e) htl, fun k cv g hl => (h.box k cv (by simpa [get] using g) hl).loc (L := L) (L' := L.setTok t (.slice none 0 0)) (fun _ _ e => e) htl, ?_,
  fun c d b hc hd => h.disj c d b (hown _ _ hc) (hown _ _ hd), by simpa [get] using h.heap, fun c b hc H g => h.hdisj c b (hown _ _ hc) H (by simpa [get] using g), fun k g => h.nobox k (by simpa [get] using g), ?_⟩
 ·intro j m el2 esz2 xs2 g
  by_cases e : j = t
  ·subst e
   simp [get] at g
   obtain ⟨rfl, rfl, rfl, rfl⟩ := g
   exact ⟨.slice none 0 0, by simp [Loc.setTok], ⟨[], fun e => (by cases e), World.ownsRow_nil w 0 el esz, hz, ⟨fun i e h => by simp at h, fun i e j c h => by simp at h⟩, fun b e => (by cases e)⟩, fun b e => (by cases e)⟩
  ·obtain ⟨v, hv, rest⟩ := h.tok j m el2 esz2 xs2 (by simpa [get, Ne.symm e] using g)
   exact ⟨v, htl _ _ hv, rest⟩
 ·intro j g
  by_cases e : j = t
  ·subst e; simp [get] at g
  ·have := h.notok j (by simpa [get, Ne.symm e] using g)
   simpa [Loc.setTok, e] using this
/-- The cells of a box, seen otherwise. -/
theorem Rel.rebox {E : Ent} {N : Nat} {G : Gh} {L : Loc} {a : Act} {w : World} {s : St} (h : Rel E N G L a w s) {k : Nat} {cv : CV} {cs ds : List Sv} (hk : get s (.b k) = some cv) (hcv : cv.box? = some cs) (hl : cs.length = ds.length)
  (hc : ∀ (j : Nat) x y v, cs[j]? = some x → ds[j]? = some y → x.flat = true → SV G L v x → y.flat = true ∧ SV G L v y) : Rel E N G L a w ((.b k, cv.setBox ds) :: s) := by
 have hlive := box_live hcv
 have hlk : (cv.setBox ds).link = cv.link := by cases cv <;> first | rfl | cases hcv
 have hlv : (cv.setBox ds).live = true := by cases cv <;> rfl
 have hown : ∀ c b, owns ((.b k, cv.setBox ds) :: s) L c b → owns s L c b := by
  intro c b hc
  by_cases e : c = .b k
  ·subst e; exact ⟨⟨cv, hk, hlive⟩, hc.2⟩
  ·exact owns_cons e hc
 refine ⟨h.size, h.defs, h.ge, h.kn, h.old, h.obs, h.obn, h.fr, fun n x g => h.slot n x (by simpa [get] using g), ?_, fun j m el esz xs g => h.tok j m el esz xs (by simpa [get] using g),
  fun c d b hc hd => h.disj c d b (hown _ _ hc) (hown _ _ hd), by simpa [get] using h.heap, fun c b hc H g => h.hdisj c b (hown _ _ hc) H (by simpa [get] using g), ?_, fun j g => h.notok j (by simpa [get] using g)⟩
 ·intro j cv2 g hl2
  by_cases e : j = k
  ·subst e
   simp [get] at g
   subst g
   obtain ⟨blk, o, q1, q2, q3, q4, q5, q6⟩ := h.box j cv hk hlive
   obtain ⟨arr, el, rfl, e1, e2⟩ := box_obj hcv q4
   refine ⟨blk, _, q1, q2, q3, box_set hcv (by rw [e1, hl]) (fun i y ey => ?_), q5, by rw [hlk]; exact q6⟩
   have hi : i < cs.length := by rw [hl]; exact (List.getElem?_eq_some_iff.1 ey).1
   obtain ⟨p1, p2⟩ := e2 i _ (List.getElem?_eq_getElem hi)
   exact hc i _ y _ (List.getElem?_eq_getElem hi) ey p1 p2
  ·exact h.box j cv2 (by simpa [get, Ne.symm e] using g) hl2
 ·intro j g
  by_cases e : j = k
  ·subst e; simp [get] at g
  ·exact h.nobox j (by simpa [get, Ne.symm e] using g)
section
variable {P : Program} {N : Nat} {s : St} {d : Nat} {ty : TypeId} {pos : String} {af : Array Edge} {g : Option (Nat × Bool)}
/-- The cells that a row's elements have, one by one. -/
theorem Lay.flat {G : Gh} {esz : Nat} {xs : List AV} {cells : List Value} (h : Lay G esz xs cells) (hz : 0 < esz) (j : Nat) (c : AV) (e : (xs.flatMap AV.cells)[j]? = some c) : c.flat = true ∧ V G (cells.getD j undef) c := by
 have hes : ∀ e ∈ xs, e.cells.length = esz := fun e he => by obtain ⟨i, hi⟩ := List.mem_iff_getElem?.1 he; exact h.1 i e hi
 have hlt : j < xs.length * esz := by rw [← flat_len hes]; exact (List.getElem?_eq_some_iff.1 e).1
 have hi : j / esz < xs.length := Nat.div_lt_of_lt_mul (by rw [Nat.mul_comm]; exact hlt)
 have hm : j % esz < esz := Nat.mod_lt _ hz
 have hj : j / esz * esz + j % esz = j := Nat.div_add_mod' j esz
 have e2 := flat_get hes (j / esz) (j % esz) _ (List.getElem?_eq_getElem hi) hm
 rw [hj, e] at e2
 have := h.2 _ _ _ _ (List.getElem?_eq_getElem hi) e2.symm
 rwa [hj] at this
end
/- The program logic's rules: calls whose result owns its row. No condition. -/

/-- A CALL WHOSE RESULT OWNS ITS ROW: as 'Run'; the result is a slice whose row nobody else has. -/
def RunO (P : Program) (f : FuncId) (args : List AV) (H : Hp) (el esz : Nat) (xs : List AV) (H' : Hp) : Prop :=
 ∀ G w cargs, GE ⟨G, w, foot G H w, []⟩ → KnOK G w → HpOK G w H → VL G cargs args → Calls P f cargs w fun e w' =>
  ∃ v G', e = .returned v ∧ (RowOK G' w' false el esz v xs ∧ ∀ b, v.ownBlock = some b → (w.heap.size ≤ b ∨ foot G H w b) ∧ (∀ id, G'.ob id ≠ some b) ∧ ¬ foot G' H' w' b) ∧
   GExt (foot G H w) G G' w ∧ KnOK G' w' ∧ HpOK G' w' H' ∧ Fr (foot G H w) w w' ∧ ∀ b, foot G' H' w' b → w.heap.size ≤ b ∨ foot G H w b
def PureO (P : Program) (f : FuncId) (args : List AV) (el esz : Nat) (xs : List AV) : Prop := ∀ H, RunO P f args H el esz xs H
/-- It may be taken as any other call. -/
theorem RunO.run {P : Program} {f : FuncId} {args : List AV} {H H' : Hp} {el esz : Nat} {xs : List AV} (h : RunO P f args H el esz xs H') : Run P f args H (.sl xs) H' := fun G w cargs hg hk hH hV =>
 (h G w cargs hg hk hH hV).mono fun e w' ⟨v, G', he, ⟨⟨cells, hv, _⟩, _⟩, rest⟩ => ⟨v, G', he, hv rfl, rest⟩
theorem PureO.pure {P : Program} {f : FuncId} {args : List AV} {el esz : Nat} {xs : List AV} (h : PureO P f args el esz xs) : Pure P f args (.sl xs) := fun H => (h H).run
theorem RunO.of_tri {P : Program} {f : FuncId} {fn : Func} {c : Code} {N : Nat} {args : List AV} {H : Hp} {el esz : Nat} {xs : List AV} {H' : Hp} {tr : Nat} (hf : P.funcs[f]? = some fn) (hb : fn.body = some c) (hN : fn.ntmps = N) (hle : args.length ≤ N) (hres : fn.results = [ResultVar.tmp tr].toArray)
  (h : Tri P N c ((.h, .hp H) :: initS args 0) fun e s' => (e = .normal ∨ e = .ret) ∧ (∃ k, get s' (.s tr) = some (.sv (.ow k xs)) ∧ get s' (.t k) = some (.tk false el esz xs)) ∧ get s' .h = some (.hp H')) : RunO P f args H el esz xs H' := by
 intro G w cargs hg hk hH hV
 refine calls_of_wp hf hb ?_
 have h0 := fits0 hN hle hg hk hH hV
 refine wp_mono (h ⟨G, w, foot G H w, []⟩ _ w h0) ?_
 rintro e a' w' ⟨s', ⟨G', L', hr⟩, he, ⟨k, hs, ht⟩, hh⟩
 obtain ⟨v, hv, hV'⟩ := (ResOK.r1 (P := P) (fn := fn) (s := s') (x := .tmp tr) (a := .sl xs) hres (.tmp (by simp [opv, opd, hs, Sv.av]) .nil)) _ _ _ _ _ _ hr
 obtain ⟨H2, g, hok, hmay⟩ := hr.heap
 rw [hh] at g; cases g
 obtain ⟨u, hu, hrow, hm⟩ := hr.tok k _ _ _ _ ht
 obtain ⟨_, hu2⟩ := hr.slot tr _ hs
 rw [hu2] at hu; cases hu
 have hvu : v = a'.tmps.getD tr undef := by
  have : (results fn a'.tmps).run P w' = .ok (a'.tmps.getD tr undef) w' := by
   simp [results, hres]
  rw [this] at hv; cases hv; rfl
 subst hvu
 have hpost : ∃ v2 G', Ending.returned (a'.tmps.getD tr undef) = .returned v2 ∧ (RowOK G' w' false el esz v2 xs ∧ ∀ b, v2.ownBlock = some b → (w.heap.size ≤ b ∨ foot G H w b) ∧ (∀ id, G'.ob id ≠ some b) ∧ ¬ foot G' H' w' b) ∧
   GExt (foot G H w) G G' w ∧ KnOK G' w' ∧ HpOK G' w' H' ∧ Fr (foot G H w) w w' ∧ ∀ b, foot G' H' w' b → w.heap.size ≤ b ∨ foot G H w b :=
  ⟨_, G', rfl, ⟨hrow, fun b hb => ⟨(hm b hb).1, (hm b hb).2, hr.hdisj (.t k) b ⟨⟨_, _, _, _, ht⟩, _, hu2, hb⟩ H' hh⟩⟩, ⟨hr.old, hr.obs, hr.obn⟩, hr.kn, hok, hr.fr, hmay⟩
 rcases he with rfl | rfl
 ·exact ⟨hr.defs, _, hv, hpost⟩
 ·exact ⟨hr.defs, _, hv, hpost⟩
theorem PureO.of_tri {P : Program} {f : FuncId} {fn : Func} {c : Code} {N : Nat} {args : List AV} {el esz : Nat} {xs : List AV} {tr : Nat} (hf : P.funcs[f]? = some fn) (hb : fn.body = some c) (hN : fn.ntmps = N) (hle : args.length ≤ N) (hres : fn.results = [ResultVar.tmp tr].toArray)
  (h : ∀ H, Tri P N c ((.h, .hp H) :: initS args 0) fun e s' => (e = .normal ∨ e = .ret) ∧ (∃ k, get s' (.s tr) = some (.sv (.ow k xs)) ∧ get s' (.t k) = some (.tk false el esz xs)) ∧ get s' .h = some (.hp H)) : PureO P f args el esz xs := fun H => RunO.of_tri hf hb hN hle hres (h H)
section
variable {P : Program} {N : Nat} {s : St} {d : Nat} {ty : TypeId} {pos : String} {af : Array Edge} {g : Option (Nat × Bool)}
end
/- The program logic's rules: rows that are cut short, copies into rows. No condition. -/

section
variable {P : Program} {N : Nat} {s : St} {d : Nat} {ty : TypeId} {pos : String} {af : Array Edge} {g : Option (Nat × Bool)}
end
/- The program logic's rules: a row is lent to a call. No condition. -/

section
variable {P : Program} {N : Nat} {s : St} {d : Nat} {ty : TypeId} {pos : String} {af : Array Edge} {g : Option (Nat × Bool)}
end
/- The program logic's rules: a shared object read, and written, where it lies. No condition. -/

theorem TriL.ofKept {P : Program} {N : Nat} {ops : Array Oper} {l : List Oper} {s : St} {Q : St → Prop} (h : Kept s fun s' => TriL P N ops l s' Q) : TriL P N ops l s Q := by
 intro E a w hf
 obtain ⟨s', h1, h2⟩ := h E N a w hf
 exact h2 E a w h1
/-- The object id gets other cells; its rows stay. -/
theorem Rel.turnobj {E : Ent} {N : Nat} {G : Gh} {L : Loc} {a : Act} {w w' : World} {s : St} (h : Rel E N G L a w s) {H : Hp} {id blk : Nat} {cs cs' : List Hc} {arr arr' : Array Value} {el0 : TypeId} (hH : get s .h = some (.hp H)) (ho : H.obj id = some cs) (hb : G.ob id = some blk)
  (hh : w.heap[blk]? = some (.cells arr el0 (0, 0))) (h1 : w'.os = w.os) (h2 : w'.tape = w.tape) (h3 : w'.output = w.output) (h4 : w'.heap.size = w.heap.size) (h5 : ∀ j, j ≠ blk → w'.heap[j]? = w.heap[j]?) (h6 : w'.heap[blk]? = some (.cells arr' el0 (0, 0)))
  (hsz : arr'.size = cs'.length) (hc : ∀ (j : Nat) x, cs'[j]? = some x → HcOK G w (arr'.getD j undef) x) (hrw : ∀ (j : Nat) el esz xs, cs'[j]? = some (.row el esz xs) → cs[j]? = some (.row el esz xs) ∧ arr'.getD j undef = arr.getD j undef) :
  Rel E N G L a w' ((.h, .hp (H.set id cs')) :: s) := by
 obtain ⟨H0, gH, hok, hmay⟩ := h.heap
 rw [hH] at gH; cases gH
 obtain ⟨blk0, arr0, el1, p1, p2, p3, p4, p5⟩ := hok.obj id cs ho
 rw [hb] at p1; cases p1
 rw [hh] at p2; cases p2
 have hmine : foot G H w blk := .inl ⟨id, ⟨cs, ho⟩, hb⟩
 have hobj : ∀ i hs2, (H.set id cs').obj i = some hs2 → (i = id ∧ hs2 = cs') ∨ (i ≠ id ∧ H.obj i = some hs2) := by
  intro i hs2 e
  by_cases e2 : i = id
  ·have e3 : (if i = id then some cs' else H.obj i) = some hs2 := e
   rw [if_pos e2] at e3; cases e3; exact .inl ⟨e2, rfl⟩
  ·have e3 : (if i = id then some cs' else H.obj i) = some hs2 := e
   rw [if_neg e2] at e3; exact .inr ⟨e2, e3⟩
 have hhr : ∀ i j b, hrow G (H.set id cs') w' i j b → hrow G H w i j b := by
  rintro i j b ⟨cs2, el, esz, xs, b0, arr2, t2, fr, q1, q2, q3, q4, q5⟩
  rcases hobj _ _ q1 with ⟨rfl, rfl⟩ | ⟨e1, e2⟩
  ·rw [hb] at q3; cases q3
   rw [h6] at q4; cases q4
   obtain ⟨r1, r2⟩ := hrw j el esz xs q2
   rw [r2] at q5
   exact ⟨cs, el, esz, xs, blk, arr, _, _, ho, r1, hb, hh, q5⟩
  ·have hne : b0 ≠ blk := fun e => e1 (hok.inj _ _ _ (e ▸ q3) hb)
   rw [h5 b0 hne] at q4
   exact ⟨cs2, el, esz, xs, b0, arr2, t2, fr, e2, q2, q3, q4, q5⟩
 have hft : ∀ b, foot G (H.set id cs') w' b → foot G H w b := by
  rintro b (⟨i, ⟨hs2, q1⟩, q2⟩ | ⟨i, j, q1⟩)
  ·rcases hobj _ _ q1 with ⟨rfl, rfl⟩ | ⟨e1, e2⟩
   ·rw [hb] at q2; cases q2; exact hmine
   ·exact .inl ⟨i, ⟨hs2, e2⟩, q2⟩
  ·exact .inr ⟨i, j, hhr _ _ _ q1⟩
 have hown : ∀ c b, owns ((.h, .hp (H.set id cs')) :: s) L c b → owns s L c b := by
  intro c b hc
  cases c <;> simp only [owns, get, reduceCtorEq, if_false] at hc ⊢ <;> exact hc
 have hne : ∀ c b, owns s L c b → b ≠ blk := fun c b hc e => h.hdisj c b hc H hH (e ▸ hmine)
 have hcell : ∀ p v, w.cell? p = some v → p.block ≠ blk → w'.cell? p = some v := by
  intro p v hc hne
  rw [World.cell?_of_block (w := w) (h5 p.block hne)]; exact hc
 have hrow2 : ∀ (v : Value) (i j : Nat) el esz xs, RowOK G w true el esz v xs → (∀ b, v.ownBlock = some b → hrow G H w i j b) → RowOK G w' true el esz v xs := fun v i j el esz xs hr hv =>
  hr.stay (Gh.le.refl G) (fun b e => h5 b (fun e2 => (hok.apart i j b (hv b e)).1 id (e2 ▸ hb))) (fun _ _ _ => rfl)
 refine ⟨h.size, h.defs, h.ge, fun b j v e => hcell _ _ (h.kn b j v e) (fun e' => ?_), h.old, h.obs, h.obn, ⟨h1.trans h.fr.os, h2.trans h.fr.tape, h3.trans h.fr.output, by rw [h4]; exact h.fr.size, fun j hj hno => ?_⟩, ?_, ?_, ?_,
  fun c d b hc hd => h.disj c d b (hown _ _ hc) (hown _ _ hd), ⟨_, rfl, ⟨fun i b e => ⟨(hok.lt i b e).1, by rw [h4]; exact (hok.lt i b e).2⟩, hok.inj, ?_, ?_⟩, fun b hb2 => hmay b (hft b hb2)⟩, ?_, fun k g => h.nobox k (by simpa [get] using g), fun k g => h.notok k (by simpa [get] using g)⟩
 ·simp at e'; subst e'; rw [p5 j] at e; cases e
 ·rw [h5 j (fun e => by
   subst e
   rcases hmay j hmine with e | e
   ·omega
   ·exact hno e)]
  exact h.fr.block j hj hno
 ·intro n x g; exact h.slot n x (by simpa [get] using g)
 ·intro j cv g hl
  have g' : get s (.b j) = some cv := by simpa [get] using g
  exact (h.box j cv g' hl).stay (Gh.le.refl G) (fun _ _ e => .inl e) (fun b hb' => h5 b (hne (.b j) b ⟨⟨cv, g', hl⟩, hb'⟩)) (fun _ _ _ => rfl)
 ·intro j m el esz xs g
  have g' : get s (.t j) = some (.tk m el esz xs) := by simpa [get] using g
  exact (h.tok j m el esz xs g').stay (Gh.le.refl G) (fun _ _ e => .inl e) (fun v b hv hb' => h5 b (hne (.t j) b ⟨⟨m, el, esz, xs, g'⟩, v, hv, hb'⟩)) (fun _ _ _ _ _ => rfl)
 ·intro i hs2 e
  rcases hobj _ _ e with ⟨rfl, rfl⟩ | ⟨e1, e2⟩
  ·refine ⟨blk, arr', el0, hb, h6, hsz, fun j x hx => ?_, p5⟩
   have := hc j x hx
   cases x with
   | v b => exact this
   | row el esz xs =>
    obtain ⟨r1, r2⟩ := hrw j el esz xs hx
    exact hrow2 _ i j el esz xs this (fun b e => ⟨cs, el, esz, xs, blk, arr, _, _, ho, r1, hb, hh, by rw [← r2]; exact e⟩)
  ·obtain ⟨b2, arr2, el2, q1, q2, q3, q4, q5⟩ := hok.obj i hs2 e2
   have hne2 : b2 ≠ blk := fun e => e1 (hok.inj _ _ _ (e ▸ q1) hb)
   refine ⟨b2, arr2, el2, q1, by rw [h5 b2 hne2]; exact q2, q3, fun j x hx => ?_, q5⟩
   have := q4 j x hx
   cases x with
   | v b => exact this
   | row el esz xs => exact hrow2 _ i j el esz xs this (fun b e => ⟨hs2, el, esz, xs, b2, arr2, _, _, e2, hx, q1, q2, e⟩)
 ·intro i j b hr
  obtain ⟨q1, q2⟩ := hok.apart i j b (hhr _ _ _ hr)
  exact ⟨q1, fun i' j' hr' => q2 i' j' (hhr _ _ _ hr')⟩
 ·intro c b hc H2 g2 hf2
  simp [get] at g2
  subst g2
  exact h.hdisj c b (hown _ _ hc) H hH (hft b hf2)
section
variable {P : Program} {N : Nat} {s : St} {d : Nat} {ty : TypeId} {pos : String} {af : Array Edge} {g : Option (Nat × Bool)}
theorem op_nckc {x : Operand} {id off : Nat} (hN : d < N) (hx : opv x s = some (.op id off)) : OpOK P N ⟨some d, .nilCheck x, ty, pos, af, g⟩ s (rd x) [(.s d, .sv (.v (.op id off)))] :=
 OpOK.val rfl hN fun E G L a w t hr hR => by
  have hv := opv_sound hr hR hx
  generalize hav : a.eval x = u at hv
  cases hv
  rename_i blk hb
  exact ⟨.pointer (some ⟨blk, off, none⟩), by simp [execOp, hav], V.op id off blk hb⟩
theorem op_fac {t1 : TypeId} {x : Operand} {i id off o : Nat} (hN : d < N) (hf : fo P t1 i = some o) (hx : opv x s = some (.op id off)) :
  OpOK P N ⟨some d, .fieldAddr t1 x i, ty, pos, af, g⟩ s (rd x) [(.s d, .sv (.v (.op id (off + o))))] :=
 OpOK.val rfl hN fun E G L a w t hr hR => by
  have hv := opv_sound hr hR hx
  generalize hav : a.eval x = u at hv
  cases hv
  rename_i blk hb
  exact ⟨.pointer (some ⟨blk, off + o, none⟩), by simp [execOp, hav, fo_run hf, Addr.add_lit], V.op id (off + o) blk hb⟩
/-- load out of an object -/
theorem op_ldc {t1 : TypeId} {x : Operand} {id off n : Nat} {b : Bool} {cs : List Hc} {z : Sv} {H : Hp} (hN : d < N) (hl : lk P t1 = some (b, n)) (hx : opv x s = some (.op id off)) (hH : get s .h = some (.hp H)) (ho : H.obj id = some cs) (hz : ldc b n ((cs.map fun c => Sv.v (hcAv c)).drop off) = some z) :
  OpOK P N ⟨some d, .load t1 x, ty, pos, af, g⟩ s (rd x ++ [.h]) [(.s d, .sv z)] :=
 OpOK.val rfl hN fun E G L a w t hr hR => by
  have hv := opv_sound hr hR.left hx
  generalize hav : a.eval x = u at hv
  cases hv
  rename_i blk hb
  obtain ⟨H0, gH, hok, hmay⟩ := hr.heap
  rw [hR .h (by simp), hH] at gH; cases gH
  obtain ⟨blk0, arr, el1, p1, p2, p3, p4, p5⟩ := hok.obj id cs ho
  rw [hb] at p1; cases p1
  have hcell : ∀ (j : Nat) y, ((cs.map fun c => Sv.v (hcAv c)).drop off)[j]? = some y → w.cell? ((⟨blk, off, none⟩ : Addr).add j) = some (arr.getD (off + j) undef) ∧ y.flat = true ∧ SV G L (arr.getD (off + j) undef) y := by
   intro j y e
   rw [List.getElem?_drop, List.getElem?_map] at e
   cases hc : cs[off + j]? with
   | none => rw [hc] at e; cases e
   | some c =>
    rw [hc] at e; cases e
    have hlt : off + j < arr.size := by have := (List.getElem?_eq_some_iff.1 hc).1; omega
    refine ⟨?_, hc_read (p4 _ c hc)⟩
    rw [Addr.add_lit, cell_of_row w blk (off + j) arr el1 (0, 0) p2, Array.getD_eq_getD_getElem?, Array.getElem?_eq_getElem hlt]
    rfl
  obtain ⟨v, hrun, hV⟩ := run_load_of (P := P) hl hz hcell
  refine ⟨v, ?_, hV⟩
  simp [execOp, hav, Instr.loadAt, Instr.sureAddr, hrun]
/-- store into a cell of an object -/
theorem op_stc {t1 : TypeId} {x y : Operand} {id off : Nat} {b : Bool} {cs : List Hc} {av old : AV} {H : Hp} (hl : lk P t1 = some (b, 1)) (hx : opv x s = some (.op id off)) (hH : get s .h = some (.hp H)) (ho : H.obj id = some cs) (hy : opv y s = some av) (hfl : av.flat = true) (hold : cs[off]? = some (.v old)) :
  OpOK P N ⟨none, .store t1 x y, ty, pos, af, g⟩ s (rd x ++ (rd y ++ [.h])) [(.h, .hp (H.set id (cs.set off (.v av))))] := by
 intro t hR E G L a w hr K Q hK
 have hv := opv_sound hr hR.left hx
 have hz := opv_sound hr hR.right.left hy
 generalize hav : a.eval x = u at hv
 cases hv
 rename_i blk hb
 obtain ⟨H0, gH, hok, hmay⟩ := hr.heap
 have hHt : get t .h = some (.hp H) := by rw [hR .h (by simp)]; exact hH
 rw [hHt] at gH; cases gH
 obtain ⟨blk0, arr, el1, p1, p2, p3, p4, p5⟩ := hok.obj id cs ho
 rw [hb] at p1; cases p1
 have hone := hz.oneCell hfl
 have hcl : (a.eval y).cells = #[a.eval y] := vcells_one hone
 have hlt : off < cs.length := (List.getElem?_eq_some_iff.1 hold).1
 have hst := run_storeCells_at P blk off el1 [a.eval y] 0 arr w p2 (by simp; omega) (fun u hu => by simp at hu; subst hu; exact hone)
 obtain ⟨_, hs⟩ := lk_run hl w
 simp only [Nat.add_zero] at hst
 let arr' : Array Value := (arr.toList.take off ++ [a.eval y] ++ arr.toList.drop (off + [a.eval y].length)).toArray
 have hrun : (execOp a.eval ⟨none, .store t1 x y, ty, pos, af, g⟩).run P w = .ok .skip (w.setRow blk arr') := by
  have hne : ¬ ((a.eval y).cells.size ≠ 1) := by rw [hcl]; simp
  simp only [execOp, Sem.run_bind, hav, Instr.storeAt, Instr.sureAddr, Sem.run_pure, Result.andThen_ok, storeVar, hs]
  rw [if_neg hne, hcl]
  simp only [hst, Result.andThen_ok]
  rfl
 have hl1 : (arr.toList.take off).length = off := by rw [List.length_take, Array.length_toList]; omega
 have key : ∀ j, arr'.getD j undef = if j = off then a.eval y else arr.getD j undef := by
  intro j
  simp only [arr', Array.getD_eq_getD_getElem?, List.getElem?_toArray]
  rw [List.append_assoc]
  by_cases hj : j < off
  ·rw [List.getElem?_append_left (by omega), List.getElem?_take, if_pos hj, Array.getElem?_toList, if_neg (by omega)]
  ·rw [List.getElem?_append_right (by omega), hl1]
   by_cases hj2 : j = off
   ·subst hj2; simp
   ·rw [if_neg hj2, List.getElem?_append_right (by simp; omega), List.getElem?_drop, Array.getElem?_toList]
    congr 2
    simp; omega
 have hset : ∀ (j : Nat) x, (cs.set off (.v av))[j]? = some x → (j = off ∧ x = .v av) ∨ (j ≠ off ∧ cs[j]? = some x) := by
  intro j x e
  by_cases hj : j = off
  ·subst hj
   rw [List.getElem?_set_self hlt] at e; cases e; exact .inl ⟨rfl, rfl⟩
  ·rw [List.getElem?_set_ne (by omega)] at e; exact .inr ⟨hj, e⟩
 have hr2 := hr.turnobj (cs' := cs.set off (.v av)) (arr' := arr') (w' := w.setRow blk arr') hHt ho hb p2 rfl rfl rfl (size_setRow w blk arr') (fun j hj => setRow_other w blk j arr' hj) (setRow_heap w blk arr arr' el1 (0, 0) p2)
  (by simp only [arr', List.size_toArray, List.length_append, hl1, List.length_drop, Array.length_toList, List.length_set, List.length_cons, List.length_nil]; omega)
  (fun j x e => by
   rw [key j]
   rcases hset j x e with ⟨rfl, rfl⟩ | ⟨h1, h2⟩
   ·rw [if_pos rfl]; exact ⟨hfl, hz⟩
   ·rw [if_neg h1]; exact p4 j x h2)
  (fun j el esz xs e => by
   rcases hset j _ e with ⟨rfl, h2⟩ | ⟨h1, h2⟩
   ·cases h2
   ·exact ⟨h2, by rw [key j, if_neg h1]⟩)
 unfold Oper.wp
 rw [hrun]
 exact hK undef _ G L hr2
end
/- The program logic's rules: arrays in local boxes, an array given away as a slice, a store into a row. No condition. -/

section
variable {P : Program} {N : Nat} {s : St} {d : Nat} {ty : TypeId} {pos : String} {af : Array Edge} {g : Option (Nat × Bool)}
end
/- The program logic's rules: a struct that is built and boxed at once, its parts kept as they are. No condition. -/

/- The program logic's rules: operations that a guard leaves out, so that what hangs on them is left out too. No condition. -/
section
variable {P : Program} {N : Nat} {ops : Array Oper} {l : List Oper} {s : St} {Q : St → Prop} {o : Oper}
theorem TriL.step {R : List Comp} {ws : St} (hs : StepOK P N ops o s R ws) (h : TriL P N ops l (ws ++ s) Q) : TriL P N ops (o :: l) s Q := by
 intro E a w ⟨G, L, hr⟩ QQ hQ
 refine wpList_step fun K hK => ?_
 exact hs s (fun _ _ => rfl) E G L a w hr K QQ fun a' w' G' L' hr' => hK _ _ (h E _ _ ⟨G', L', hr'⟩ QQ hQ)
theorem V_undef (G : Gh) : V G undef (.tup []) := V.tup #[] [] rfl (fun j c h => by simp at h)
theorem StepOK.offu {d e : Nat} {b : Bool} (hN : d < N) (he : e < N) (hd : o.dst = some e) (hg : gslot ops o = some (d, b)) (hc : get s (.s d) = some (.sv (.v (.bool (!b))))) : StepOK P N ops o s [.s d] [(.s e, .sv (.v (.tup [])))] := by
 intro t hR E G L a w hr K Q hK
 rw [wanted_of hr hN hg (by rw [hR (.s d) (List.mem_cons_self ..)]; exact hc), if_neg (by cases b <;> simp), hd]
 exact hK _ _ G L (hr.put e he undef (.v (.tup [])) (V_undef G))
theorem wanted_un {E : Ent} {G : Gh} {L : Loc} {a : Act} {w : World} (hr : Rel E N G L a w s) {d : Nat} {b : Bool} (hN : d < N) (hg : gslot ops o = some (d, b)) (hc : get s (.s d) = some (.sv (.v (.tup [])))) : Region.wanted o (yielded ops a.tmps) = false := by
 unfold gslot at hg
 split at hg
 ·rename_i j b' hgd
  cases hd : (ops[j]?).bind (·.dst) with
  | none => rw [hd] at hg; cases hg
  | some d' =>
   rw [hd] at hg
   simp only [Option.map_some, Option.some.injEq, Prod.mk.injEq] at hg
   obtain ⟨rfl, rfl⟩ := hg
   have hv : V G (a.tmps.getD d' undef) (.tup []) := hr.slot d' _ hc
   have hsz := hr.size
   have hlt : d' < a.tmps.size := by rw [hsz]; exact hN
   rw [Array.getD_eq_getD_getElem?, Array.getElem?_eq_getElem hlt] at hv
   simp only [Option.getD_some] at hv
   simp only [Region.wanted, hgd, yielded, hd, Option.bind_some, Array.getElem?_eq_getElem hlt]
   generalize a.tmps[d'] = u at hv
   cases hv
   cases b' <;> rfl
 ·cases hg
theorem StepOK.offg {d e : Nat} {b : Bool} (hN : d < N) (he : e < N) (hd : o.dst = some e) (hg : gslot ops o = some (d, b)) (hc : get s (.s d) = some (.sv (.v (.tup [])))) : StepOK P N ops o s [.s d] [(.s e, .sv (.v (.tup [])))] := by
 intro t hR E G L a w hr K Q hK
 rw [wanted_un hr hN hg (by rw [hR (.s d) (List.mem_cons_self ..)]; exact hc), if_neg (by simp), hd]
 exact hK _ _ G L (hr.put e he undef (.v (.tup [])) (V_undef G))
/-- left out by a guard that is not met -/
theorem TriL.skipu {e d : Nat} {b b' : Bool} (hd : o.dst = some e) (hg : gslot ops o = some (d, b)) (hN : d < N) (he : e < N) (hc : get s (.s d) = some (.sv (.v (.bool b')))) (hb : b' = !b) (h : TriL P N ops l ((.s e, .sv (.v (.tup []))) :: s) Q) : TriL P N ops (o :: l) s Q :=
 TriL.step (StepOK.offu hN he hd hg (hb ▸ hc)) h
/-- left out as its guard was -/
theorem TriL.skipg {e d : Nat} {b : Bool} (hd : o.dst = some e) (hg : gslot ops o = some (d, b)) (hN : d < N) (he : e < N) (hc : get s (.s d) = some (.sv (.v (.tup [])))) (h : TriL P N ops l ((.s e, .sv (.v (.tup []))) :: s) Q) : TriL P N ops (o :: l) s Q :=
 TriL.step (StepOK.offg hN he hd hg hc) h
theorem TriD.skipu {A : List (List Nat)} {acc : List (List Comp × St)} {e d : Nat} {b b' : Bool} (hd : o.dst = some e) (hg : gslot ops o = some (d, b)) (hN : d < N) (he : e < N) (hc : get s (.s d) = some (.sv (.v (.bool b')))) (hb : b' = !b) (h : TriD P N ops A Q (acc ++ [([.s d], [(.s e, .sv (.v (.tup [])))])]) l ((.s e, .sv (.v (.tup []))) :: s)) : TriD P N ops A Q acc (o :: l) s :=
 TriD.cons (StepOK.offu hN he hd hg (hb ▸ hc)) h
theorem TriD.skipg {A : List (List Nat)} {acc : List (List Comp × St)} {e d : Nat} {b : Bool} (hd : o.dst = some e) (hg : gslot ops o = some (d, b)) (hN : d < N) (he : e < N) (hc : get s (.s d) = some (.sv (.v (.tup [])))) (h : TriD P N ops A Q (acc ++ [([.s d], [(.s e, .sv (.v (.tup [])))])]) l ((.s e, .sv (.v (.tup []))) :: s)) : TriD P N ops A Q acc (o :: l) s :=
 TriD.cons (StepOK.offg hN he hd hg hc) h
end
theorem TriL.c4 {P : Program} {N : Nat} {ops : Array Oper} {l : List Oper} {s : St} {Q : St → Prop} {o : Oper} {R : List Comp} {c d e f : Comp} {v u y z : CV} (hg : o.guard = none) (ho : OpOK P N o s R [(c, v), (d, u), (e, y), (f, z)]) (h : TriL P N ops l ((c, v) :: (d, u) :: (e, y) :: (f, z) :: s) Q) : TriL P N ops (o :: l) s Q := TriL.cons hg ho h
/-- A scope without a goto. -/
theorem Tri.scope {P : Program} {N : Nat} {c : Code} {s : St} {Q : Exit → St → Prop} (h : Tri P N c s fun e s' => match e with | .goto _ => False | e => Q e s') : Tri P N (.scope c) s Q := by
 intro E a w hf
 refine wp_scope_straight (wp_mono (h E a w hf) ?_)
 rintro e a' w' ⟨s', h1, h2⟩
 cases e with
 | goto l => exact h2.elim
 | _ => exact ⟨s', h1, h2⟩
/-- Ways meet. -/
theorem Tri.join {P : Program} {N : Nat} {c d : Code} {s : St} {Q : Exit → St → Prop} (J : St → Prop) (h1 : Tri P N c s fun e s' => match e with | .normal => J s' | e => Q e s') (h2 : ∀ s', J s' → Tri P N d s' Q) : Tri P N (.seq c d) s Q :=
 Tri.seq (h1.mono fun e s' h => by
  cases e <;> first | exact h2 s' h | exact h)
/- The program logic's rules: a text appended to a row; to a fresh conversion. No condition. -/
/-- append of a text, run: in place or in a new block. -/
theorem run_apps {P : Program} {base t u ty el : Nat} {inf : TypeInfo} {z : Value} (ht : P.underlying t = some (.slice el)) (hu : P.underlying u = some .string) (hi : P.info? el = some inf) (hz : inf.zero = some z) (hzs : z.cells.size = 1) (hs1 : inf.size = 1) {w : World} {v : Value} {n : Nat} {cells : List Value} (hown : w.ownsRow base el 1 v n cells)
  (s : ByteArray) (h63 : n + s.size ≤ 9223372036854775807) (hb : (n + s.size) * inf.bytes ≤ 140737488355328) (hbase : base ≤ w.heap.size) :
  ∃ v1 w1, (Builtin.append_ #[t, u] ty #[v, .string s]).run P w = .ok v1 w1 ∧ w1.ownsRow base el 1 v1 (n + s.size) (cells ++ Lib.strCells s) ∧ w.grownBy w1 v.ownBlock ∧ (v1.ownBlock = v.ownBlock ∨ v1.ownBlock = some w.heap.size) ∧
   (∀ b, v.ownBlock = some b → ∀ o u, cells[o]? = some u → w1.cell? ⟨b, o, none⟩ = some u) := by
 have hsl := Lib.strCells_length s
 have hm63 : n + s.size ≤ maxLen := by simp only [maxLen]; omega
 have hcl : cells.length = n := by simpa using hown.1
 have hlen : (cells ++ Lib.strCells s).length = (n + s.size) * 1 := by rw [List.length_append, hcl, hsl, Nat.mul_one]
 have fresh : ∀ cap0 row, (w.drew.alloc (.cells (cells.toArray ++ (Lib.strCells s).toArray ++ Builtin.zeroCells z.cells (grownCap w (n + s.size) cap0 el - (n + s.size))) el)).ownsRow base el 1 (.slice (some ⟨w.heap.size, 0, none⟩) (n + s.size) (grownCap w (n + s.size) cap0 el)) (n + s.size) (cells ++ Lib.strCells s) ∧
   w.grownBy (w.drew.alloc (.cells (cells.toArray ++ (Lib.strCells s).toArray ++ Builtin.zeroCells z.cells (grownCap w (n + s.size) cap0 el - (n + s.size))) el)) row := by
  intro cap0 row
  have hge := grownCap_ge w (n + s.size) cap0 el
  refine ⟨⟨hlen, .inr ⟨w.heap.size, _, _, rfl, hbase, heap_alloc_new w.drew _, hge, grownCap_le_maxLen w _ _ _ hm63, ?_, ?_⟩⟩, rfl, rfl, rfl, by simp, fun k hk _ => Below.heap_alloc w.drew _ k hk⟩
  ·simp only [Array.size_append, List.size_toArray, size_zeroCells, hzs, hcl, hsl]
   omega
  ·rw [← hlen]
   simp only [Array.toList_append, List.toList_toArray]
   exact List.take_left
 rcases hown.2 with ⟨rfl, rfl⟩ | ⟨q, cap, cur, rfl, hq, hh, hnc, hcm, hcs, htake⟩
 ·have hce : cells = [] := List.eq_nil_of_length_eq_zero hcl
  subst hce
  by_cases hm : s.size = 0
  ·have hn : Lib.strCells s = [] := List.eq_nil_of_length_eq_zero (by rw [hsl]; exact hm)
   refine ⟨.slice none 0 0, w, ?_, by rw [hm, hn]; exact World.ownsRow_nil w base el 1, ⟨rfl, rfl, rfl, Nat.le_refl _, fun _ _ _ => rfl⟩, .inl rfl, fun b hb => by simp [Value.ownBlock] at hb⟩
   have hf := Lib.run_firstCells_string (P := P) w 1 s
   rw [hm] at hf
   simp [Builtin.append_, run_underlying ht, run_underlying hu, sizeOf, typeInfo, hi, hs1, Builtin.lenOf, hm, hf]
  ·have hr := run_append_nil_string (P := P) w t u ty el inf z ht hu hi hz s (by omega) (by omega) (by simp only [Nat.zero_add] at hb; omega)
   have hgr := fresh 0 (Value.ownBlock (.slice none 0 0))
   simp only [Nat.zero_add, List.nil_append] at hgr ⊢
   have e0 : (#[] : Array Value) ++ (Lib.strCells s).toArray = (Lib.strCells s).toArray := by simp
   rw [e0] at hgr
   have e1 : (s.data.map fun b => Value.int .u8 b.toNat) = (Lib.strCells s).toArray := by
    apply Array.ext'
    simp [Lib.strCells]
   rw [e1] at hr
   exact ⟨_, _, hr, hgr.1, hgr.2, .inr rfl, fun b hb => by simp [Value.ownBlock] at hb⟩
 ·simp only [Nat.mul_one] at hcs htake
  by_cases hroom : n + s.size ≤ cap
  ·have hr := Lib.run_append_room_string (P := P) w t u ty el inf ht hu hi hs1 q n cap cur hh s hroom (by omega)
   have ho1 : (w.setRow q (cur.toList.take n ++ Lib.strCells s ++ cur.toList.drop (n + s.size)).toArray).ownsRow base el 1 (.slice (some ⟨q, 0, none⟩) (n + s.size) cap) (n + s.size) (cells ++ Lib.strCells s) := by
    refine ⟨hlen, .inr ⟨q, cap, _, rfl, hq, setRow_heap w q cur _ el _ hh, hroom, hcm, ?_, ?_⟩⟩
    ·simp only [List.size_toArray, List.length_append, List.length_take, List.length_drop, Array.length_toList, hsl]; omega
    ·rw [htake, ← hlen]
     exact List.take_left
   refine ⟨_, _, hr, ho1, ⟨rfl, rfl, rfl, by simp, fun k _ hk => setRow_other w q k _ (fun e => hk (by simp [Value.ownBlock, e]))⟩, .inl rfl, fun b hb o u e => ?_⟩
   have := ho1.cells (g := b) hb o u (by rw [List.getElem?_append_left (List.getElem?_eq_some_iff.1 e).1]; exact e)
   rwa [Addr.add_lit, Nat.zero_add] at this
  ·have hr := Lib.run_append_grow_string (P := P) w t u ty el inf z ht hu hi hz ⟨q, 0, none⟩ n cap cells (by rw [hs1, Nat.mul_one]; exact hcl) (hown.cells (g := q) rfl) s (by omega) (by omega) (growslice_fits (by omega) hb)
   have hf := fresh cap (Value.ownBlock (.slice (some ⟨q, 0, none⟩) n cap))
   refine ⟨_, _, hr, hf.1, hf.2, .inr rfl, fun b hb o u e => ?_⟩
   have h2 := hown.cells (g := b) hb o u e
   rw [Addr.add_lit, Nat.zero_add] at h2
   have hlt := World.block_lt_of_cell? w _ h2
   rw [World.cell?_of_block (w := w) (Below.heap_alloc w.drew _ b hlt)]
   exact h2
theorem strCells_lay (G : Gh) (l : List UInt8) : Lay G 1 (bsl l) (Lib.strCells ⟨l.toArray⟩) := by
 have hg : ∀ (i : Nat) (e : AV), (bsl l)[i]? = some e → ∃ c : UInt8, l[i]? = some c ∧ e = AV.int .u8 (c.toNat : Int) := by
  intro i e h
  simp only [bsl, List.getElem?_map] at h
  cases hc : l[i]? with
  | none => rw [hc] at h; cases h
  | some c => rw [hc] at h; cases h; exact ⟨c, rfl, rfl⟩
 refine ⟨fun i e h => ?_, fun i e j c h hj => ?_⟩
 ·obtain ⟨c, _, rfl⟩ := hg i e h; rfl
 ·obtain ⟨u, hu, rfl⟩ := hg i e h
  have hj0 : j = 0 := by have := (List.getElem?_eq_some_iff.1 hj).1; simp [AV.cells] at this; exact this
  subst hj0
  cases hj
  refine ⟨rfl, ?_⟩
  simp only [Nat.mul_one, Nat.add_zero, Lib.strCells, List.getD_eq_getElem?_getD, List.getElem?_map, hu, Option.map_some, Option.getD_some]
  exact .int _ _
section
variable {P : Program} {N : Nat} {s : St} {d : Nat} {ty : TypeId} {pos : String} {af : Array Edge} {g : Option (Nat × Bool)}
end
open Go Go.RowKit Go.ChangeShapes Go.WideShapes Go.ChangeAt
/- The law frame: from a call in the program logic to what a statement asks. No condition. -/
open Go.ChangeMaps (open_string shut_string)

/-- What is known when a law is called: all that there is. -/
def gh0 (W : World) : Gh := ⟨fun b o => W.cell? ⟨b, o, none⟩, fun _ => none⟩
def hp0 : Hp := ⟨0, fun _ => none⟩
theorem hp0_foot (G : Gh) (W : World) (b : Nat) : ¬ foot G hp0 W b := by
 rintro (⟨id, ⟨cs, h⟩, _⟩ | ⟨id, j, cs, el, esz, xs, b0, arr, t, fr, h, _⟩) <;> cases h
theorem hp0_ok (G : Gh) (W : World) (h : ∀ i, G.ob i = none) : HpOK G W hp0 := by
 refine ⟨fun id b e => ?_, fun id id' b e => ?_, fun id cs e => (by cases e), fun id j blk hr => ?_⟩
 ·rw [h] at e; cases e
 ·rw [h] at e; cases e
 ·exact absurd (.inr ⟨id, j, hr⟩) (hp0_foot G W blk)
/-- A law's call. -/
theorem law_run {P : Program} {f : FuncId} {xs : List AV} {H' : Hp} (h : Run P f xs hp0 (.bool true) H') {W : World} {args : Array Value} (hg : gok W ∧ gN ≤ W.heap.size) (hv : VL (gh0 W) args xs) :
  Calls P f args W fun e w' => e = .returned (.bool true) ∧ Below W.heap.size W w' := by
 refine (h (gh0 W) W args ⟨hg.1, hg.2, fun g _ => hp0_foot _ _ g⟩ (fun b o v e => e) (hp0_ok _ _ fun _ => rfl) hv).mono fun e w' ⟨v, G', he, hV, _, _, _, hf, _⟩ => ?_
 cases hV
 exact ⟨he, hf.os, hf.tape, hf.output, hf.size, fun k hk => hf.block k hk (hp0_foot _ _ k)⟩

section
variable {H : Type} {enc : TypeId × Value → H} {P : Program} {W W' : World}
theorem below_trodAll (hl : laidOutB P = true) (hb : Below W.heap.size W W') : ∀ {ts : List TypeId} {vs : List Value} {ds : List (DataW H)} {ps : List MemPlace},
  ts.all (fun t => P.readableRec t && decide (t < P.types.size)) = true → DataW.TrodAll enc P W 0 (fun _ => true) true ts vs ds ps → DataW.TrodAll enc P W' 0 (fun b => decide (b < W.heap.size)) true ts vs ds ps
 | [], vs, ds, ps, _, h => by
  obtain ⟨rfl, rfl, rfl⟩ := trodAll_nil h
  exact trodAll_mk0
 | t :: ts, vs, ds, ps, hr, h => by
  have hlt := h.lt
  obtain ⟨v, vs1, d, ds1, a, b, rfl, rfl, rfl, h1, h2⟩ := trodAll_cons h
  simp only [List.all_cons, Bool.and_eq_true, decide_eq_true_eq] at hr
  exact trodAll_cons_mk (Below.trod hl hr.1.1 hr.1.2 h1 hb fun x hx => hlt x (by simp [hx])) (below_trodAll hl hb hr.2 h2)
/-- What a statement asks of a law that answers true and leaves all that was. -/
theorem post_true {f : Func} {s : ChangeSpec} {t : TypeId} {args : Array Value} {ds gs : List (DataW H)} {before : List MemPlace} (hl : laidOutB P = true)
  (hr : f.params.toList.all (fun t => P.readableRec t && decide (t < P.types.size)) = true) (hvr : s.vars = []) (hW : DataW.Whole enc P f.params.toList s.vars false W args.toList ds gs before) (hb : Below W.heap.size W W')
  (hs : s.fn H (ds ++ gs) = { results := [.lit (.bool true)], args := ds, vars := gs }) (ht : f.resultTypes = #[t]) (hu : P.underlying t = some .bool) :
  s.post enc P f false true false false W args (.bool true) W' := by
 have hW' := hW
 obtain ⟨p, q, hA, hV, rfl, hfz, hnd⟩ := hW
 refine ⟨ds, gs, p ++ q, [], p, q, hW', ?_, ?_, ?_, ?_, fun h => by cases h⟩
 ·rw [hs, ht]
  exact trodAll_cons_mk (shut_bool hu true) trodAll_mk0
 ·rw [hs]; exact below_trodAll hl hb hr hA
 ·rw [hvr] at hV ⊢
  obtain ⟨rfl, rfl⟩ := trodVars_none hV
  rw [hs]; rfl
 ·exact hb.frame _

end
/- The program logic's rules: a call of which only the answer is told. No condition. -/
/-- It answers what stands for 'r'; of the old blocks it turns the objects' alone. -/
def RunX (P : Program) (f : FuncId) (args : List AV) (H : Hp) (r : AV) : Prop :=
 ∀ G w cargs, GE ⟨G, w, foot G H w, []⟩ → KnOK G w → HpOK G w H → VL G cargs args → Calls P f cargs w fun e w' => ∃ v G', e = .returned v ∧ V G' v r ∧ Fr (foot G H w) w w'
theorem RunX.of_tri {P : Program} {f : FuncId} {fn : Func} {c : Code} {N : Nat} {args : List AV} {H : Hp} {r : AV} (hf : P.funcs[f]? = some fn) (hb : fn.body = some c) (hN : fn.ntmps = N) (hle : args.length ≤ N)
  (h : Tri P N c ((.h, .hp H) :: initS args 0) fun e s' => (e = .normal ∨ e = .ret) ∧ ResOK P fn s' r) : RunX P f args H r := by
 intro G w cargs hg hk hH hV
 refine calls_of_wp hf hb ?_
 have h0 := fits0 hN hle hg hk hH hV
 refine wp_mono (h ⟨G, w, foot G H w, []⟩ _ w h0) ?_
 rintro e a' w' ⟨s', ⟨G', L', hr⟩, he, hres⟩
 obtain ⟨v, hv, hV'⟩ := hres _ _ _ _ _ _ hr
 have hpost : ∃ v2 G', Ending.returned v = .returned v2 ∧ V G' v2 r ∧ Fr (foot G H w) w w' := ⟨v, G', rfl, hV', hr.fr⟩
 rcases he with rfl | rfl
 ·exact ⟨hr.defs, v, hv, hpost⟩
 ·exact ⟨hr.defs, v, hv, hpost⟩
/- The law frame: lists of texts, numbers. No condition. -/
section
variable {H : Type} {enc : TypeId × Value → H} {P : Program} {W W' : World}
theorem cell_spot {a : Addr} {v : Value} (h : W.cell? a = some v) : a.spot = none := by
 unfold World.cell? at h
 split at h
 ·split at h
  ·cases h
  ·rename_i hns; simpa using hns
 ·cases h
theorem str_arr (s : ByteArray) : s = ⟨s.data.toList.toArray⟩ := by cases s; simp
end
/- The law frame: slices of whatever. No condition. -/
section
variable {H : Type} {enc : TypeId × Value → H} {P : Program} {W W' : World}
end
/- The program logic's rules: contracts of the library, said of worlds, as calls of the logic. No condition. -/
/-- A call that leaves all that was there as it was, and answers with what is known of. -/
theorem Pure.of_calls {P : Program} {f : FuncId} {args : List AV} {r : AV}
  (h : ∀ G w cargs, gok w → gN ≤ w.heap.size → KnOK G w → VL G cargs args → Calls P f cargs w fun e w' => ∃ v, e = .returned v ∧ V G v r ∧ Below w.heap.size w w') : Pure P f args r := by
 intro H G w cargs hg hk hH hV
 refine (h G w cargs hg.1 hg.2.1 hk hV).mono ?_
 rintro e w' ⟨v, he, hv, hb⟩
 obtain ⟨h1, h2⟩ := hH.stay (G' := G) (Gh.le.refl G) rfl (fun b hb' o => (hH.foot hb').2 o) (fun b hb' => hb.block b (hH.foot hb').1) hb.size
 refine ⟨v, G, he, hv, ⟨fun _ _ _ _ => rfl, fun _ _ h => h, fun _ _ h => .inl h⟩, fun b o u e2 => ?_, h1, ⟨hb.os, hb.tape, hb.output, hb.size, fun k hk' _ => hb.block k hk'⟩, fun b hb' => .inr ((h2 b).1 hb')⟩
 rw [World.cell?_of_block (w := w) (hb.block b (hk.lt e2))]
 exact hk b o u e2
/-- .. and the world. -/
theorem Pure.of_same {P : Program} {f : FuncId} {args : List AV} {r : AV}
  (h : ∀ G w cargs, gok w → gN ≤ w.heap.size → KnOK G w → VL G cargs args → Calls P f cargs w fun e w' => (∃ v, e = .returned v ∧ V G v r) ∧ w' = w) : Pure P f args r :=
 Pure.of_calls fun G w cargs hg hn hk hV => (h G w cargs hg hn hk hV).mono fun e w' ⟨⟨v, he, hv⟩, hw⟩ => ⟨v, he, hv, by rw [hw]; exact Below.refl _ _⟩
theorem VL.one {G : Gh} {c : Array Value} {a : AV} (h : VL G c [a]) : ∃ x, c = #[x] ∧ V G x a := by
 obtain ⟨h1, h2⟩ := h
 obtain ⟨l⟩ := c
 match l, h1 with
 | [x], _ => exact ⟨x, rfl, h2 0 a rfl⟩
theorem VL.two {G : Gh} {c : Array Value} {a b : AV} (h : VL G c [a, b]) : ∃ x y, c = #[x, y] ∧ V G x a ∧ V G y b := by
 obtain ⟨h1, h2⟩ := h
 obtain ⟨l⟩ := c
 match l, h1 with
 | [x, y], _ => exact ⟨x, y, rfl, h2 0 a rfl, h2 1 b rfl⟩
theorem VL.three {G : Gh} {c : Array Value} {a b d : AV} (h : VL G c [a, b, d]) : ∃ x y z, c = #[x, y, z] ∧ V G x a ∧ V G y b ∧ V G z d := by
 obtain ⟨h1, h2⟩ := h
 obtain ⟨l⟩ := c
 match l, h1 with
 | [x, y, z], _ => exact ⟨x, y, z, rfl, h2 0 a rfl, h2 1 b rfl, h2 2 d rfl⟩
theorem V.str_eq {G : Gh} {v : Value} {s : List UInt8} (h : V G v (.str s)) : v = .string ⟨s.toArray⟩ := by cases h; rfl
theorem V.int_eq {G : Gh} {v : Value} {k : IntKind} {n : Int} (h : V G v (.int k n)) : v = .int k n := by cases h; rfl
/-- a pair -/
theorem V.tup2 {G : Gh} {x y : Value} {a b : AV} (h1 : V G x a) (h2 : V G y b) : V G (.tuple #[x, y]) (.tup [a, b]) :=
 .tup _ _ rfl fun j c hj => by
  match j, hj with
  | 0, hj => cases hj; exact h1
  | 1, hj => cases hj; exact h2
section
variable {P : Program} {N : Nat} {s : St} {d : Nat} {ty : TypeId} {pos : String} {af : Array Edge} {g : Option (Nat × Bool)}
/-- an interface is nil -/
def ifnil : AV → Option Bool
 | .nili => some true
 | .ifc _ _ => some false
 | _ => none
theorem ifnil_sound {G : Gh} {v : Value} {a : AV} {b : Bool} (h : V G v a) (hb : ifnil a = some b) : (b = true ∧ v = .nilIface) ∨ (b = false ∧ ∃ t u, v = .iface t u) := by
 cases h <;> simp [ifnil] at hb
 ·rename_i t v a h; subst hb; exact .inr ⟨rfl, t, v, rfl⟩
 ·subst hb; exact .inl ⟨rfl, rfl⟩
theorem op_eqi {t1 t2 : TypeId} {x : Operand} {y : AV} {b : Bool} (hN : d < N) (ht : P.underlying t1 = some (.interface (P.methodsAt t1))) (hx : opv x s = some y) (hb : ifnil y = some b) :
  OpOK P N ⟨some d, .binOp .eql t1 x (.const .nilIface) t2, ty, pos, af, g⟩ s (rd x) [(.s d, .sv (.v (.bool b)))] :=
 OpOK.val rfl hN fun E G L a w t hr hR => by
  refine ⟨.bool b, ?_, .bool _⟩
  have hv := opv_sound hr hR hx
  have he : a.eval (.const .nilIface) = .nilIface := rfl
  rcases ifnil_sound hv hb with ⟨rfl, hp⟩ | ⟨rfl, tt, u, hp⟩
  ·have hgd : (eqGuard .eql t1 x (.const .nilIface) .nilIface .nilIface).run P w = .ok () w := by rw [eqGuard_nil_constR]; rfl
   simp only [execOp, Sem.run_bind, hp, he, hgd, Result.andThen_ok, run_eql_nil_nil w t1 ht, Sem.run_pure]
  ·have hgd : (eqGuard .eql t1 x (.const .nilIface) (.iface tt u) .nilIface).run P w = .ok () w := by simp [eqGuard]
   simp only [execOp, Sem.run_bind, hp, he, hgd, Result.andThen_ok, run_eql_held_nil w t1 tt u ht, Sem.run_pure]
theorem op_nei {t1 t2 : TypeId} {x : Operand} {y : AV} {b : Bool} (hN : d < N) (ht : P.underlying t1 = some (.interface (P.methodsAt t1))) (hx : opv x s = some y) (hb : ifnil y = some b) :
  OpOK P N ⟨some d, .binOp .neq t1 x (.const .nilIface) t2, ty, pos, af, g⟩ s (rd x) [(.s d, .sv (.v (.bool (!b))))] :=
 OpOK.val rfl hN fun E G L a w t hr hR => by
  refine ⟨.bool (!b), ?_, .bool _⟩
  have hv := opv_sound hr hR hx
  have he : a.eval (.const .nilIface) = .nilIface := rfl
  rcases ifnil_sound hv hb with ⟨rfl, hp⟩ | ⟨rfl, tt, u, hp⟩
  ·have hgd : (eqGuard .neq t1 x (.const .nilIface) .nilIface .nilIface).run P w = .ok () w := by rw [eqGuard_nil_constR]; rfl
   simp only [execOp, Sem.run_bind, hp, he, hgd, Result.andThen_ok, run_neq_nil_nil w t1 ht, Sem.run_pure, Bool.not_true]
  ·have hgd : (eqGuard .neq t1 x (.const .nilIface) (.iface tt u) .nilIface).run P w = .ok () w := by simp [eqGuard]
   simp only [execOp, Sem.run_bind, hp, he, hgd, Result.andThen_ok, run_neq_held_nil w t1 tt u ht, Sem.run_pure, Bool.not_false]
end
/- The law frame: whatever comes in of plain types, opened at once. No condition. -/
/-- The value of a type that has such cells. -/
def pack (P : Program) (t : TypeId) (cs : List AV) : AV :=
 match P.underlying t with
 | some (.struct _) | some (.array _ _) => .agg cs
 | _ => cs.headD .junk
def TyF (P : Program) (R : TypeId → List AV → Prop) : List TypeId → List AV → Prop
 | [], cs => cs = []
 | t :: ts, cs => ∃ a b, cs = a ++ b ∧ a.length = P.cellsOf t ∧ R t a ∧ TyF P R ts b
/-- Cells of a value of a plain type, so deep. -/
def Ty (P : Program) : Nat → TypeId → List AV → Prop
 | 0, _, _ => False
 | n + 1, t, cs =>
  match P.underlying t with
  | some .bool => ∃ b, cs = [.bool b]
  | some (.int k) => ∃ m, cs = [.int k m] ∧ (Lit.int k m).wf = true
  | some .string => ∃ s : List UInt8, cs = [.str s] ∧ s.length ≤ reachBytes
  | some (.slice e) => ∃ css : List (List AV), cs = [.sl (css.map (pack P e))] ∧ css.length * P.bytesOf e ≤ reachBytes ∧ ∀ c ∈ css, Ty P n e c
  | some (.struct fs) => TyF P (Ty P n) (fs.toList.map (·.type)) cs
  | some (.array m e) => TyF P (Ty P n) (List.replicate m e) cs
  | _ => False
/-- Fields lie one behind the other. -/
def tiles (P : Program) : List Field → Nat → Nat → Bool
 | [], o, n => o == n
 | f :: fs, o, n => f.offset == o && tiles P fs (o + P.cellsOf f.type) n
def plainT (P : Program) (S : List TypeId) (t : TypeId) : Bool :=
 match P.underlying t with
 | some .bool | some (.int _) | some .string => P.cellsOf t == 1
 | some (.slice e) => P.cellsOf t == 1 && S.contains e && decide (0 < P.cellsOf e)
 | some (.struct fs) => (fs.toList.all fun f => S.contains f.type) && tiles P fs.toList 0 (P.cellsOf t)
 | some (.array n e) => S.contains e && P.cellsOf t == n * P.cellsOf e
 | _ => false
section
variable {H : Type} {enc : TypeId × Value → H} {P : Program} {W : World}
def Stands (W : World) (cs : List Value) (acs : List AV) : Prop := acs.length = cs.length ∧ ∀ (j : Nat) c, acs[j]? = some c → c.flat = true ∧ V (gh0 W) (cs.getD j undef) c
theorem Stands.one {v : Value} {a : AV} (hf : a.flat = true) (h : V (gh0 W) v a) : Stands W [v] [a] :=
 ⟨rfl, fun j c hc => by
  match j, hc with
  | 0, hc => cases hc; exact ⟨hf, h⟩⟩
theorem Stands.app {a b : List Value} {x y : List AV} (h1 : Stands W a x) (h2 : Stands W b y) : Stands W (a ++ b) (x ++ y) := by
 refine ⟨by simp [h1.1, h2.1], fun j c hc => ?_⟩
 by_cases hj : j < x.length
 ·rw [List.getElem?_append_left hj] at hc
  have := h1.2 j c hc
  rwa [List.getD_eq_getElem?_getD, List.getElem?_append_left (by rw [← h1.1]; exact hj), ← List.getD_eq_getElem?_getD]
 ·rw [List.getElem?_append_right (by omega)] at hc
  have := h2.2 _ c hc
  rwa [List.getD_eq_getElem?_getD, List.getElem?_append_right (by rw [← h1.1]; omega), ← List.getD_eq_getElem?_getD, ← h1.1]
theorem pack_cells {S : List TypeId} {t : TypeId} {cs : List Value} {acs : List AV} (h : Stands W cs acs) (hc : cs.length = P.cellsOf t) (hp : plainT P S t = true) : (pack P t acs).cells = acs ∧ ∀ vs, pack P t acs ≠ .tup vs := by
 unfold pack
 unfold plainT at hp
 split
 ·exact ⟨rfl, fun _ h => by cases h⟩
 ·exact ⟨rfl, fun _ h => by cases h⟩
 ·have h1 : P.cellsOf t = 1 := by
   split at hp <;> simp_all
  obtain ⟨h2, h3⟩ := h
  match acs, h2 with
  | [a], _ =>
   have hf := (h3 0 a rfl).1
   exact ⟨AV.cells_flat hf, fun vs e => by simp at e; subst e; simp [AV.flat] at hf⟩
  | [], h2 => simp at h2; omega
  | _ :: _ :: _, h2 => simp at h2; omega
theorem weightsAll_mem {P : Program} {e : TypeId} : ∀ {l : List (DataW H)} {d : DataW H} {n : Nat}, d ∈ l → n ∈ d.weights P e → n ∈ DataW.weightsAll P e l
 | x :: l, d, n, hd, hn => by
  simp only [DataW.weightsAll, List.mem_append]
  rcases List.mem_cons.1 hd with rfl | hd
  ·exact .inl hn
  ·exact .inr (weightsAll_mem hd hn)
/-- WHATEVER COMES IN OF A PLAIN TYPE. -/
theorem open_trod (S : List TypeId) (hS : S.all (plainT P S) = true) : ∀ (n : Nat) (t : TypeId) (cs : List Value) (y : DataW H × List MemPlace), t ∈ S → DataW.trod enc P W 0 (fun _ => true) true n t cs = some y → (∀ k ∈ y.1.weights P t, k ≤ reachBytes) →
  cs.length = P.cellsOf t ∧ ∃ acs, Stands W cs acs ∧ Ty P n t acs
 | 0, _, _, _, _, h, _ => by simp [DataW.trod] at h
 | n + 1, t, cs, y, ht, h, hw => by
  have hp := List.all_eq_true.1 hS t ht
  have hp0 := hp
  unfold plainT at hp
  split at hp
  ·rename_i hu
   obtain ⟨b, rfl, _⟩ := DataW.trod_bool hu h
   exact ⟨by simpa using (eq_of_beq hp).symm, [.bool b], Stands.one rfl (.bool b), by unfold Ty; rw [hu]; exact ⟨b, rfl⟩⟩
  ·rename_i k hu
   obtain ⟨m, rfl, _, hwf⟩ := DataW.trod_int hu h
   exact ⟨by simpa using (eq_of_beq hp).symm, [.int k m], Stands.one rfl (.int k m), by unfold Ty; rw [hu]; exact ⟨m, rfl, hwf⟩⟩
  ·rename_i hu
   obtain ⟨s, rfl, rfl, _⟩ := DataW.trod_string hu h
   have hw' : s.data.toList.length ≤ reachBytes := hw _ (by simp [DataW.weights])
   refine ⟨by simpa using (eq_of_beq hp).symm, [.str s.data.toList], Stands.one rfl ?_, by unfold Ty; rw [hu]; exact ⟨_, rfl, hw'⟩⟩
   have := V.str (G := gh0 W) s.data.toList
   rwa [← str_arr] at this
  ·rename_i e hu
   simp only [Bool.and_eq_true, decide_eq_true_eq, List.contains_iff_mem] at hp
   obtain ⟨⟨hp1, hp2⟩, hp3⟩ := hp
   rcases DataW.trod_slice hu h with ⟨rfl, _⟩ | ⟨a, len, cap, elems, rest, n', hn, rfl, hy, _, hl, hm, hlen, hel, _, _⟩
   ·exact ⟨by simpa using (eq_of_beq hp1).symm, [.sl []], Stands.one rfl (.slE _ _), by unfold Ty; rw [hu]; exact ⟨[], rfl, by simp, by simp⟩⟩
   ·cases hn
    rw [hy] at hw
    simp only [DataW.weights, hu] at hw
    have hwl := hw _ (List.mem_cons_self ..)
    have each : ∀ i, i < len → ∃ q : List AV × List Value, q.2.length = P.cellsOf e ∧ Stands W q.2 q.1 ∧ Ty P n e q.1 ∧ ∀ j, j < P.cellsOf e → W.cell? ((a.add (i * P.cellsOf e)).add j) = q.2[j]? := by
     intro i hi
     have h1 := hel i hi
     rw [List.getElem?_eq_getElem (by omega)] at h1
     obtain ⟨cs', h2, h3⟩ := Option.bind_eq_some_iff.1 h1
     obtain ⟨_, h4, h5⟩ := World.cells?_some h2
     obtain ⟨_, acs, h6, h7⟩ := open_trod S hS n e cs' _ hp2 h3 (fun k hk => hw k (List.mem_cons_of_mem _ (List.mem_append.2 (.inl (weightsAll_mem (List.mem_map.2 ⟨_, List.getElem_mem (show i < elems.length by omega), rfl⟩) hk)))))
     exact ⟨(acs, cs'), h4, h6, h7, h5⟩
    obtain ⟨q, hq⟩ : ∃ q : Nat → List AV × List Value, ∀ i, i < len → (q i).2.length = P.cellsOf e ∧ Stands W (q i).2 (q i).1 ∧ Ty P n e (q i).1 ∧ ∀ j, j < P.cellsOf e → W.cell? ((a.add (i * P.cellsOf e)).add j) = (q i).2[j]? :=
     ⟨fun i => if h : i < len then (each i h).choose else ([], []), fun i hi => by simp only [dif_pos hi]; exact (each i hi).choose_spec⟩
    let css : List (List AV) := (List.range len).map fun i => (q i).1
    let l : List AV := css.map (pack P e)
    have hll : l.length = len := by simp [l, css]
    have hg : ∀ (i : Nat) x, l[i]? = some x → i < len ∧ x = pack P e (q i).1 := by
     intro i x hx
     have hi : i < len := by have := (List.getElem?_eq_some_iff.1 hx).1; omega
     simp only [l, css, List.map_map, List.getElem?_map, List.getElem?_range hi, Option.map_some, Function.comp] at hx
     cases hx; exact ⟨hi, rfl⟩
    have hpk : ∀ i, i < len → (pack P e (q i).1).cells = (q i).1 := fun i hi => (pack_cells (hq i hi).2.1 (hq i hi).1 (List.all_eq_true.1 hS e hp2)).1
    refine ⟨by simpa using (eq_of_beq hp1).symm, [.sl l], Stands.one rfl ?_, ?_⟩
    ·by_cases h0 : len = 0
     ·have : l = [] := List.length_eq_zero_iff.1 (by omega)
      rw [this, h0]; exact .slE _ _
     ·have hsp : a.spot = none := by
       obtain ⟨h1, h2, _, h4⟩ := hq 0 (by omega)
       have := h4 0 hp3
       rw [List.getElem?_eq_getElem (by omega)] at this
       have := cell_spot this
       simpa [Addr.add] using this
      obtain ⟨b, o, sp⟩ := a
      simp only at hsp
      subst hsp
      have key : V (gh0 W) (.slice (some ⟨b, o, none⟩) l.length cap) (.sl l) := by
       refine V.slN b o cap (P.cellsOf e) l (fun i j => (q i).2.getD j undef) (by omega) ?_ ?_ ?_ ?_
       ·intro i x hx
        obtain ⟨hi, rfl⟩ := hg i x hx
        rw [hpk i hi, (hq i hi).2.1.1, (hq i hi).1]
       ·intro i x j c hx hj
        obtain ⟨hi, rfl⟩ := hg i x hx
        rw [hpk i hi] at hj
        have hj' : j < P.cellsOf e := by have := (List.getElem?_eq_some_iff.1 hj).1; rw [(hq i hi).2.1.1, (hq i hi).1] at this; exact this
        have := (hq i hi).2.2.2 j hj'
        rw [Addr.add_lit, Addr.add_lit] at this
        rw [List.getElem?_eq_getElem (by rw [(hq i hi).1]; exact hj')] at this
        rw [List.getD_eq_getElem?_getD, List.getElem?_eq_getElem (by rw [(hq i hi).1]; exact hj')]
        simpa [gh0] using this
       ·intro i x j c hx hj
        obtain ⟨hi, rfl⟩ := hg i x hx
        rw [hpk i hi] at hj
        exact ((hq i hi).2.1.2 j c hj).1
       ·intro i x j c hx hj
        obtain ⟨hi, rfl⟩ := hg i x hx
        rw [hpk i hi] at hj
        exact ((hq i hi).2.1.2 j c hj).2
      rw [hll] at key
      exact key
    ·unfold Ty
     rw [hu]
     refine ⟨css, rfl, ?_, fun c hc => ?_⟩
     ·have hcl : css.length = len := by simp [css]
      rw [hcl]
      refine Nat.le_trans (Nat.mul_le_mul_right _ ?_) hwl
      rw [List.length_map, List.length_map, hlen]; omega
     obtain ⟨i, hi, rfl⟩ := List.mem_map.1 hc
     exact (hq i (by simpa using hi)).2.2.1
  ·rename_i fs hu
   simp only [Bool.and_eq_true, List.all_eq_true, List.contains_iff_mem] at hp
   obtain ⟨hp1, hp2⟩ := hp
   obtain ⟨xs, n', hn, hy, hl, hlen, hf⟩ := DataW.trod_struct hu h
   cases hn
   rw [hy] at hw
   simp only [DataW.weights, hu] at hw
   have key : ∀ (l : List Field) (o : Nat) (cs : List Value), (∀ f ∈ l, f.type ∈ S) → tiles P l o (o + cs.length) = true → (∀ f ∈ l, o ≤ f.offset → ∃ y, DataW.trod enc P W 0 (fun _ => true) true n f.type ((cs.drop (f.offset - o)).take (P.cellsOf f.type)) = some y ∧ ∀ k ∈ y.1.weights P f.type, k ≤ reachBytes) →
     ∃ acs, Stands W cs acs ∧ TyF P (Ty P n) (l.map (·.type)) acs := by
    intro l
    induction l with
    | nil =>
     intro o cs _ ht _
     have : cs = [] := List.length_eq_zero_iff.1 (by simp only [tiles, beq_iff_eq] at ht; omega)
     subst this
     exact ⟨[], ⟨rfl, by simp⟩, rfl⟩
    | cons f l ih =>
     intro o cs hin ht hx
     simp only [tiles, Bool.and_eq_true, beq_iff_eq] at ht
     obtain ⟨ho, ht⟩ := ht
     obtain ⟨y, hy, hyw⟩ := hx f (by simp) (by omega)
     rw [ho, Nat.sub_self, List.drop_zero] at hy
     obtain ⟨h1, a, h2, h3⟩ := open_trod S hS n f.type _ y (hin f (by simp)) hy hyw
     rw [List.length_take] at h1
     have hle : ∀ (l : List Field) (o m : Nat), tiles P l o m = true → (∀ g ∈ l, o ≤ g.offset) := by
      intro l
      induction l with
      | nil => intro o m _ g hg; cases hg
      | cons g' l ih2 =>
       intro o m hm g hg
       simp only [tiles, Bool.and_eq_true, beq_iff_eq] at hm
       rcases List.mem_cons.1 hg with rfl | hg
       ·omega
       ·have := ih2 _ _ hm.2 g hg; omega
     obtain ⟨b, h4, h5⟩ := ih (o + P.cellsOf f.type) (cs.drop (P.cellsOf f.type)) (fun g hg => hin g (by simp [hg])) (by rw [List.length_drop, show o + P.cellsOf f.type + (cs.length - P.cellsOf f.type) = o + cs.length by omega]; exact ht) (fun g hg hog => by
      obtain ⟨y2, hy2, hyw2⟩ := hx g (by simp [hg]) (by omega)
      refine ⟨y2, ?_, hyw2⟩
      rw [List.drop_drop, show P.cellsOf f.type + (g.offset - (o + P.cellsOf f.type)) = g.offset - o by omega]
      exact hy2)
     refine ⟨a ++ b, ?_, a, b, rfl, by rw [h2.1, List.length_take]; exact h1, h3, h5⟩
     have := h2.app h4
     rwa [List.take_append_drop] at this
   refine ⟨hl, ?_⟩
   obtain ⟨acs, h1, h2⟩ := key fs.toList 0 cs (fun f hf => hp1 f hf) (by rw [Nat.zero_add, hl]; exact hp2) (fun f hf' _ => by
    obtain ⟨i, hi⟩ := List.mem_iff_getElem?.1 hf'
    have hi' : fs[i]? = some f := by simpa using hi
    have h3 := hf i f hi'
    have hlt : i < xs.length := by rw [hlen]; exact (Array.getElem?_eq_some_iff.1 hi').1
    refine ⟨xs[i], by rw [Nat.sub_zero, h3, List.getElem?_eq_getElem hlt], fun k hk => hw k (DataW.weights_mem_each (j := i) (t := f.type) (d := xs[i].1) ?_ ?_ k hk)⟩
    ·rw [List.getElem?_map, hi]; rfl
    ·rw [List.getElem?_map, List.getElem?_eq_getElem hlt]; rfl)
   exact ⟨acs, h1, by unfold Ty; rw [hu]; exact h2⟩
  ·rename_i m e hu
   simp only [Bool.and_eq_true, List.contains_iff_mem, beq_iff_eq] at hp
   obtain ⟨hp1, hp2⟩ := hp
   obtain ⟨xs, n', hn, hy, hl, hlen, hf⟩ := DataW.trod_array hu h
   cases hn
   rw [hy] at hw
   simp only [DataW.weights, hu] at hw
   have key : ∀ (k : Nat) (cs : List Value), cs.length = k * P.cellsOf e → (∀ i, i < k → ∃ y, DataW.trod enc P W 0 (fun _ => true) true n e ((cs.drop (i * P.cellsOf e)).take (P.cellsOf e)) = some y ∧ ∀ k ∈ y.1.weights P e, k ≤ reachBytes) →
     ∃ acs, Stands W cs acs ∧ TyF P (Ty P n) (List.replicate k e) acs := by
    intro k
    induction k with
    | zero =>
     intro cs hc _
     have : cs = [] := List.length_eq_zero_iff.1 (by omega)
     subst this
     exact ⟨[], ⟨rfl, by simp⟩, rfl⟩
    | succ k ih =>
     intro cs hc hx
     obtain ⟨y, hy, hyw⟩ := hx 0 (by omega)
     rw [Nat.zero_mul, List.drop_zero] at hy
     obtain ⟨h1, a, h2, h3⟩ := open_trod S hS n e _ y hp1 hy hyw
     obtain ⟨b, h4, h5⟩ := ih (cs.drop (P.cellsOf e)) (by rw [List.length_drop, hc, Nat.succ_mul]; omega) (fun i hi => by
      obtain ⟨y2, hy2, hyw2⟩ := hx (i + 1) (by omega)
      refine ⟨y2, ?_, hyw2⟩
      rw [List.drop_drop, show P.cellsOf e + i * P.cellsOf e = (i + 1) * P.cellsOf e by rw [Nat.succ_mul]; omega]
      exact hy2)
     refine ⟨a ++ b, ?_, a, b, rfl, by rw [h2.1]; exact h1, h3, h5⟩
     have := h2.app h4
     rwa [List.take_append_drop] at this
   obtain ⟨acs, h1, h2⟩ := key m cs (by rw [hl]; exact hp2) (fun i hi => by
    have h3 := hf i hi
    exact ⟨xs[i], by rw [h3, List.getElem?_eq_getElem (by omega)], fun k hk => hw k (weightsAll_mem (List.mem_map.2 ⟨_, List.getElem_mem (show i < xs.length by omega), rfl⟩) hk)⟩)
   exact ⟨hl, acs, h1, by unfold Ty; rw [hu]; exact h2⟩
  ·cases hp
/-- .. as an argument. -/
theorem open_arg (S : List TypeId) (hS : S.all (plainT P S) = true) {r : Reach} {b0 : Nat} {t : TypeId} {v : Value} {d : DataW H} {ps : List MemPlace} (ht : t ∈ S) (hval : Value.okWide P W r b0 t v)
  (hd : DataW.Trod enc P W 0 (fun _ => true) true t v d ps) (hw : ∀ k ∈ d.weights P t, k ≤ reachBytes) : ∃ acs n, V (gh0 W) v (pack P t acs) ∧ Ty P n t acs := by
 obtain ⟨n, hd⟩ := hd
 obtain ⟨hl, acs, h1, h2⟩ := open_trod S hS n t _ _ ht hd hw
 refine ⟨acs, n, ?_, h2⟩
 have hp := List.all_eq_true.1 hS t ht
 have agg : ∀ cs, v = .agg cs → V (gh0 W) v (.agg acs) := by
  rintro cs rfl
  exact .agg cs acs (by have := h1.1; simpa [Value.cells] using this.symm) (fun j c hc => (h1.2 j c hc).1) fun j c hc => by
   have := (h1.2 j c hc).2
   simpa [Value.cells, List.getD_eq_getElem?_getD] using this
 unfold pack
 split
 ·rename_i fs hu
  obtain ⟨cs, rfl, _⟩ := okWide_struct hu hval
  exact agg cs rfl
 ·rename_i m e hu
  have : ∃ cs, v = .agg cs := by unfold Value.okWide at hval; rw [hu] at hval; obtain ⟨cs, h, _⟩ := hval; exact ⟨cs, h⟩
  obtain ⟨cs, rfl⟩ := this
  exact agg cs rfl
 ·rename_i hn1 hn2
  have hone : ∀ u, v.cells.toList = [u] → u = v → V (gh0 W) v (acs.headD .junk) := by
   intro u hu e
   subst e
   obtain ⟨h3, h4⟩ := h1
   rw [hu] at h3 h4
   match acs, h3 with
   | [a], _ => exact (h4 0 a rfl).2
  unfold plainT at hp
  split at hp
  ·rename_i hu
   obtain ⟨b, h3, _⟩ := DataW.trod_bool hu hd
   refine hone _ h3 ?_
   cases v <;> simp_all [Value.cells]
   all_goals first | (rename_i x; obtain ⟨l⟩ := x; simp_all [Value.okWide]; done) | skip
   all_goals (unfold Value.okWide at hval; rw [hu] at hval; simp [Cell.okWide, hu, Cell.ok] at hval)
  ·rename_i k hu
   obtain ⟨m, h3, _⟩ := DataW.trod_int hu hd
   refine hone _ h3 ?_
   cases v <;> simp_all [Value.cells]
   all_goals (unfold Value.okWide at hval; rw [hu] at hval; simp [Cell.okWide, hu, Cell.ok] at hval)
  ·rename_i hu
   obtain ⟨s, rfl⟩ := okWide_string hu hval
   exact hone _ rfl rfl
  ·rename_i e hu
   obtain ⟨a, len, cap, rfl⟩ := okWide_slice hu hval
   exact hone _ rfl rfl
  ·rename_i fs hu; exact absurd hu (hn1 fs)
  ·rename_i m e hu; exact absurd hu (hn2 m e)
  ·cases hp
end
/- The program logic's rules: loops that change a few slots; what a loop over a slice is told by. No condition. -/
section
variable {P : Program} {N : Nat} {s : St} {Q : Exit → St → Prop}
/-- A LOOP that changes what 'upd' tells, and leaves 'rest'. -/
theorem Tri.loopk {c : Code} {α : Type} (upd : α → St) (rest : St) (I : α → Prop) (m : α → Nat) (a0 : α) (hs : s = upd a0 ++ rest) (h0 : I a0)
  (hb : ∀ a, I a → Tri P N c (upd a ++ rest) fun e s' => match e with | .normal => ∃ b, m b < m a ∧ I b ∧ s' = upd b ++ rest | e => Q e s') : Tri P N (.loop c) s Q := by
 refine Tri.loop (fun n t => ∃ a, m a = n ∧ I a ∧ t = upd a ++ rest) ?_ (n := m a0) ⟨a0, rfl, h0, hs⟩
 rintro n t ⟨a, rfl, ha, rfl⟩
 refine (hb a ha).mono fun e s' h => ?_
 cases e with
 | normal => obtain ⟨b, h1, h2, h3⟩ := h; exact ⟨m b, h1, b, rfl, h2, h3⟩
 | _ => exact h
/-- WAYS MEET: behind them the slots that 'upd' tells, the rest as it was. -/
theorem Tri.joinu {c d : Code} {α : Type} (cs : List Comp) (upd : α → St) (F : α → Prop) {rest : St} (hr : X.keep cs s cs = some rest) (h1 : Tri P N c s fun e s' => match e with | .normal => ∃ a, F a ∧ s' = upd a ++ rest | e => Q e s')
  (h2 : ∀ a, F a → Tri P N d (upd a ++ rest) Q) : Tri P N (.seq c d) s Q :=
 Tri.join (fun s' => ∃ a, F a ∧ s' = upd a ++ rest) h1 fun s' ⟨a, ha, e⟩ => e ▸ h2 a ha
/-- a slot's number, told in another way -/
theorem Kept.seti {Q : St → Prop} (n : Nat) {k : IntKind} {v v' : Int} (h : get s (.s n) = some (.sv (.v (.int k v)))) (e : v = v') (hq : Kept ((.s n, .sv (.v (.int k v'))) :: s) Q) : Kept s Q := fun E N a w ⟨G, L, hr⟩ => by
 subst e
 refine hq E N a w ⟨G, L, hr.ext fun c => ?_⟩
 simp only [get]
 split
 ·rename_i hc; subst hc; exact h.symm
 ·rfl
/-- the objects, told in another way -/
theorem Kept.seth {Q : St → Prop} {H H' : Hp} (h : get s .h = some (.hp H)) (e : H = H') (hq : Kept ((.h, .hp H') :: s) Q) : Kept s Q := fun E N a w ⟨G, L, hr⟩ => by
 subst e
 refine hq E N a w ⟨G, L, hr.ext fun c => ?_⟩
 simp only [get]
 split
 ·rename_i hc; subst hc; exact h.symm
 ·rfl
/-- a slot's value, told in another way -/
theorem Kept.setv {Q : St → Prop} (n : Nat) {v v' : AV} (h : get s (.s n) = some (.sv (.v v))) (e : v = v') (hq : Kept ((.s n, .sv (.v v')) :: s) Q) : Kept s Q := fun E N a w ⟨G, L, hr⟩ => by
 subst e
 refine hq E N a w ⟨G, L, hr.ext fun c => ?_⟩
 simp only [get]
 split
 ·rename_i hc; subst hc; exact h.symm
 ·rfl
end
theorem TriD.g3 {P : Program} {N : Nat} {ops : Array Oper} {l : List Oper} {s : St} {Q : St → Prop} {o : Oper} {R : List Comp} {A : List (List Nat)} {acc : List (List Comp × St)} {c c' c2 : Comp} {v u y : CV} {d : Nat} {b b' : Bool} (hg : gslot ops o = some (d, b)) (hN : d < N) (hc : get s (.s d) = some (.sv (.v (.bool b')))) (hb : b' = b) (ho : OpOK P N o s R [(c, v), (c', u), (c2, y)]) (h : TriD P N ops A Q (acc ++ [(.s d :: R, [(c, v), (c', u), (c2, y)])]) l ((c, v) :: (c', u) :: (c2, y) :: s)) : TriD P N ops A Q acc (o :: l) s := TriD.cons (StepOK.on hN hg (hb ▸ hc) ho) h
theorem fdiv_nat (a k : Nat) : ((a : Nat) : Int).fdiv (2 ^ k) = ((a / 2 ^ k : Nat) : Int) := by
 rw [Int.fdiv_eq_ediv_of_nonneg _ (by exact Int.le_of_lt (Int.pow_pos (by decide)))]
 norm_cast
section
variable {P : Program} {N : Nat} {s : St} {d : Nat} {ty : TypeId} {pos : String} {af : Array Edge} {g : Option (Nat × Bool)}
/-- a >> b of a number that is none below nought -/
theorem op_shr {t1 t2 : TypeId} {x y : Operand} {k k' : IntKind} {a : Nat} {b : Int} (hN : d < N) (hx : opv x s = some (.int k (a : Int))) (hy : opv y s = some (.int k' b)) (hb : 0 ≤ b) :
  OpOK P N ⟨some d, .binOp .shr t1 x y t2, ty, pos, af, g⟩ s (rd x ++ rd y) [(.s d, .sv (.v (.int k ((a / 2 ^ (min b.toNat k.bits) : Nat) : Int))))] :=
 op_bin hN hx hy (by
  show (if b < 0 then none else some (AV.int k (((a : Nat) : Int).fdiv (2 ^ (min b.toNat k.bits))))) = _
  rw [if_neg (by omega), fdiv_nat])
end
theorem Hp.set_set {H : Hp} {id : Nat} {a b : List Hc} : (H.set id a).set id b = H.set id b := by
 simp only [Hp.set]
 congr 1
 funext i
 split <;> rfl
theorem Hp.set_obj {H : Hp} {id : Nat} {hs : List Hc} : (H.set id hs).obj id = some hs := by simp [Hp.set]
theorem inc {n : Nat} (h : n < 9223372036854775807) : IntKind.i64.wrap ((n : Int) + 1) = ((n + 1 : Nat) : Int) := by
 simp only [IntKind.wrap, IntKind.bits, IntKind.signed]; simp; omega
theorem ltm {α β : Type} {f : α → β} {xs : List α} {i : Nat} (h : decide ((i : Int) < ((xs.map f).length : Int)) = true) : i < xs.length := by
 have := of_decide_eq_true h; rw [List.length_map] at this; omega
theorem gem {α β : Type} {f : α → β} {xs : List α} {i : Nat} (h : decide ((i : Int) < ((xs.map f).length : Int)) = false) : xs.length ≤ i := by
 have := of_decide_eq_false h; rw [List.length_map] at this; omega
theorem ixm {α β : Type} {f : α → β} {xs : List α} {i : Nat} (h : i < xs.length) : (xs.map f)[((i : Nat) : Int).toNat]? = some (f xs[i]) := by
 simp [h]
theorem lts {xs : List UInt8} {i : Nat} (h : decide ((i : Int) < (xs.length : Int)) = true) : i < xs.length := by
 have := of_decide_eq_true h; omega
theorem ges {xs : List UInt8} {i : Nat} (h : decide ((i : Int) < (xs.length : Int)) = false) : xs.length ≤ i := by
 have := of_decide_eq_false h; omega
theorem ixs {xs : List UInt8} {i : Nat} (h : i < xs.length) : xs[((i : Nat) : Int).toNat]? = some xs[i] := by
 simp [h]
theorem ltz {i n : Nat} (h : decide ((i : Int) < (n : Int)) = true) : i < n := by
 have := of_decide_eq_true h; omega
theorem gez {i n : Nat} (h : decide ((i : Int) < (n : Int)) = false) : n ≤ i := by
 have := of_decide_eq_false h; omega
theorem ixm1 {α β : Type} {f : α → β} {xs : List α} {i : Nat} {j : Int} (hj : j = (i : Int)) (h : i < xs.length) : (xs.map f)[j.toNat]? = some (f xs[i]) := by
 subst hj; simp [h]
theorem dec1 {i : Nat} (h : 0 < i) (h2 : i ≤ 9223372036854775807) : IntKind.i64.wrap ((i : Int) - 1) = ((i - 1 : Nat) : Int) := by
 simp only [IntKind.wrap, IntKind.bits, IntKind.signed]; simp; omega
/- The program logic's rules: a local box is known for ever from now on; maps of one's own. No condition. -/
section
variable {N : Nat} {s : St}
def fzbSv (k : Nat) (cs : List AV) : Sv → Sv
 | .lp j o => if j = k then .v (.kp (cs.drop o)) else .lp j o
 | x => x
def fzbCV (k : Nat) (cs : List AV) : CV → CV
 | .sv x => .sv (fzbSv k cs x)
 | v => v
/-- the slots that point into a box that is written no more -/
def fzb (k : Nat) (cs : List AV) : St → St
 | [] => []
 | (c, v) :: s => (c, (if c = .b k then .gone else fzbCV k cs v)) :: fzb k cs s
theorem get_fzb {k : Nat} {cs : List AV} : ∀ {s : St} (c : Comp), get (fzb k cs s) c = (get s c).map (fun v => if c = .b k then .gone else fzbCV k cs v)
 | [], c => by simp [fzb, get]
 | (d, v) :: s, c => by
  simp only [fzb, get]
  split
  ·rename_i e; subst e; rfl
  ·exact get_fzb c
theorem Rel.fzb {E : Ent} {G : Gh} {L : Loc} {a : Act} {w : World} (h : Rel E N G L a w s) {k : Nat} {l : List Sv} {cs : List AV} (hk : get s (.b k) = some (.bx l)) (hcs : svavs l = some cs) : ∃ G', Rel E N G' L a w (fzb k cs s) := by
 obtain ⟨blk, o, hb, hbase, hh, ⟨arr, el, rfl, hsz, hc⟩, hno, _⟩ := h.box k _ hk rfl
 have hmine : owns s L (.b k) blk := ⟨⟨_, hk, rfl⟩, hb⟩
 obtain ⟨hl1, hl2⟩ := svavs_get hcs
 let G' := G.add blk arr.toList
 have hle : G.le G' := Gh.add_le (fun o v e => by rw [hno o] at e; cases e)
 have hcell : ∀ (j : Nat) c, cs[j]? = some c → c.flat = true ∧ V G (arr.getD j undef) c := fun j c e => by
  obtain ⟨y, hy, hav⟩ := hl2 j c e
  exact ⟨av_flat (hc j y hy).1 hav, (hc j y hy).2.av hav⟩
 have hkn2 : ∀ c j, c ≠ blk → G'.kn c j = G.kn c j := fun c j e => by simp [G', Gh.add, e]
 have hg := fun c => get_fzb (k := k) (cs := cs) (s := s) c
 have hsv : ∀ v x, SV G L v x → SV G' L v (fzbSv k cs x) := by
  intro v x hv
  cases x with
  | lp j n =>
   simp only [fzbSv]
   split
   ·rename_i e; subst e
    obtain ⟨b2, h1, rfl⟩ := hv
    rw [hb] at h1; cases h1
    refine V.kp blk n (cs.drop n) (fun j => arr.getD (n + j) undef) (fun j c e => ?_) (fun j c e => ?_) (fun j c e => ?_)
    ·rw [List.getElem?_drop] at e
     have hlt : n + j < arr.size := by have := (List.getElem?_eq_some_iff.1 e).1; omega
     rw [add_kn, Array.getElem?_toList, Array.getElem?_eq_getElem hlt, Array.getD_eq_getD_getElem?, Array.getElem?_eq_getElem hlt]; rfl
    ·rw [List.getElem?_drop] at e; exact (hcell _ c e).1
    ·rw [List.getElem?_drop] at e; exact ((hcell _ c e).2).mono hle
   ·exact hv
  | v a => exact SV.mono hle hv
  | mv j o => exact hv
  | ow j ys => exact SV.mono hle hv
  | om j n => exact hv
  | ov j z l n => exact hv
  | ta j o => exact hv
  | mp j => exact hv
  | cd g b a => exact SV.mono hle hv
 have hlive : ∀ v, (fzbCV k cs v).live = v.live := by intro v; cases v <;> rfl
 have hown : ∀ c b, owns (X.fzb k cs s) L c b → c ≠ .b k ∧ owns s L c b := by
  intro c b hc
  cases c with
  | b j =>
   obtain ⟨⟨cv, g, hl⟩, hb'⟩ := hc
   rw [hg] at g
   obtain ⟨v, q1, q2⟩ := Option.map_eq_some_iff.1 g
   split at q2
   ·subst q2; cases hl
   ·rename_i e
    subst q2
    exact ⟨e, ⟨v, q1, by rw [← hlive]; exact hl⟩, hb'⟩
  | t j =>
   obtain ⟨⟨m, el, esz, ys, g⟩, v, hv, hb'⟩ := hc
   rw [hg] at g
   obtain ⟨v2, q1, q2⟩ := Option.map_eq_some_iff.1 g
   simp only [reduceCtorEq, if_false] at q2
   have hv2 : v2 = .tk m el esz ys := by cases v2 <;> simp [fzbCV] at q2 <;> first | exact q2 | (obtain ⟨rfl, rfl, rfl, rfl⟩ := q2; rfl)
   subst hv2
   exact ⟨by simp, ⟨_, _, _, _, q1⟩, v, hv, hb'⟩
  | s n => exact hc.elim
  | h => exact hc.elim
 have hneb : ∀ c b, owns (X.fzb k cs s) L c b → b ≠ blk := by
  rintro c b hc rfl
  obtain ⟨h1, h2⟩ := hown c _ hc
  exact h1 (h.disj c (.b k) _ h2 hmine)
 obtain ⟨H0, gH, hokH, hmayH⟩ := h.heap
 have hfb : ∀ c, foot G H0 w c → c ≠ blk := fun c hc e => h.hdisj _ _ hmine H0 gH (e ▸ hc)
 have hst := hokH.stay (w' := w) hle rfl (fun c hc o => (hkn2 c o (hfb c hc)).trans ((hokH.foot hc).2 o)) (fun c hc => rfl) (Nat.le_refl _)
 have hgh : ∀ H2, get (X.fzb k cs s) .h = some (.hp H2) → get s .h = some (.hp H2) := by
  intro H2 g2
  rw [hg] at g2
  obtain ⟨v, q1, q2⟩ := Option.map_eq_some_iff.1 g2
  simp only [reduceCtorEq, if_false] at q2
  have hv2 : v = .hp H2 := by cases v <;> simp [fzbCV] at q2; exact congrArg _ q2
  rw [hv2] at q1; exact q1
 refine ⟨G', h.size, h.defs, h.ge, ?_, ?_, h.obs, h.obn, h.fr, ?_, ?_, ?_, fun c d b hc hd => h.disj c d b (hown _ _ hc).2 (hown _ _ hd).2, ⟨H0, by rw [hg]; simp [gH, fzbCV], hst.1, fun b hb => hmayH b ((hst.2 b).1 hb)⟩, fun c b hc H2 g2 e2 => ?_, ?_, ?_⟩
 ·intro b j v e
  by_cases eb : b = blk
  ·subst eb
   rw [add_kn] at e
   rw [cell_of_row w b j arr el (0, 0) hh]
   simpa using e
  ·rw [hkn2 b j eb] at e; exact h.kn b j v e
 ·intro b j hlt hm
  rw [hkn2 b j (fun e => by
   subst e
   rcases hbase with e | e
   ·omega
   ·exact hm e)]
  exact h.old b j hlt hm
 ·intro n x g
  rw [hg] at g
  obtain ⟨v, q1, q2⟩ := Option.map_eq_some_iff.1 g
  simp only [reduceCtorEq, if_false] at q2
  cases v <;> simp [fzbCV] at q2
  subst q2
  exact hsv _ _ (h.slot n _ q1)
 ·intro j cv g hl
  rw [hg] at g
  obtain ⟨v, q1, q2⟩ := Option.map_eq_some_iff.1 g
  split at q2
  ·subst q2; cases hl
  ·rename_i e
   subst q2
   rw [hlive] at hl
   have hne : ∀ b2, L.box j = some b2 → b2 ≠ blk := by
    rintro b2 p1 rfl
    exact e (h.disj (.b j) (.b k) _ ⟨⟨v, q1, hl⟩, p1⟩ hmine)
   have e1 : fzbCV k cs v = v := by cases v <;> first | rfl | cases hl
   rw [e1]
   exact (h.box j v q1 hl).stay hle (fun _ _ e => .inl e) (fun _ _ => rfl) (fun b2 p1 o => hkn2 b2 o (hne b2 p1))
 ·intro j m el' esz' ys g
  rw [hg] at g
  obtain ⟨v2, q1, q2⟩ := Option.map_eq_some_iff.1 g
  simp only [reduceCtorEq, if_false] at q2
  have hv2 : v2 = .tk m el' esz' ys := by cases v2 <;> simp [fzbCV] at q2 <;> first | exact q2 | (obtain ⟨rfl, rfl, rfl, rfl⟩ := q2; rfl)
  subst hv2
  refine (h.tok j m el' esz' ys q1).stay hle (fun _ _ e => .inl e) (fun _ _ _ _ => rfl) (fun v b2 hv hb2 o => hkn2 b2 o ?_)
  rintro rfl
  have := h.disj (.t j) (.b k) _ ⟨⟨_, _, _, _, q1⟩, v, hv, hb2⟩ hmine
  cases this
 ·have := hgh H2 g2
  rw [gH] at this; cases this
  have e3 := (hst.2 b).1 e2
  exact h.hdisj c b (hown _ _ hc).2 _ gH e3
 ·intro j g
  rw [hg] at g
  exact h.nobox j (by simpa using g)
 ·intro j g
  rw [hg] at g
  exact h.notok j (by simpa using g)
theorem Kept.fzb {Q : St → Prop} (k : Nat) {l : List Sv} {cs : List AV} (hk : get s (.b k) = some (.bx l)) (hcs : svavs l = some cs) (h : Kept (X.fzb k cs s) Q) : Kept s Q := fun E N a w ⟨G, L, hr⟩ => by
 obtain ⟨G', hr'⟩ := hr.fzb hk hcs
 exact h E N a w ⟨G', L, hr'⟩
end
/-! ### arrays as values -/
section
variable {P : Program} {N : Nat} {s : St} {d : Nat} {ty : TypeId} {pos : String} {af : Array Edge} {g : Option (Nat × Bool)}
/-- An array type: how many elements, of which type, and how many cells one has. -/
def asz (P : Program) (t : TypeId) : Option (Nat × TypeId × Nat) :=
 match P.underlying t with
 | some (.array n e) => (P.info? e).map fun i => (n, e, i.size)
 | _ => none
theorem op_blda {t1 : TypeId} {ps : List (Nat × Operand)} {n sz : Nat} {e : TypeId} {zs : List AV} {qs : List (Nat × AV)} {r : List AV} (hN : d < N) (ht : asz P t1 = some (n, e, sz)) (hz : zeroA P t1 = some zs) (hq : opps ps s = some qs) (hf : afill (fun i => some (i * sz, sz)) zs qs = some r) :
  OpOK P N ⟨some d, .build t1 ps.toArray, ty, pos, af, g⟩ s (rds (ps.map (·.2))) [(.s d, .sv (.v (.agg r)))] :=
 OpOK.val rfl hN fun E G L a w t hr hR => by
  have hparts := opps_sound hr hR hq
  obtain ⟨i, z, hi, hzz, hrow0⟩ := zeroA_row hz
  have hrow := hrow0 G
  obtain ⟨arr', hfill, hrow'⟩ := fill_row hparts hrow hf
  unfold asz at ht
  split at ht
  ·rename_i n' e' hu
   obtain ⟨ie, hie, e2⟩ := Option.map_eq_some_iff.1 ht
   cases e2
   refine ⟨.agg arr', ?_, V.agg _ _ hrow'.1 (fun j c e => (hrow'.2 j c e).1) (fun j c e => (hrow'.2 j c e).2)⟩
   have hfill' : Instr.fill (fun i => some (i * ie.size, ie.size)) z.cells (List.map (fun (x : Nat × Operand) => (x.1, a.eval x.2)) ps) = some arr' := by
    simpa using hfill
   simp only [execOp, Instr.build, Sem.run_bind, zeroValue, sizeOf, typeInfo, run_program, Result.andThen_ok, hi, hie, Sem.run_pure, hzz, run_underlying hu, List.map_toArray]
   rw [hfill']
   rfl
  ·cases ht
theorem op_ixa {t1 : TypeId} {x i : Operand} {n : Nat} {e : TypeId} {cs : List AV} {k : IntKind} {j : Int} {c : AV} (hN : d < N) (ht : asz P t1 = some (n, e, 1)) (hl : lk P e = some (false, 1)) (hx : opv x s = some (.agg cs)) (hi : opv i s = some (.int k j)) (h0 : 0 ≤ j) (h1 : j < n) (hc : cs[j.toNat]? = some c) :
  OpOK P N ⟨some d, .index t1 x i, ty, pos, af, g⟩ s (rd x ++ rd i) [(.s d, .sv (.v c))] :=
 OpOK.val rfl hN fun E G L a w t hr hR => by
  have hv := opv_sound hr hR.left hx
  have hn := V_int (opv_sound hr hR.right hi)
  unfold asz at ht
  split at ht
  ·rename_i n' e' hu
   obtain ⟨ie, hie, e2⟩ := Option.map_eq_some_iff.1 ht
   simp only [Prod.mk.injEq] at e2
   obtain ⟨rfl, rfl, h1s⟩ := e2
   generalize hav : a.eval x = u at hv
   cases hv with
   | agg vs _ hsz hf hvv =>
    have hlt : j.toNat < vs.size := by rw [hsz]; exact (List.getElem?_eq_some_iff.1 hc).1
    refine ⟨vs.getD j.toNat undef, ?_, hvv _ c hc⟩
    obtain ⟨ha, _⟩ := lk_run hl w
    have hp : (part e' vs (j.toNat * ie.size)).run P w = .ok (vs.getD j.toNat undef) w := by
     unfold part
     simp only [Sem.run_bind, ha, Result.andThen_ok, h1s, Nat.mul_one, Array.getElem?_eq_getElem hlt, Array.getD_eq_getD_getElem?]
     rfl
    simp [execOp, hav, hn, Instr.index, asIntOf, run_underlying hu, h0, h1, sizeOf, typeInfo, hie, hp]
  ·cases ht
end
/-! ### maps of one's own, of texts to whole numbers -/
section
open Go.Maps Go.MapKept
open Go.WideElems (Fit rd rg pl rd_val elemAt)
open Go.ChangeMaps (notKey putKey setBlock heap_setBlock_same heap_setBlock_other)
/-- The block is a map that answers so; it has not more than so many entries. -/
def MapSI (P : Program) (kt et : TypeId) (n : Nat) (f : List UInt8 → Int) (o : Obj) : Prop :=
 ∃ es clock, o = .map es clock ∧ Fit P kt (plainElem (H := Unit) P et) es clock ∧ es.size ≤ n ∧ ∀ key : List UInt8, (DataW.map ((es.toList.map (rg P kt (plainElem (H := Unit) P et))).foldr DataW.insert [])).atKey (.string key) (.lit (.int .i64 0)) = .lit (.int .i64 (f key))
theorem MapSI.owns {P : Program} {kt et : TypeId} {n : Nat} {f : List UInt8 → Int} {o : Obj} {w : World} {b : Nat} (h : MapSI P kt et n f o) (hb : w.heap[b]? = some o) :
  ∃ D : DataW Unit, w.ownsMap P kt (plainElem P et) b n D ∧ ∀ key : List UInt8, D.atKey (.string key) (.lit (.int .i64 0)) = .lit (.int .i64 (f key)) := by
 obtain ⟨es, clock, rfl, F, hs, hf⟩ := h
 exact ⟨_, ⟨es, clock, hb, F, hs, rfl⟩, hf⟩
theorem strkey {P : Program} {kt : TypeId} (hk : P.underlying kt = some .string) {key : List UInt8} (hl : key.length ≤ 9223372036854775807) : keyOf P kt (.string ⟨key.toArray⟩) = some (.string key) := by
 have hm : (⟨key.toArray⟩ : ByteArray).size ≤ maxLen := by simp [ByteArray.size, maxLen]; omega
 unfold keyOf
 rw [hk]
 simp only [mapKey, hk, hm, if_true]
section
variable {P : Program} {N : Nat} {s : St} {d : Nat} {ty : TypeId} {pos : String} {af : Array Edge} {g : Option (Nat × Bool)}
/-- make(map[string]int) -/
theorem op_mkm {t1 kt et : TypeId} (hN : d < N) (hk : get s (.b d) = none) :
  OpOK P N ⟨some d, .makeMap t1 none, ty, pos, af, g⟩ s [.b d] [(.s d, .sv (.mp d)), (.b d, .raw (MapSI P kt et 0 fun _ => 0))] := by
 intro t hR E G L a w hr K Q hK
 have hk' : get t (.b d) = none := by rw [hR (.b d) (by simp)]; exact hk
 have hm : MapSI P kt et 0 (fun _ => 0) (.map #[] 0) := by
  refine ⟨#[], 0, rfl, ⟨by simp, stamped_empty 0, by simp⟩, Nat.le_refl _, fun key => rfl⟩
 have hr1 := hr.alloc d hk' (.map #[] 0) (.raw (MapSI P kt et 0 fun _ => 0)) rfl rfl hm
 unfold Oper.wp
 have he : (execOp a.eval ⟨some d, .makeMap t1 none, ty, pos, af, g⟩).run P w = .ok (.value (.map (some w.heap.size))) (w.alloc (.map #[] 0)) := by
  simp [execOp, Go.RowKit.run_makeMap, Option.map]
 rw [he]
 exact hK _ _ G _ (hr1.put d hN _ (.mp d) ⟨w.heap.size, by simp [Loc.setBox], rfl⟩)
/-- m[key] -/
theorem op_lku {t1 kt et : TypeId} {m x : Operand} {k n : Nat} {f : List UInt8 → Int} {key : List UInt8} (hN : d < N) (ht : P.underlying t1 = some (.map kt et)) (hkt : P.underlying kt = some .string) (he : P.underlying et = some (.int .i64)) (hz : ∀ w, (zeroValue et).run P w = .ok (.int .i64 0) w)
  (hx : opd m s = some (.mp k)) (hk : get s (.b k) = some (.raw (MapSI P kt et n f))) (hi : opv x s = some (.str key)) (hl : key.length ≤ 9223372036854775807) :
  OpOK P N ⟨some d, .lookup t1 m x false, ty, pos, af, g⟩ s (rd m ++ (rd x ++ [.b k])) [(.s d, .sv (.v (.int .i64 (f key))))] := by
 intro t hR E G L a w hr K Q hK
 obtain ⟨blk, hb, hv⟩ := opd_sound hr hR.left hx
 have hi' := (opv_sound hr hR.right.left hi).str_eq
 have hk' : get t (.b k) = some (.raw (MapSI P kt et n f)) := by rw [hR (.b k) (by simp)]; exact hk
 obtain ⟨blk', o, hb', hbase, hh, ho, hno⟩ := hr.box k _ hk' rfl
 rw [hb] at hb'; cases hb'
 have ho' : MapSI P kt et n f o := ho
 obtain ⟨D, hown, hD⟩ := ho'.owns hh
 obtain ⟨c, hrun, hat, _⟩ := hown.lookup_int (string_keyed hkt) ht he (hz w) (strkey hkt hl)
 rw [hD] at hat
 obtain rfl : f key = c := by injection hat with h; injection h
 unfold Oper.wp
 have hex : (execOp a.eval ⟨some d, .lookup t1 m x false, ty, pos, af, g⟩).run P w = .ok (.value (.int .i64 (f key))) w := by
  simp [execOp, hv, hi', hrun, Result.andThen]
 rw [hex]
 exact hK _ _ G L (hr.put d hN _ (.v (.int .i64 (f key))) (.int _ _))
/-- m[key] = v -/
theorem op_mpu {t1 kt et : TypeId} {m x y : Operand} {k n : Nat} {f : List UInt8 → Int} {key : List UInt8} {v : Int} (ht : P.underlying t1 = some (.map kt et)) (hkt : P.underlying kt = some .string) (he : P.underlying et = some (.int .i64))
  (hx : opd m s = some (.mp k)) (hk : get s (.b k) = some (.raw (MapSI P kt et n f))) (hi : opv x s = some (.str key)) (hy : opv y s = some (.int .i64 v)) (hl : key.length ≤ 9223372036854775807) (hn : n < 9223372036854775807) (hw : (Lit.int .i64 v).wf = true) :
  OpOK P N ⟨none, .mapUpdate t1 m x y, ty, pos, af, g⟩ s (rd m ++ (rd x ++ (rd y ++ [.b k]))) [(.b k, .raw (MapSI P kt et (n + 1) fun l => if l = key then v else f l))] := by
 intro t hR E G L a w hr K Q hK
 obtain ⟨blk, hb, hv⟩ := opd_sound hr hR.left hx
 have hi' := (opv_sound hr hR.right.left hi).str_eq
 have hy' := (opv_sound hr hR.right.right.left hy).int_eq
 have hk' : get t (.b k) = some (.raw (MapSI P kt et n f)) := by rw [hR (.b k) (by simp)]; exact hk
 obtain ⟨blk', o, hb', hbase, hh, ho, hno⟩ := hr.box k _ hk' rfl
 rw [hb] at hb'; cases hb'
 have ho' : MapSI P kt et n f o := ho
 obtain ⟨es, clock, rfl, F, hs, hD⟩ := ho'
 have hroom : es.size < maxLen := by unfold maxLen; omega
 have hkey := strkey hkt hl
 have hR1 : plainElem (H := Unit) P et (.int .i64 v) = some (.lit (.int .i64 v), []) := plainElem_int he hw
 obtain ⟨es', clock', hrun, F', hput, _⟩ := Maps.fit_store (R' := plainElem (H := Unit) P et) (string_keyed hkt) ht hh F hroom (fun _ _ _ _ hz => hz) hkey hR1
 have hsz : es'.size ≤ n + 1 := by
  have e1 : es'.size = ((es'.toList.map (rg P kt (plainElem (H := Unit) P et))).foldr DataW.insert []).length := by rw [length_sorted]; simp
  rw [e1, hput]
  unfold putKey
  rw [length_insert]
  have e2 := List.length_filter_le (notKey (.string key)) ((es.toList.map (rg P kt (plainElem (H := Unit) P et))).foldr DataW.insert [])
  rw [length_sorted] at e2
  simp at e2
  omega
 have hm : MapSI P kt et (n + 1) (fun l => if l = key then v else f l) (.map es' clock') := by
  refine ⟨es', clock', rfl, F', hsz, fun l => ?_⟩
  rw [hput, ← DataW.put_eq]
  by_cases hlk : l = key
  ·subst hlk
   rw [atKey_put_same (k := .string l) ⟨_, rfl⟩ (by simp [WideAt.IsKeyLit])]
   simp
  ·rw [atKey_put_other (by intro e; injection e with e; exact hlk e), hD]
   simp [hlk]
 have hlt := (Array.getElem?_eq_some_iff.1 hh).1
 have hr1 := hr.turn (w' := setBlock w blk (.map es' clock')) (cv := .raw (MapSI P kt et (n + 1) fun l => if l = key then v else f l)) hk' rfl rfl rfl hb (o := .map es' clock') hm rfl rfl rfl (by simp [setBlock]) (fun j hj => heap_setBlock_other hh _ hj) (heap_setBlock_same hh _)
 unfold Oper.wp
 have hex : (execOp a.eval ⟨none, .mapUpdate t1 m x y, ty, pos, af, g⟩).run P w = .ok .skip (setBlock w blk (.map es' clock')) := by
  simp [execOp, hv, hi', hy', hrun, Result.andThen]
 rw [hex]
 exact hK _ _ G L hr1
end
end
/- The program logic's rules: a call that makes objects and lets go of them leaves all others as they were; a closure that turns objects. No condition. -/
/-- The objects that a value names are such. -/
inductive OpsIn (D : Nat → Prop) : AV → Prop where
 | bool (b : Bool) : OpsIn D (.bool b)
 | int (k : IntKind) (n : Int) : OpsIn D (.int k n)
 | str (s : List UInt8) : OpsIn D (.str s)
 | sl (xs : List AV) (h : ∀ x ∈ xs, OpsIn D x) : OpsIn D (.sl xs)
 | agg (xs : List AV) (h : ∀ x ∈ xs, OpsIn D x) : OpsIn D (.agg xs)
 | tup (xs : List AV) (h : ∀ x ∈ xs, OpsIn D x) : OpsIn D (.tup xs)
 | nilp : OpsIn D .nilp
 | nsl : OpsIn D .nsl
 | sll (n : Nat) : OpsIn D (.sll n)
 | kp (xs : List AV) (h : ∀ x ∈ xs, OpsIn D x) : OpsIn D (.kp xs)
 | op (id off : Nat) (h : D id) : OpsIn D (.op id off)
 | fn (f : FuncId) (xs : List AV) (h : ∀ x ∈ xs, OpsIn D x) : OpsIn D (.fn f xs)
 | nilf : OpsIn D .nilf
 | ifc (t : TypeId) (v : AV) (h : OpsIn D v) : OpsIn D (.ifc t v)
 | nili : OpsIn D .nili
 | junk : OpsIn D .junk
theorem mem_get {α : Type} {l : List α} {x : α} (h : x ∈ l) : ∃ i : Nat, l[i]? = some x := List.mem_iff_getElem?.1 h
theorem OpsIn.ofCells {D : Nat → Prop} {e : AV} (h : ∀ c ∈ e.cells, OpsIn D c) : OpsIn D e := by
 by_cases hf : e.flat = true
 ·rw [AV.cells_flat hf] at h
  exact h e (by simp)
 ·cases e with
  | agg cs => exact .agg cs h
  | tup vs => exact h _ (by simp [AV.cells])
  | _ => exact absurd rfl hf
theorem OpsIn.toCells {D : Nat → Prop} {e : AV} (h : OpsIn D e) : ∀ c ∈ e.cells, OpsIn D c := by
 intro c hc
 cases h with
 | agg cs hh => exact hh c hc
 | _ => simp [AV.cells] at hc; subst hc; constructor <;> assumption
theorem V.ops {G : Gh} {v : Value} {a : AV} (h : V G v a) : OpsIn (fun id => ∃ b, G.ob id = some b) a := by
 induction h with
 | bool b => exact .bool b
 | int k n => exact .int k n
 | str s => exact .str s
 | junk v h => exact .junk
 | nilp => exact .nilp
 | nsl => exact .nsl
 | sll a n cap => exact .sll n
 | kp b off cs vs hk hf _ ih => exact .kp cs fun x hx => by obtain ⟨j, hj⟩ := mem_get hx; exact ih j x hj
 | op id off b e => exact .op id off ⟨b, e⟩
 | slE a cap => exact .sl [] (by simp)
 | slN b off cap esz xs vs hc he hk hf _ ih =>
  refine .sl xs fun x hx => ?_
  obtain ⟨i, hi⟩ := mem_get hx
  refine OpsIn.ofCells fun c hc => ?_
  obtain ⟨j, hj⟩ := mem_get hc
  exact ih i x j c hi hj
 | agg vs cs hl hf _ ih => exact .agg cs fun x hx => by obtain ⟨j, hj⟩ := mem_get hx; exact ih j x hj
 | tup vs cs hl _ ih => exact .tup cs fun x hx => by obtain ⟨j, hj⟩ := mem_get hx; exact ih j x hj
 | fn f vs cs hl _ ih => exact .fn f cs fun x hx => by obtain ⟨j, hj⟩ := mem_get hx; exact ih j x hj
 | nilf => exact .nilf
 | ifc t v a _ ih => exact .ifc t a ih
 | nili => exact .nili
theorem OpsIn.mono {D D' : Nat → Prop} (hd : ∀ i, D i → D' i) {a : AV} (h : OpsIn D a) : OpsIn D' a := by
 induction h with
 | bool b => exact .bool b
 | int k n => exact .int k n
 | str s => exact .str s
 | sl xs _ ih => exact .sl xs ih
 | agg xs _ ih => exact .agg xs ih
 | tup xs _ ih => exact .tup xs ih
 | nilp => exact .nilp
 | nsl => exact .nsl
 | sll n => exact .sll n
 | kp xs _ ih => exact .kp xs ih
 | op id off h => exact .op id off (hd _ h)
 | fn f xs _ ih => exact .fn f xs ih
 | nilf => exact .nilf
 | ifc t v _ ih => exact .ifc t v ih
 | nili => exact .nili
 | junk => exact .junk
/-- Only the objects below n are known any more. -/
def Gh.res (G : Gh) (n : Nat) : Gh := ⟨G.kn, fun id => if id < n then G.ob id else none⟩
theorem V.res {G : Gh} {n : Nat} {v : Value} {a : AV} (h : V G v a) (ho : OpsIn (fun id => id < n) a) : V (G.res n) v a := by
 induction h with
 | bool b => exact .bool b
 | int k m => exact .int k m
 | str s => exact .str s
 | junk v h => exact .junk v h
 | nilp => exact .nilp
 | nsl => exact .nsl
 | sll a m cap => exact .sll a m cap
 | kp b off cs vs hk hf _ ih =>
  cases ho with
  | kp _ hh => exact .kp b off cs vs hk hf fun j c hj => ih j c hj (hh c (List.mem_of_getElem? hj))
 | op id off b e =>
  cases ho with
  | op _ _ hh => exact .op id off b (by simp [Gh.res, hh, e])
 | slE a cap => exact .slE a cap
 | slN b off cap esz xs vs hc he hk hf _ ih =>
  cases ho with
  | sl _ hh => exact .slN b off cap esz xs vs hc he hk hf fun i e j c hi hj => ih i e j c hi hj ((hh e (List.mem_of_getElem? hi)).toCells c (List.mem_of_getElem? hj))
 | agg vs cs hl hf _ ih =>
  cases ho with
  | agg _ hh => exact .agg vs cs hl hf fun j c hj => ih j c hj (hh c (List.mem_of_getElem? hj))
 | tup vs cs hl _ ih =>
  cases ho with
  | tup _ hh => exact .tup vs cs hl fun j c hj => ih j c hj (hh c (List.mem_of_getElem? hj))
 | fn f vs cs hl _ ih =>
  cases ho with
  | fn _ _ hh => exact .fn f vs cs hl fun j c hj => ih j c hj (hh c (List.mem_of_getElem? hj))
 | nilf => exact .nilf
 | ifc t v a _ ih =>
  cases ho with
  | ifc _ _ hh => exact .ifc t v a (ih hh)
 | nili => exact .nili
/-- A call that may make objects, and lets go of them. -/
theorem Run.of_triF {P : Program} {f : FuncId} {fn : Func} {c : Code} {N : Nat} {args : List AV} {H : Hp} {r : AV} (hf : P.funcs[f]? = some fn) (hb : fn.body = some c) (hN : fn.ntmps = N) (hle : args.length ≤ N) (hro : OpsIn (fun id => id < H.next) r)
  (h : Tri P N c ((.h, .hp H) :: initS args 0) fun e s' => (e = .normal ∨ e = .ret) ∧ ResOK P fn s' r ∧ ∃ H', get s' .h = some (.hp H') ∧ H.next ≤ H'.next ∧ ∀ i, i < H.next → H'.obj i = H.obj i) : Run P f args H r H := by
 intro G w cargs hg hk hH hV
 refine calls_of_wp hf hb ?_
 have h0 := fits0 hN hle hg hk hH hV
 refine wp_mono (h ⟨G, w, foot G H w, []⟩ _ w h0) ?_
 rintro e a' w' ⟨s', ⟨G', L', hr⟩, he, hres, H', hh, hnx, hobj⟩
 obtain ⟨v, hv, hV'⟩ := hres _ _ _ _ _ _ hr
 obtain ⟨H2, g, hok, hmay⟩ := hr.heap
 rw [hh] at g; cases g
 have hlt : ∀ id b, G.ob id = some b → id < H.next := fun id b e => (hH.lt id b e).1
 have hres1 : ∀ id, id < H.next → (G'.res H.next).ob id = G'.ob id := fun id h => by simp [Gh.res, h]
 have hres2 : ∀ id b, (G'.res H.next).ob id = some b → id < H.next ∧ G'.ob id = some b := fun id b h => by
  simp only [Gh.res] at h
  split at h
  ·exact ⟨by assumption, h⟩
  ·cases h
 have hop : ∀ {u : Value} {a : AV}, V G u a → OpsIn (fun id => id < H.next) a := fun hu => hu.ops.mono fun id ⟨b, e⟩ => hlt id b e
 have hidl : ∀ id cs, H.obj id = some cs → id < H.next := fun id cs e => by
  obtain ⟨blk, _, _, q1, _⟩ := hH.obj id cs e
  exact hlt id blk q1
 have hrow : ∀ id j b, hrow (G'.res H.next) H w' id j b → hrow G' H' w' id j b := by
  rintro id j b ⟨cs, el, esz, xs, b0, arr, t, fr, h1, h2, h3, h4, h5⟩
  exact ⟨cs, el, esz, xs, b0, arr, t, fr, by rw [hobj id (hidl id cs h1)]; exact h1, h2, (hres2 _ _ h3).2, h4, h5⟩
 have hfoot : ∀ b, foot (G'.res H.next) H w' b → foot G' H' w' b := by
  rintro b (⟨id, ⟨cs, h1⟩, h2⟩ | ⟨id, j, h1⟩)
  ·exact .inl ⟨id, ⟨cs, by rw [hobj id (hidl id cs h1)]; exact h1⟩, (hres2 _ _ h2).2⟩
  ·exact .inr ⟨id, j, hrow _ _ _ h1⟩
 have hHp : HpOK (G'.res H.next) w' H := by
  refine ⟨fun id b e => ⟨(hres2 id b e).1, (hok.lt id b (hres2 id b e).2).2⟩, fun id id' b e e' => hok.inj id id' b (hres2 _ _ e).2 (hres2 _ _ e').2, fun id cs e => ?_, fun id j blk hh' => ?_⟩
  ·obtain ⟨blk, arr, el, q1, q2, q3, q4, q5⟩ := hok.obj id cs (by rw [hobj id (hidl id cs e)]; exact e)
   obtain ⟨blk0, arr0, el0, p1, p2, p3, p4, p5⟩ := hH.obj id cs e
   refine ⟨blk, arr, el, by rw [hres1 id (hidl id cs e)]; exact q1, q2, q3, fun j x hx => ?_, q5⟩
   have hq := q4 j x hx
   have hp := p4 j x hx
   cases x with
   | v a => exact ⟨hq.1, hq.2.res (hop hp.2)⟩
   | row el2 esz xs =>
    have hq' : RowOK G' w' true el2 esz (arr.getD j undef) xs := hq
    have hp' : RowOK G w true el2 esz (arr0.getD j undef) xs := hp
    obtain ⟨cells, k1, k2, k3, k4, k5⟩ := hq'
    obtain ⟨cells0, _, _, _, l4, _⟩ := hp'
    exact ⟨cells, (fun e => by cases e), k2, k3, ⟨k4.1, fun i e j c a b => ⟨(k4.2 i e j c a b).1, (k4.2 i e j c a b).2.res (hop (l4.2 i e j c a b).2)⟩⟩, k5⟩
  ·obtain ⟨q1, q2⟩ := hok.apart id j blk (hrow _ _ _ hh')
   exact ⟨fun id' e => q1 id' (hres2 _ _ e).2, fun id' j' h2 => q2 id' j' (hrow _ _ _ h2)⟩
 have hpost : ∃ v2 G'', Ending.returned v = .returned v2 ∧ V G'' v2 r ∧ GExt (foot G H w) G G'' w ∧ KnOK G'' w' ∧ HpOK G'' w' H ∧ Fr (foot G H w) w w' ∧ ∀ b, foot G'' H w' b → w.heap.size ≤ b ∨ foot G H w b :=
  ⟨v, G'.res H.next, rfl, hV'.res hro, ⟨hr.old, fun id b e => by rw [hres1 id (hlt id b e)]; exact hr.obs id b e, fun id b e => hr.obn id b (hres2 id b e).2⟩, hr.kn, hHp, hr.fr, fun b hb => hmay b (hfoot b hb)⟩
 rcases he with rfl | rfl
 ·exact ⟨hr.defs, v, hv, hpost⟩
 ·exact ⟨hr.defs, v, hv, hpost⟩
section
variable {P : Program} {N : Nat} {s : St} {d : Nat} {ty : TypeId} {pos : String} {af : Array Edge} {g : Option (Nat × Bool)}
/-- a closure is called, which may turn the objects -/
theorem op_callch {x : Operand} {f : FuncId} {xs : Array Operand} {tys : Array TypeId} {«as» caps : List AV} {r : AV} {H H' : Hp} (hN : d < N) (hf : isFn P f = true) (hx : opv x s = some (.fn f caps)) (hH : get s .h = some (.hp H)) (ha : opvs xs.toList s = some «as») (hp : Run P f («as» ++ caps) H r H') :
  OpOK P N ⟨some d, .call { callee := .value x, args := xs, argTypes := tys }, ty, pos, af, g⟩ s ((rd x ++ rds xs.toList) ++ [.h]) [(.s d, .sv (.v r)), (.h, .hp H')] :=
 call_run hp rfl hN hH (enter_clo hf hx ha)
end
/- The program logic's rules: calls that panic, and what is around them. No condition. -/
/-- A CALL THAT PANICS: with that value. -/
def RunP (P : Program) (f : FuncId) (args : List AV) (H : Hp) (v : Value) (H' : Hp) : Prop :=
 ∀ G w cargs, GE ⟨G, w, foot G H w, []⟩ → KnOK G w → HpOK G w H → VL G cargs args → Calls P f cargs w fun e w' =>
  ∃ G', e = .panicked [{ v := v, recovered := false }] ∧ GExt (foot G H w) G G' w ∧ KnOK G' w' ∧ HpOK G' w' H' ∧ Fr (foot G H w) w w' ∧ ∀ b, foot G' H' w' b → w.heap.size ≤ b ∨ foot G H w b
/-- A region's operations, of which one may panic. -/
def TriLP (P : Program) (N : Nat) (ops : Array Oper) (l : List Oper) (s : St) (Q : Exit → St → Prop) : Prop :=
 ∀ E a w, Fits E N s a w → ∀ QQ : Exit → Act → World → Prop, (∀ e a' w' s', Fits E N s' a' w' → Q e s' → QQ e a' w') → wpList P ops QQ l a w
/-- a value that is known in full -/
def concI : AV → Option Value
 | .int k n => some (.int k n)
 | .bool b => some (.bool b)
 | _ => none
def concL : List AV → Option (List Value)
 | [] => some []
 | a :: l => (concI a).bind fun v => (concL l).map (v :: ·)
def conc : AV → Option Value
 | .ifc t (.agg cs) => (concL cs).map fun l => .iface t (.agg l.toArray)
 | _ => none
theorem concI_sound {G : Gh} {a : AV} {u v : Value} (h : concI a = some v) (hv : V G u a) : u = v := by
 cases hv <;> simp_all [concI]
theorem concL_sound {G : Gh} : ∀ {cs : List AV} {l us : List Value}, concL cs = some l → us.length = cs.length → (∀ (j : Nat) c, cs[j]? = some c → V G (us.getD j undef) c) → us = l
 | [], l, us, h, hl, _ => by
  simp only [concL, Option.some.injEq] at h
  subst h
  exact List.length_eq_zero_iff.1 hl
 | a :: cs, l, us, h, hl, hv => by
  simp only [concL] at h
  obtain ⟨v, h1, h2⟩ := Option.bind_eq_some_iff.1 h
  obtain ⟨l', h3, rfl⟩ := Option.map_eq_some_iff.1 h2
  match us, hl with
  | u :: us, hl =>
   have e1 := concI_sound h1 (hv 0 a rfl)
   have e2 := concL_sound (us := us) h3 (by simpa using hl) (fun j c hc => by simpa using hv (j + 1) c (by simpa using hc))
   simp at e1
   rw [e1, e2]
theorem conc_sound {G : Gh} {a : AV} {u v : Value} (h : conc a = some v) (hv : V G u a) : u = v := by
 cases hv with
 | ifc t x b hb =>
  cases hb with
  | agg vs cs hl hf hc =>
   simp only [conc] at h
   obtain ⟨l, h1, rfl⟩ := Option.map_eq_some_iff.1 h
   have := concL_sound (us := vs.toList) h1 (by simpa using hl) (fun j c e => by have := hc j c e; simpa [Array.getD_eq_getD_getElem?, List.getD_eq_getElem?_getD] using this)
   subst this
   simp
  | _ => simp [conc] at h
 | _ => simp [conc] at h
section
variable {P : Program} {N : Nat} {ops : Array Oper} {l : List Oper} {s : St} {Q : Exit → St → Prop} {o : Oper} {R : List Comp}
theorem TriLP.nil (h : Q .normal s) : TriLP P N ops [] s Q := fun _ _ _ hf _ hQ => hQ _ _ _ _ hf h
theorem TriLP.of (h : TriL P N ops l s (Q .normal)) : TriLP P N ops l s Q := fun E a w hf QQ hQ => h E a w hf QQ fun a' w' s' => hQ .normal a' w' s'
theorem TriLP.cons {ws : St} (hg : o.guard = none) (ho : OpOK P N o s R ws) (h : TriLP P N ops l (ws ++ s) Q) : TriLP P N ops (o :: l) s Q := by
 intro E a w ⟨G, L, hr⟩ QQ hQ
 refine wpList_plain hg fun K hK => ?_
 exact ho s (fun _ _ => rfl) E G L a w hr K QQ fun v w' G' L' hr' => hK _ _ (h E _ _ ⟨G', L', hr'⟩ QQ hQ)
theorem TriLP.on {ws : St} {d : Nat} {b : Bool} (hN : d < N) (hg : gslot ops o = some (d, b)) (hc : get s (.s d) = some (.sv (.v (.bool b)))) (ho : OpOK P N o s R ws) (h : TriLP P N ops l (ws ++ s) Q) :
  TriLP P N ops (o :: l) s Q := by
 intro E a w ⟨G, L, hr⟩ QQ hQ
 refine wpList_step fun K hK => ?_
 rw [wanted_of hr hN hg hc, beq_self_eq_true, if_pos rfl]
 exact ho s (fun _ _ => rfl) E G L a w hr K QQ fun v w' G' L' hr' => hK _ _ (h E _ _ ⟨G', L', hr'⟩ QQ hQ)
theorem TriLP.off {d : Nat} {b : Bool} (hN : d < N) (hg : gslot ops o = some (d, b)) (hc : get s (.s d) = some (.sv (.v (.bool (!b))))) (h : TriLP P N ops l (match o.dst with | some d => (.s d, .gone) :: s | none => s) Q) :
  TriLP P N ops (o :: l) s Q := by
 intro E a w ⟨G, L, hr⟩ QQ hQ
 refine wpList_step fun K hK => ?_
 rw [wanted_of hr hN hg hc, if_neg (by cases b <;> simp)]
 exact hK _ _ (h E _ _ ⟨G, L, hr.drop o.dst undef⟩ QQ hQ)
theorem TriLP.c1 {c : Comp} {v : CV} (hg : o.guard = none) (ho : OpOK P N o s R [(c, v)]) (h : TriLP P N ops l ((c, v) :: s) Q) : TriLP P N ops (o :: l) s Q := TriLP.cons hg ho h
theorem TriLP.c2 {c d : Comp} {v u : CV} (hg : o.guard = none) (ho : OpOK P N o s R [(c, v), (d, u)]) (h : TriLP P N ops l ((c, v) :: (d, u) :: s) Q) : TriLP P N ops (o :: l) s Q := TriLP.cons hg ho h
theorem TriLP.c3 {c d e : Comp} {v u y : CV} (hg : o.guard = none) (ho : OpOK P N o s R [(c, v), (d, u), (e, y)]) (h : TriLP P N ops l ((c, v) :: (d, u) :: (e, y) :: s) Q) : TriLP P N ops (o :: l) s Q := TriLP.cons hg ho h
theorem TriLP.g1 {c : Comp} {v : CV} {d : Nat} {b b' : Bool} (hg : gslot ops o = some (d, b)) (hN : d < N) (hc : get s (.s d) = some (.sv (.v (.bool b')))) (hb : b' = b) (ho : OpOK P N o s R [(c, v)]) (h : TriLP P N ops l ((c, v) :: s) Q) : TriLP P N ops (o :: l) s Q := TriLP.on hN hg (hb ▸ hc) ho h
theorem TriLP.g2 {c c' : Comp} {v u : CV} {d : Nat} {b b' : Bool} (hg : gslot ops o = some (d, b)) (hN : d < N) (hc : get s (.s d) = some (.sv (.v (.bool b')))) (hb : b' = b) (ho : OpOK P N o s R [(c, v), (c', u)]) (h : TriLP P N ops l ((c, v) :: (c', u) :: s) Q) : TriLP P N ops (o :: l) s Q := TriLP.on hN hg (hb ▸ hc) ho h
theorem TriLP.split {d : Nat} {b : Bool} (hc : get s (.s d) = some (.sv (.v (.bool b)))) (h1 : b = true → TriLP P N ops l s Q) (h2 : b = false → TriLP P N ops l s Q) : TriLP P N ops l s Q := by
 cases b
 ·exact h2 rfl
 ·exact h1 rfl
theorem Tri.regionP {id : Nat} {l : List Oper} (h : TriLP P N l.toArray l s Q) : Tri P N (.region id l.toArray false) s Q :=
 fun E a w hf => wp_region_lit (h E a w hf _ fun _ _ _ s' h1 h2 => ⟨s', h1, h2⟩)
variable {d : Nat} {ty : TypeId} {pos : String} {af : Array Edge} {dst : Option Tmp}
/-- the operation that panics -/
theorem TriLP.panic {x : Operand} {b : AV} {v : Value} (hx : opv x s = some b) (hv : conc b = some v) (hq : Q (.panic [{ v := v, recovered := false }]) s) :
  TriLP P N ops (⟨dst, .panic x, ty, pos, af, none⟩ :: l) s Q := by
 intro E a w ⟨G, L, hr⟩ QQ hQ
 refine wpList_plain rfl fun K hK => ?_
 have h1 := conc_sound hv (opv_sound hr (fun _ _ => rfl) hx)
 have h2 : ∃ t u, v = .iface t u := by
  unfold conc at hv
  split at hv
  ·obtain ⟨l, _, rfl⟩ := Option.map_eq_some_iff.1 hv; exact ⟨_, _, rfl⟩
  ·cases hv
 obtain ⟨t, u, rfl⟩ := h2
 unfold Oper.wp
 have e : (execOp a.eval ⟨dst, .panic x, ty, pos, af, none⟩).run P w = .halt (.panic (.iface t u)) w := by
  simp [execOp, h1, Instr.panic]
 rw [e]
 exact hQ _ _ _ _ ⟨G, L, hr⟩ hq
/-- a call that panics -/
theorem TriLP.callp {f : FuncId} {xs : Array Operand} {tys : Array TypeId} {«as» : List AV} {H H' : Hp} {v : Value} (hf : isFn P f = true) (hH : get s .h = some (.hp H)) (ha : opvs xs.toList s = some «as») (hp : RunP P f «as» H v H') (hq : Q (.panic [{ v := v, recovered := false }]) ((.h, .hp H') :: s)) :
  TriLP P N ops (⟨some d, .call { callee := .value (.func f), args := xs, argTypes := tys }, ty, pos, af, none⟩ :: l) s Q := by
 intro E a w ⟨G, L, hr⟩ QQ hQ
 refine wpList_plain rfl fun K hK => ?_
 obtain ⟨cargs, he, hV⟩ := enter_func (ty := ty) (pos := pos) (af := af) (g := none) hf ha (dst := some d) E G L a w s hr (fun _ _ => rfl)
 obtain ⟨H2, hH2, hok, hmay⟩ := hr.heap
 rw [hH] at hH2; cases hH2
 unfold Oper.wp
 rw [he]
 refine (hp G w cargs (hr.geAt hH) hr.kn hok hV).mono ?_
 rintro e w' ⟨G', rfl, hx, hkn, hok', hf', hft⟩
 exact hQ _ _ _ _ ⟨G', L, hr.called hH hx hkn hok' hf' hft⟩ hq
end
/-- A function that panics. -/
theorem RunP.of_tri {P : Program} {f : FuncId} {fn : Func} {c : Code} {N : Nat} {args : List AV} {H : Hp} {v : Value} {H' : Hp} (hf : P.funcs[f]? = some fn) (hb : fn.body = some c) (hN : fn.ntmps = N) (hle : args.length ≤ N)
  (h : Tri P N c ((.h, .hp H) :: initS args 0) fun e s' => e = .panic [{ v := v, recovered := false }] ∧ get s' .h = some (.hp H')) : RunP P f args H v H' := by
 intro G w cargs hg hk hH hV
 refine calls_of_wp hf hb ?_
 have h0 := fits0 hN hle hg hk hH hV
 refine wp_mono (h ⟨G, w, foot G H w, []⟩ _ w h0) ?_
 rintro e a' w' ⟨s', ⟨G', L', hr⟩, rfl, hh⟩
 obtain ⟨H2, g, hok, hmay⟩ := hr.heap
 rw [hh] at g; cases g
 exact ⟨hr.defs, G', rfl, ⟨hr.old, hr.obs, hr.obn⟩, hr.kn, hok, hr.fr, hmay⟩
/- The program logic's rules: a function that defers one call of a closure, and what that closure does when the function ends. No condition. -/
/-- A DEFERRED CALL, when its function ends so; behind it the function ends so. -/
def RunD (P : Program) (f : FuncId) (args : List AV) (H : Hp) (u u' : FrameMode) (H' : Hp) : Prop :=
 ∀ G w cargs, GE ⟨G, w, foot G H w, []⟩ → KnOK G w → HpOK G w H → VL G cargs args → CallsD P f cargs u w fun e v w' =>
  ∃ r G', e = .returned r ∧ v = u' ∧ GExt (foot G H w) G G' w ∧ KnOK G' w' ∧ HpOK G' w' H' ∧ Fr (foot G H w) w w' ∧ ∀ b, foot G' H' w' b → w.heap.size ≤ b ∨ foot G H w b
/-- A region whose last operation defers a call of a closure. -/
def TriLd (P : Program) (N : Nat) (ops : Array Oper) (l : List Oper) (s : St) (Q : FuncId → List AV → St → Prop) : Prop :=
 ∀ E a w, Fits E N s a w → E.ds = [] → ∀ QQ : Exit → Act → World → Prop,
  (∀ a' w' s' f caps vs G L, Rel E N G L { a' with defers := [] } w' s' → a'.defers = [⟨.fn (.func f) vs, #[]⟩] → VL G vs caps → Q f caps s' → QQ .normal a' w') → wpList P ops QQ l a w
section
variable {P : Program} {N : Nat} {ops : Array Oper} {l : List Oper} {s : St} {Q : FuncId → List AV → St → Prop} {o : Oper} {R : List Comp}
theorem TriLd.cons {ws : St} (hg : o.guard = none) (ho : OpOK P N o s R ws) (h : TriLd P N ops l (ws ++ s) Q) : TriLd P N ops (o :: l) s Q := by
 intro E a w ⟨G, L, hr⟩ hd QQ hQ
 refine wpList_plain hg fun K hK => ?_
 exact ho s (fun _ _ => rfl) E G L a w hr K QQ fun v w' G' L' hr' => hK _ _ (h E _ _ ⟨G', L', hr'⟩ hd QQ hQ)
theorem TriLd.c1 {c : Comp} {v : CV} (hg : o.guard = none) (ho : OpOK P N o s R [(c, v)]) (h : TriLd P N ops l ((c, v) :: s) Q) : TriLd P N ops (o :: l) s Q := TriLd.cons hg ho h
theorem TriLd.c2 {c d : Comp} {v u : CV} (hg : o.guard = none) (ho : OpOK P N o s R [(c, v), (d, u)]) (h : TriLd P N ops l ((c, v) :: (d, u) :: s) Q) : TriLd P N ops (o :: l) s Q := TriLd.cons hg ho h
variable {ty : TypeId} {pos : String} {af : Array Edge}
theorem TriLd.defer {x : Operand} {f : FuncId} {caps : List AV} {tys : Array TypeId} (hx : opv x s = some (.fn f caps)) (hq : Q f caps s) :
  TriLd P N ops [⟨none, .defer { callee := .value x, args := #[], argTypes := tys }, ty, pos, af, none⟩] s Q := by
 intro E a w ⟨G, L, hr⟩ hd QQ hQ
 refine wpList_plain rfl fun K hK => ?_
 have hv := opv_sound hr (fun _ _ => rfl) hx
 generalize hav : a.eval x = u at hv
 cases hv
 rename_i vs hl hvv
 unfold Oper.wp
 have e : (execOp a.eval ⟨none, .defer { callee := .value x, args := #[], argTypes := tys }, ty, pos, af, none⟩).run P w = .ok (.defer ⟨.fn (.func f) vs, #[]⟩) w := by
  simp [execOp, resolve, hav, Deferred.ofValue]
 rw [e]
 refine hK _ _ ?_
 have hdef : a.defers = [] := hr.defs.trans hd
 refine hQ _ _ s f caps vs G L ?_ ?_ ⟨hl, hvv⟩ hq
 ·have : ({ ({ a with defers := ⟨.fn (.func f) vs, #[]⟩ :: a.defers } : Act).put none undef with defers := [] } : Act) = a := by
   cases a; simp only [Act.put] at *; simp_all
  rw [this]; exact hr
 ·simp [Act.put, hdef]
end
/-- A frame begins anew where it stands, with such calls deferred. -/
theorem Rel.reenter {E : Ent} {N : Nat} {G : Gh} {L : Loc} {a : Act} {w : World} {s : St} (h : Rel E N G L { a with defers := [] } w s) (hb : ∀ k, get s (.b k) = none) (ht : ∀ k, get s (.t k) = none) : Rel ⟨G, w, E.may, a.defers⟩ N G L a w s := by
 obtain ⟨H, g0, hok, hmay⟩ := h.heap
 obtain ⟨h1, h2, h3⟩ := h.geAt g0
 have hw := h.fr.size
 have hge := h.ge
 refine ⟨h.size, rfl, ⟨h1, h2, fun g hg hm => ?_⟩, h.kn, fun _ _ _ _ => rfl, fun _ _ e => e, fun _ _ e => .inl e, Fr.refl _ _, fun n x g => h.slot n x g, fun k cv g => (by rw [hb k] at g; cases g), fun k m el esz xs g => (by rw [ht k] at g; cases g), h.disj, ⟨H, g0, hok, fun b hb' => .inr (hmay b hb')⟩, h.hdisj, h.nobox, h.notok⟩
 rcases hm with e | e
 ·have := hge.2.1; omega
 ·exact hge.2.2 g hg e
def plainCap : AV → Bool
 | .op _ _ | .int _ _ => true
 | _ => false
theorem VL.keep {G G' : Gh} (ho : ∀ id b, G.ob id = some b → G'.ob id = some b) {vs : Array Value} {caps : List AV} (h : VL G vs caps) (hc : caps.all plainCap = true) : VL G' vs caps := by
 refine ⟨h.1, fun j x e => ?_⟩
 have h1 := h.2 j x e
 have h2 := List.all_eq_true.1 hc x (List.mem_of_getElem? e)
 generalize vs.getD j undef = u at h1 ⊢
 cases h1 with
 | op id off b hb => exact .op id off b (ho _ _ hb)
 | int k n => exact .int k n
 | _ => simp [plainCap] at h2
/-- what a function's end must be -/
def RunPost (E : Ent) (r : AV) (H' : Hp) : Ending → World → Prop := fun e w' =>
 ∃ v G', e = .returned v ∧ V G' v r ∧ GExt E.M E.G0 G' E.w0 ∧ KnOK G' w' ∧ HpOK G' w' H' ∧ Fr E.M E.w0 w' ∧ ∀ b, foot G' H' w' b → E.w0.heap.size ≤ b ∨ E.M b
def TriG (P : Program) (N : Nat) (fn : Func) (c : Code) (s : St) (r : AV) (H' : Hp) : Prop :=
 ∀ E a w, Fits E N s a w → E.ds = [] → c.wp P (bodyPostD P fn (RunPost E r H')) a w
section
variable {P : Program} {N : Nat} {fn : Func} {s : St} {r : AV} {H' : Hp}
theorem TriG.seq {c d : Code} (h : Tri P N c s fun e s' => e = .normal ∧ TriG P N fn d s' r H') : TriG P N fn (.seq c d) s r H' := by
 intro E a w hf hd
 refine wp_seq (wp_mono (h E a w hf) ?_)
 rintro e a' w' ⟨s', h1, rfl, h2⟩
 exact h2 E a' w' h1 hd
/-- THE CALL IS DEFERRED; behind that the function goes on, and ends in one way or the other. -/
theorem TriG.defer {id : Nat} {l : List Oper} {c2 : Code} (h : TriLd P N l.toArray l s fun f caps s' => (∀ k, get s' (.b k) = none) ∧ (∀ k, get s' (.t k) = none) ∧ caps.all plainCap = true ∧ isFn P f = true ∧
   Tri P N c2 s' fun e s2 => ∃ H1, get s2 .h = some (.hp H1) ∧ ResOK P fn ((.h, .hp H') :: s2) r ∧
    (((e = .normal ∨ e = .ret) ∧ RunD P f caps H1 .returning .returning H') ∨ ∃ v, e = .panic [{ v := v, recovered := false }] ∧ RunD P f caps H1 (.panicking [{ v := v, recovered := false }]) (.panicking [{ v := v, recovered := true }]) H')) :
  TriG P N fn (.seq (.region id l.toArray false) c2) s r H' := by
 intro E a w hf hd
 refine wp_seq (wp_region_lit (h E a w hf hd _ ?_))
 intro a1 w1 s1 f caps vs G1 L1 hr1 hdf hvl ⟨hb, ht, hcp, hfn, hc2⟩
 have hr2 := hr1.reenter hb ht
 refine wp_mono (hc2 _ a1 w1 ⟨G1, L1, hr2⟩) ?_
 rintro e a2 w2 ⟨s2, ⟨G2, L2, hr3⟩, H1, hH1, hres, hends⟩
 have hds : a2.defers = [⟨.fn (.func f) vs, #[]⟩] := hr3.defs.trans hdf
 have hvl2 : VL G2 vs caps := hvl.keep (fun id b e => hr3.obs id b e) hcp
 obtain ⟨H3, g3, hok3, _⟩ := hr3.heap
 rw [hH1] at g3; cases g3
 have fin : ∀ {u u' : FrameMode}, u ≠ .run → settle u' = .returning → RunD P f caps H1 u u' H' → Leaves P fn a2.tmps (RunPost E r H') a2.defers u w2 := by
  intro u u' hu hset hrun
  rw [hds]
  refine ⟨hu, .func f, vs, f, #[] ++ vs, rfl, by simp only [invoke]; exact run_callFunc hfn _ _, ?_⟩
  intro c cs hm
  obtain ⟨e', v', w', fr, hR, h5⟩ := hrun G2 w2 (#[] ++ vs) (hr3.geAt hH1) hr3.kn hok3 (by simpa using hvl2) c cs hm
  refine ⟨e', v', w', fr, ?_, h5⟩
  obtain ⟨rv, G3, rfl, rfl, hx, hkn, hok', hfr, hft⟩ := hR
  have hr4 := hr3.called hH1 hx hkn hok' hfr hft
  obtain ⟨v, hv, hV⟩ := hres _ _ _ _ _ _ hr4
  simp only [hset]
  refine ⟨v, hv, v, G3, rfl, hV, ⟨fun b o hb' hm' => ?_, fun id b e => ?_, fun id b e => ?_⟩, hkn, hok', ?_, fun b hb' => ?_⟩
  ·have hsz := hr1.fr.size
   refine (hr4.old b o (Nat.lt_of_lt_of_le hb' hsz) (fun hmay => ?_)).trans (hr1.old b o hb' hm')
   rcases hmay with e | e
   ·omega
   ·exact hm' e
  ·exact hr4.obs id b (hr1.obs id b e)
  ·rcases hr4.obn id b e with e | e
   ·exact hr1.obn id b e
   ·exact .inr (Nat.le_trans hr1.fr.size e)
  ·have f1 := hr1.fr
   have f2 := hr4.fr
   refine ⟨f2.os.trans f1.os, f2.tape.trans f1.tape, f2.output.trans f1.output, Nat.le_trans f1.size f2.size, fun k hk hno => ?_⟩
   refine (f2.block k (Nat.lt_of_lt_of_le hk f1.size) (fun hmay => ?_)).trans (f1.block k hk hno)
   rcases hmay with e | e
   ·omega
   ·exact hno e
  ·obtain ⟨H4, g4, _, hmay⟩ := hr4.heap
   simp only [get, if_true, Option.some.injEq, CV.hp.injEq] at g4
   subst g4
   rcases hmay b hb' with e | e
   ·exact .inl (Nat.le_trans hr1.fr.size e)
   ·exact e
 rcases hends with ⟨he, hrun⟩ | ⟨v, rfl, hrun⟩
 ·have := fin (by simp) rfl hrun
  rcases he with rfl | rfl
  ·exact this
  ·exact this
 ·exact fin (by simp) rfl hrun
end
theorem Run.of_triG {P : Program} {f : FuncId} {fn : Func} {c : Code} {N : Nat} {args : List AV} {H : Hp} {r : AV} {H' : Hp} (hf : P.funcs[f]? = some fn) (hb : fn.body = some c) (hN : fn.ntmps = N) (hle : args.length ≤ N)
  (h : TriG P N fn c ((.h, .hp H) :: initS args 0) r H') : Run P f args H r H' := by
 intro G w cargs hg hk hH hV
 refine calls_of_wp_defers hf hb ?_
 exact h ⟨G, w, foot G H w, []⟩ _ w (fits0 hN hle hg hk hH hV) rfl
/- The program logic's rules: what a deferred closure does: recover. No condition. -/
/-- as 'wpOpsS', over the operations themselves -/
def wpListS (P : Program) (ops : Array Oper) (Q : Exit → Act → List Frame → World → Prop) : List Oper → Act → List Frame → World → Prop
 | [], a, cs, w => Q .normal a cs w
 | o :: rest, a, cs, w =>
  if Region.wanted o (yielded ops a.tmps) then
   match (execOp a.eval o).run P w with
   | .ok .recover w' =>
    match recoverD cs with
    | some (v, cs') => wpListS P ops Q rest (a.put o.dst v) cs' w'
    | none => wpListS P ops Q rest (a.put o.dst .nilIface) cs w'
   | r => o.upon P a (fun a' w' => wpListS P ops Q rest a' cs w') (fun e a' w' => Q e a' cs w') r
  else wpListS P ops Q rest (a.put o.dst undef) cs w
theorem wpOpsS_eq {P : Program} {ops : Array Oper} {Q : Exit → Act → List Frame → World → Prop} (l : List Oper) : ∀ k, (∀ j, j < l.length → l[j]? = ops[k + j]?) → wpOpsS P ops Q (List.range' k l.length) = wpListS P ops Q l := by
 induction l with
 | nil => intro k h; funext a cs w; simp [wpOpsS, wpListS]
 | cons o l ih =>
  intro k h
  have h0 : ops[k]? = some o := by have := h 0 (by simp); simpa using this.symm
  have h1 := ih (k + 1) (fun j hj => by
   have := h (j + 1) (by simpa using hj)
   rw [show k + 1 + j = k + (j + 1) by omega, ← this]; simp)
  funext a cs w
  rw [List.length_cons, List.range'_succ]
  unfold wpOpsS wpListS
  rw [h0]
  simp only
  split
  ·cases hx : (execOp a.eval o).run P w with
   | ok v w' => cases v <;> simp only [h1] <;> rfl
   | _ => simp only [h1]
  ·rw [h1]
theorem wpS_region_lit {P : Program} {id : Nat} {l : List Oper} {Q : Exit → Act → List Frame → World → Prop} {a : Act} {cs : List Frame} {w : World} (h : wpListS P l.toArray Q l a cs w) : (Code.region id l.toArray false).wpS P Q a cs w := by
 refine wpS_region ?_
 have := wpOpsS_eq (P := P) (ops := l.toArray) (Q := Q) l 0 (fun j _ => by simp)
 rw [List.range_eq_range']
 simp only [List.size_toArray]
 rw [this]; exact h
/-- A deferred closure's first region, its function ending so. -/
def TriLS (P : Program) (N : Nat) (ops : Array Oper) (l : List Oper) (s : St) (u : FrameMode) (Q : FrameMode → St → Prop) : Prop :=
 ∀ E a w (c0 : Frame) (cs : List Frame), Fits E N s a w → c0.mode = u → ∀ QQ : Exit → Act → List Frame → World → Prop,
  (∀ a' w' u' s', Fits E N s' a' w' → Q u' s' → QQ .normal a' ({ c0 with mode := u' } :: cs) w') → wpListS P ops QQ l a (c0 :: cs) w
theorem conc_V {G : Gh} {a : AV} {v : Value} (h : conc a = some v) : V G v a := by
 unfold conc at h
 split at h
 ·rename_i t cs
  obtain ⟨l, h1, rfl⟩ := Option.map_eq_some_iff.1 h
  have key : ∀ {cs : List AV} {l : List Value}, concL cs = some l → l.length = cs.length ∧ ∀ (j : Nat) c, cs[j]? = some c → c.flat = true ∧ V G (l.getD j undef) c := by
   intro cs
   induction cs with
   | nil => intro l h; simp only [concL, Option.some.injEq] at h; subst h; exact ⟨rfl, by simp⟩
   | cons a cs ih =>
    intro l h
    simp only [concL] at h
    obtain ⟨v, h1, h2⟩ := Option.bind_eq_some_iff.1 h
    obtain ⟨l', h3, rfl⟩ := Option.map_eq_some_iff.1 h2
    obtain ⟨i1, i2⟩ := ih h3
    refine ⟨by simp [i1], fun j c hc => ?_⟩
    cases j with
    | zero =>
     simp at hc; subst hc
     cases a <;> simp [concI] at h1
     all_goals (subst h1; exact ⟨rfl, by simp; constructor⟩)
    | succ j => simpa using i2 j c (by simpa using hc)
  obtain ⟨k1, k2⟩ := key h1
  refine .ifc t _ _ (.agg _ _ (by simpa using k1) (fun j c e => (k2 j c e).1) fun j c e => ?_)
  have := (k2 j c e).2
  simpa [Array.getD_eq_getD_getElem?, List.getD_eq_getElem?_getD] using this
 ·cases h
section
variable {P : Program} {N : Nat} {ops : Array Oper} {l : List Oper} {s : St} {u : FrameMode} {Q : FrameMode → St → Prop} {o : Oper} {R : List Comp} {d : Nat} {ty : TypeId} {pos : String} {af : Array Edge}
theorem TriLS.nil (h : Q u s) : TriLS P N ops [] s u Q := by
 rintro E a w c0 cs hf rfl QQ hQ
 have := hQ a w c0.mode s hf h
 exact this
theorem TriLS.cons {ws : St} (hg : o.guard = none) (ho : OpOK P N o s R ws) (h : TriLS P N ops l (ws ++ s) u Q) : TriLS P N ops (o :: l) s u Q := by
 rintro E a w c0 cs ⟨G, L, hr⟩ hm QQ hQ
 have h1 := ho s (fun _ _ => rfl) E G L a w hr (fun a' w' => wpListS P ops QQ l a' (c0 :: cs) w') (fun e a' w' => QQ e a' (c0 :: cs) w') (fun v w' G' L' hr' => h E _ _ c0 cs ⟨G', L', hr'⟩ hm QQ hQ)
 unfold wpListS
 rw [if_pos (by simp [Region.wanted, hg])]
 unfold Oper.wp at h1
 split
 ·rename_i w' e; rw [e] at h1; exact h1.elim
 ·exact h1
theorem TriLS.c1 {c : Comp} {v : CV} (hg : o.guard = none) (ho : OpOK P N o s R [(c, v)]) (h : TriLS P N ops l ((c, v) :: s) u Q) : TriLS P N ops (o :: l) s u Q := TriLS.cons hg ho h
theorem TriLS.c2 {c e : Comp} {v x : CV} (hg : o.guard = none) (ho : OpOK P N o s R [(c, v), (e, x)]) (h : TriLS P N ops l ((c, v) :: (e, x) :: s) u Q) : TriLS P N ops (o :: l) s u Q := TriLS.cons hg ho h
theorem run_recover {a : Act} {w : World} {tys : Array TypeId} : (execOp a.eval ⟨some d, .call { callee := .builtin .recover, args := #[], argTypes := tys }, ty, pos, af, none⟩).run P w = .ok .recover w := by
 simp [execOp, resolve, invoke, builtin]
/-- nothing to recover -/
theorem TriLS.recN {tys : Array TypeId} (hN : d < N) (hu : u = .returning) (h : TriLS P N ops l ((.s d, .sv (.v .nili)) :: s) u Q) :
  TriLS P N ops (⟨some d, .call { callee := .builtin .recover, args := #[], argTypes := tys }, ty, pos, af, none⟩ :: l) s u Q := by
 rintro E a w c0 cs ⟨G, L, hr⟩ hm QQ hQ
 unfold wpListS
 rw [if_pos (by simp [Region.wanted]), run_recover]
 have : recoverD (c0 :: cs) = none := by simp [recoverD, hm, hu]
 simp only [this]
 exact h E _ _ c0 cs ⟨G, L, hr.put d hN _ (.v .nili) .nili⟩ hm QQ hQ
/-- what was given up with -/
theorem TriLS.recP {tys : Array TypeId} {b : AV} {v : Value} (hN : d < N) (hu : u = .panicking [{ v := v, recovered := false }]) (hv : conc b = some v) (h : TriLS P N ops l ((.s d, .sv (.v b)) :: s) (.panicking [{ v := v, recovered := true }]) Q) :
  TriLS P N ops (⟨some d, .call { callee := .builtin .recover, args := #[], argTypes := tys }, ty, pos, af, none⟩ :: l) s u Q := by
 rintro E a w c0 cs ⟨G, L, hr⟩ hm QQ hQ
 unfold wpListS
 rw [if_pos (by simp [Region.wanted]), run_recover]
 have : recoverD (c0 :: cs) = some (v, { c0 with mode := .panicking [{ v := v, recovered := true }] } :: cs) := by simp [recoverD, hm, hu]
 simp only [this]
 exact h E _ _ { c0 with mode := .panicking [{ v := v, recovered := true }] } cs ⟨G, L, hr.put d hN _ (.v b) (conc_V hv)⟩ rfl QQ hQ
end
/-- A DEFERRED CLOSURE: its first region, and what is behind it. -/
theorem RunD.of_tri {P : Program} {f : FuncId} {fn : Func} {id : Nat} {l : List Oper} {c2 : Code} {N : Nat} {args : List AV} {H : Hp} {u u' : FrameMode} {H' : Hp} (hf : P.funcs[f]? = some fn) (hb : fn.body = some (.seq (.region id l.toArray false) c2)) (hN : fn.ntmps = N) (hle : args.length ≤ N)
  (h : TriLS P N l.toArray l ((.h, .hp H) :: initS args 0) u fun u2 s' => u2 = u' ∧ Tri P N c2 s' fun e s2 => (e = .normal ∨ e = .ret) ∧ ResOK P fn s2 (.tup []) ∧ get s2 .h = some (.hp H')) : RunD P f args H u u' H' := by
 intro G w cargs hg hk hH hV
 refine callsD_of_wpS hf hb fun c0 cs hm => ?_
 have h0 := fits0 hN hle hg hk hH hV
 refine wpS_seq (wpS_region_lit (h ⟨G, w, foot G H w, []⟩ _ w c0 cs h0 hm _ ?_))
 rintro a1 w1 u2 s1 hf1 ⟨rfl, hc2⟩
 refine wpS_of_wp (wp_mono (hc2 _ a1 w1 hf1) ?_)
 rintro e a' w' ⟨s', ⟨G', L', hr⟩, he, hres, hh⟩
 obtain ⟨v, hv, hV'⟩ := hres _ _ _ _ _ _ hr
 obtain ⟨H2, g, hok, hmay⟩ := hr.heap
 rw [hh] at g; cases g
 have hpost : ∃ r2 G', Ending.returned v = .returned r2 ∧ u2 = u2 ∧ GExt (foot G H w) G G' w ∧ KnOK G' w' ∧ HpOK G' w' H' ∧ Fr (foot G H w) w w' ∧ ∀ b, foot G' H' w' b → w.heap.size ≤ b ∨ foot G H w b :=
  ⟨v, G', rfl, rfl, ⟨hr.old, hr.obs, hr.obn⟩, hr.kn, hok, hr.fr, hmay⟩
 rcases he with rfl | rfl
 ·exact ⟨hr.defs, u2, rfl, v, hv, hpost⟩
 ·exact ⟨hr.defs, u2, rfl, v, hv, hpost⟩
/- The program logic's rules: functions that answer, or give up, as a grammar says. No condition. -/
/-- what a grammar makes of tokens from a place on: something, up to a place; or nothing, astray there -/
inductive PR (α : Type) where
 | ok (a : α) (i : Nat)
 | bad (i : Nat)
def PR.bind {α β : Type} (x : PR α) (f : α → Nat → PR β) : PR β := match x with | .ok a i => f a i | .bad i => .bad i
@[simp] theorem PR.bind_ok {α β : Type} (a : α) (i : Nat) (f : α → Nat → PR β) : (PR.ok a i).bind f = f a i := rfl
@[simp] theorem PR.bind_bad {α β : Type} (i : Nat) (f : α → Nat → PR β) : (PR.bad i : PR α).bind f = .bad i := rfl
/-- the objects, the reader being at a place -/
def RunR {α : Type} (P : Program) (f : FuncId) (args : List AV) (Hat : Nat → Hp) (av : α → AV) (pv : Nat → Value) (i : Nat) (r : PR α) : Prop :=
 match r with
 | .ok a j => Run P f args (Hat i) (av a) (Hat j)
 | .bad j => RunP P f args (Hat i) (pv j) (Hat j)
section
variable {α : Type} {P : Program} {f : FuncId} {args : List AV} {Hat : Nat → Hp} {av : α → AV} {pv : Nat → Value} {i j : Nat} {r : PR α} {a : α}
theorem RunR.ok (h : RunR P f args Hat av pv i r) (e : r = .ok a j) : Run P f args (Hat i) (av a) (Hat j) := by subst e; exact h
theorem RunR.bad (h : RunR P f args Hat av pv i r) (e : r = .bad j) : RunP P f args (Hat i) (pv j) (Hat j) := by subst e; exact h
/-- how a function that reads ends -/
def EndR (P : Program) (fn : Func) (Hat : Nat → Hp) (av : α → AV) (pv : Nat → Value) (r : PR α) (e : Exit) (s : St) : Prop :=
 match r with
 | .ok a j => (e = .normal ∨ e = .ret) ∧ ResOK P fn s (av a) ∧ get s .h = some (.hp (Hat j))
 | .bad j => e = .panic [{ v := pv j, recovered := false }] ∧ get s .h = some (.hp (Hat j))
theorem EndR.fin {fn : Func} {e : Exit} {s : St} (h : r = .ok a j) (k : (e = .normal ∨ e = .ret) ∧ ResOK P fn s (av a) ∧ get s .h = some (.hp (Hat j))) : EndR P fn Hat av pv r e s := by subst h; exact k
theorem EndR.pan {fn : Func} {s : St} {v : Value} (h : r = .bad j) (hv : v = pv j) (k : get s .h = some (.hp (Hat j))) : EndR P fn Hat av pv r (.panic [{ v := v, recovered := false }]) s := by subst h; subst hv; exact ⟨rfl, k⟩
theorem RunR.of_tri {fn : Func} {c : Code} {N : Nat} (hf : P.funcs[f]? = some fn) (hb : fn.body = some c) (hN : fn.ntmps = N) (hle : args.length ≤ N)
  (h : Tri P N c ((.h, .hp (Hat i)) :: initS args 0) (EndR P fn Hat av pv r)) : RunR P f args Hat av pv i r := by
 cases r with
 | ok a j => exact Run.of_tri hf hb hN hle h
 | bad j => exact RunP.of_tri hf hb hN hle h
end
section
variable {P : Program} {N : Nat} {ops : Array Oper} {l : List Oper} {s : St} {Q : Exit → St → Prop}
theorem TriLP.kept (h : Kept s (Q .normal)) : TriLP P N ops [] s Q := fun E a w hf QQ hQ => let ⟨s', h1, h2⟩ := h E N a w hf; hQ .normal a w s' h1 h2
theorem TriLP.ofKept (h : Kept s fun s' => TriLP P N ops l s' Q) : TriLP P N ops l s Q := fun E a w hf QQ hQ => let ⟨s', h1, h2⟩ := h E N a w hf; h2 E a w h1 QQ hQ
variable {o : Oper} {R : List Comp}
theorem TriLP.step {ws : St} (hs : StepOK P N ops o s R ws) (h : TriLP P N ops l (ws ++ s) Q) : TriLP P N ops (o :: l) s Q := by
 intro E a w ⟨G, L, hr⟩ QQ hQ
 refine wpList_step fun K hK => ?_
 exact hs s (fun _ _ => rfl) E G L a w hr K QQ fun a' w' G' L' hr' => hK _ _ (h E _ _ ⟨G', L', hr'⟩ QQ hQ)
theorem TriLP.skipu {e d : Nat} {b b' : Bool} (hd : o.dst = some e) (hg : gslot ops o = some (d, b)) (hN : d < N) (he : e < N) (hc : get s (.s d) = some (.sv (.v (.bool b')))) (hb : b' = !b) (h : TriLP P N ops l ((.s e, .sv (.v (.tup []))) :: s) Q) : TriLP P N ops (o :: l) s Q :=
 TriLP.step (StepOK.offu hN he hd hg (hb ▸ hc)) h
theorem TriLP.skipg {e d : Nat} {b : Bool} (hd : o.dst = some e) (hg : gslot ops o = some (d, b)) (hN : d < N) (he : e < N) (hc : get s (.s d) = some (.sv (.v (.tup [])))) (h : TriLP P N ops l ((.s e, .sv (.v (.tup []))) :: s) Q) : TriLP P N ops (o :: l) s Q :=
 TriLP.step (StepOK.offg hN he hd hg hc) h
end
/- The program logic's rules: what an interface value holds; how code ends, told in another way. No condition. -/
section
variable {P : Program} {N : Nat} {s : St} {Q : Exit → St → Prop} {d : Nat} {ty : TypeId} {pos : String} {af : Array Edge} {g : Option (Nat × Bool)}
theorem Tri.keptExit {c : Code} (h : Tri P N c s fun e s' => Kept s' (Q e)) : Tri P N c s Q := fun E a w hf => wp_mono (h E a w hf) fun e a' w' ⟨s', h1, h2⟩ => let ⟨s2, h3, h4⟩ := h2 E N a' w' h1; ⟨s2, h3, h4⟩
/-- x.(T), of a struct's type that it is -/
theorem op_tas {x : Operand} {t1 t2 : TypeId} {y : AV} {fs : Array Field} (hN : d < N) (hu : P.underlying t2 = some (.struct fs)) (hx : opv x s = some (.ifc t2 y)) :
  OpOK P N ⟨some d, .typeAssert x t1 t2 true, ty, pos, af, g⟩ s (rd x) [(.s d, .sv (.v (.tup [y, .bool true])))] :=
 OpOK.val rfl hN fun E G L a w t hr hR => by
  have hv := opv_sound hr hR hx
  generalize hav : a.eval x = u at hv
  cases hv
  rename_i v hy
  refine ⟨.tuple #[v, .bool true], ?_, V.tup #[v, .bool true] [y, .bool true] rfl (fun j c e => ?_)⟩
  ·simp [execOp, hav, Instr.typeAssert, run_underlying hu]
  ·match j, e with
   | 0, e => cases e; exact hy
   | 1, e => cases e; exact .bool true
end
/- The program logic's rules: what a call has made and let go of; calls that panic, the objects being somehow; several cells of an object stored at once; regions that draw their order, with a call that panics. No condition. -/
/-- The objects that a cell of an object names are such. -/
def HcIn (D : Nat → Prop) : Hc → Prop
 | .v a => OpsIn D a
 | .row _ _ xs => ∀ x ∈ xs, OpsIn D x
/-- Objects that were there, told anew: each as it was, or of values that name such objects alone. -/
structure Kin (H H1 : Hp) : Prop where
 n : H1.next = H.next
 o : ∀ i cs, H1.obj i = some cs → H.obj i = some cs ∨ ((∃ x, H.obj i = some x) ∧ ∀ x ∈ cs, HcIn (fun id => id < H.next) x)
theorem Kin.refl (H : Hp) : Kin H H := ⟨rfl, fun _ _ e => .inl e⟩
theorem Kin.set {H H1 : Hp} (h : Kin H H1) {id : Nat} {cs : List Hc} (h0 : ∃ x, H.obj id = some x) (hc : ∀ x ∈ cs, HcIn (fun id => id < H.next) x) : Kin H (H1.set id cs) := by
 refine ⟨h.n, fun i c e => ?_⟩
 simp only [Hp.set] at e
 split at e
 ·rename_i hi; subst hi; cases e; exact .inr ⟨h0, hc⟩
 ·exact h.o i c e
theorem drop_core {G G' : Gh} {w w' : World} {H H' H1 : Hp} (hH : HpOK G w H) (hok : HpOK G' w' H') (hx : GExt (foot G H w) G G' w) (hk : Kin H H1) (hobj : ∀ i, i < H.next → H'.obj i = H1.obj i) :
  HpOK (G'.res H.next) w' H1 ∧ GExt (foot G H w) G (G'.res H.next) w ∧ ∀ b, foot (G'.res H.next) H1 w' b → foot G' H' w' b := by
 have hlt : ∀ id b, G.ob id = some b → id < H.next := fun id b e => (hH.lt id b e).1
 have hres1 : ∀ id, id < H.next → (G'.res H.next).ob id = G'.ob id := fun id h => by simp [Gh.res, h]
 have hres2 : ∀ id b, (G'.res H.next).ob id = some b → id < H.next ∧ G'.ob id = some b := fun id b h => by
  simp only [Gh.res] at h
  split at h
  ·exact ⟨by assumption, h⟩
  ·cases h
 have hop : ∀ {u : Value} {a : AV}, V G u a → OpsIn (fun id => id < H.next) a := fun hu => hu.ops.mono fun id ⟨b, e⟩ => hlt id b e
 have hidl0 : ∀ id cs, H.obj id = some cs → id < H.next := fun id cs e => by
  obtain ⟨blk, _, _, q1, _⟩ := hH.obj id cs e
  exact hlt id blk q1
 have hidl : ∀ id cs, H1.obj id = some cs → id < H.next := fun id cs e => by
  rcases hk.o id cs e with h | ⟨⟨x, h⟩, _⟩
  ·exact hidl0 _ _ h
  ·exact hidl0 _ _ h
 have hcin : ∀ id cs, H1.obj id = some cs → ∀ x ∈ cs, HcIn (fun id => id < H.next) x := fun id cs e x hxm => by
  rcases hk.o id cs e with h | ⟨_, h⟩
  ·obtain ⟨blk0, arr0, el0, p1, p2, p3, p4, p5⟩ := hH.obj id cs h
   obtain ⟨j, hj⟩ := mem_get hxm
   have hp := p4 j x hj
   cases x with
   | v a => exact hop hp.2
   | row el2 esz xs =>
    have hp' : RowOK G w true el2 esz (arr0.getD j undef) xs := hp
    obtain ⟨cells0, _, _, _, l4, _⟩ := hp'
    intro y hy
    obtain ⟨i, hi⟩ := mem_get hy
    refine OpsIn.ofCells fun c hc => ?_
    obtain ⟨k, hk'⟩ := mem_get hc
    exact hop (l4.2 i y k c hi hk').2
  ·exact h x hxm
 have hrow : ∀ id j b, hrow (G'.res H.next) H1 w' id j b → X.hrow G' H' w' id j b := by
  rintro id j b ⟨cs, el, esz, xs, b0, arr, t, fr, h1, h2, h3, h4, h5⟩
  exact ⟨cs, el, esz, xs, b0, arr, t, fr, by rw [hobj id (hidl id cs h1)]; exact h1, h2, (hres2 _ _ h3).2, h4, h5⟩
 have hfoot : ∀ b, foot (G'.res H.next) H1 w' b → foot G' H' w' b := by
  rintro b (⟨id, ⟨cs, h1⟩, h2⟩ | ⟨id, j, h1⟩)
  ·exact .inl ⟨id, ⟨cs, by rw [hobj id (hidl id cs h1)]; exact h1⟩, (hres2 _ _ h2).2⟩
  ·exact .inr ⟨id, j, hrow _ _ _ h1⟩
 refine ⟨⟨fun id b e => ⟨by rw [hk.n]; exact (hres2 id b e).1, (hok.lt id b (hres2 id b e).2).2⟩, fun id id' b e e' => hok.inj id id' b (hres2 _ _ e).2 (hres2 _ _ e').2, fun id cs e => ?_, fun id j blk hh' => ?_⟩, ⟨hx.kn, fun id b e => by rw [hres1 id (hlt id b e)]; exact hx.ob id b e, fun id b e => hx.obn id b (hres2 id b e).2⟩, hfoot⟩
 ·obtain ⟨blk, arr, el, q1, q2, q3, q4, q5⟩ := hok.obj id cs (by rw [hobj id (hidl id cs e)]; exact e)
  refine ⟨blk, arr, el, by rw [hres1 id (hidl id cs e)]; exact q1, q2, q3, fun j x hx => ?_, q5⟩
  have hq := q4 j x hx
  have hp := hcin id cs e x (List.mem_of_getElem? hx)
  cases x with
  | v a => exact ⟨hq.1, hq.2.res hp⟩
  | row el2 esz xs =>
   have hq' : RowOK G' w' true el2 esz (arr.getD j undef) xs := hq
   obtain ⟨cells, k1, k2, k3, k4, k5⟩ := hq'
   exact ⟨cells, (fun e => by cases e), k2, k3, ⟨k4.1, fun i e j c a b => ⟨(k4.2 i e j c a b).1, (k4.2 i e j c a b).2.res ((hp e (List.mem_of_getElem? a)).toCells c (List.mem_of_getElem? b))⟩⟩, k5⟩
 ·obtain ⟨q1, q2⟩ := hok.apart id j blk (hrow _ _ _ hh')
  exact ⟨fun id' e => q1 id' (hres2 _ _ e).2, fun id' j' h2 => q2 id' j' (hrow _ _ _ h2)⟩
/-- What a call has made is let go of. -/
theorem Run.drop {P : Program} {f : FuncId} {args : List AV} {H H' H1 : Hp} {r : AV} (h : Run P f args H r H') (hk : Kin H H1) (hobj : ∀ i, i < H.next → H'.obj i = H1.obj i) (hro : OpsIn (fun id => id < H.next) r) : Run P f args H r H1 := by
 intro G w cargs hg hkn hH hV
 refine (h G w cargs hg hkn hH hV).mono ?_
 rintro e w' ⟨v, G', he, hv, hx, hkn', hok, hfr, hft⟩
 obtain ⟨h1, h2, h3⟩ := drop_core hH hok hx hk hobj
 exact ⟨v, G'.res H.next, he, hv.res hro, h2, hkn', h1, hfr, fun b hb => hft b (h3 b hb)⟩
/-- A CALL THAT PANICS, the objects being such. -/
def RunPE (P : Program) (f : FuncId) (args : List AV) (H : Hp) (v : Value) (K : Hp → Prop) : Prop :=
 ∀ G w cargs, GE ⟨G, w, foot G H w, []⟩ → KnOK G w → HpOK G w H → VL G cargs args → Calls P f cargs w fun e w' =>
  ∃ G' H', e = .panicked [{ v := v, recovered := false }] ∧ K H' ∧ GExt (foot G H w) G G' w ∧ KnOK G' w' ∧ HpOK G' w' H' ∧ Fr (foot G H w) w w' ∧ ∀ b, foot G' H' w' b → w.heap.size ≤ b ∨ foot G H w b
theorem RunPE.of {P : Program} {f : FuncId} {args : List AV} {H H' : Hp} {v : Value} {K : Hp → Prop} (h : RunP P f args H v H') (hK : K H') : RunPE P f args H v K := by
 intro G w cargs hg hkn hH hV
 refine (h G w cargs hg hkn hH hV).mono ?_
 rintro e w' ⟨G', he, h2⟩
 exact ⟨G', H', he, hK, h2⟩
theorem RunPE.drop {P : Program} {f : FuncId} {args : List AV} {H H1 : Hp} {v : Value} {K : Hp → Prop} (h : RunPE P f args H v K) (hk : Kin H H1) (hobj : ∀ H', K H' → ∀ i, i < H.next → H'.obj i = H1.obj i) : RunP P f args H v H1 := by
 intro G w cargs hg hkn hH hV
 refine (h G w cargs hg hkn hH hV).mono ?_
 rintro e w' ⟨G', H', he, hK, hx, hkn', hok, hfr, hft⟩
 obtain ⟨h1, h2, h3⟩ := drop_core hH hok hx hk (hobj H' hK)
 exact ⟨G'.res H.next, he, h2, hkn', h1, hfr, fun b hb => hft b (h3 b hb)⟩
theorem RunPE.of_tri {P : Program} {f : FuncId} {fn : Func} {c : Code} {N : Nat} {args : List AV} {H : Hp} {v : Value} {K : Hp → Prop} (hf : P.funcs[f]? = some fn) (hb : fn.body = some c) (hN : fn.ntmps = N) (hle : args.length ≤ N)
  (h : Tri P N c ((.h, .hp H) :: initS args 0) fun e s' => e = .panic [{ v := v, recovered := false }] ∧ ∃ H', get s' .h = some (.hp H') ∧ K H') : RunPE P f args H v K := by
 intro G w cargs hg hk hH hV
 refine calls_of_wp hf hb ?_
 have h0 := fits0 hN hle hg hk hH hV
 refine wp_mono (h ⟨G, w, foot G H w, []⟩ _ w h0) ?_
 rintro e a' w' ⟨s', ⟨G', L', hr⟩, rfl, H', hh, hK⟩
 obtain ⟨H2, g, hok, hmay⟩ := hr.heap
 rw [hh] at g; cases g
 exact ⟨hr.defs, G', H', rfl, hK, ⟨hr.old, hr.obs, hr.obn⟩, hr.kn, hok, hr.fr, hmay⟩
section
variable {P : Program} {N : Nat} {ops : Array Oper} {l : List Oper} {s : St} {Q : Exit → St → Prop} {o : Oper} {R : List Comp}
variable {d : Nat} {ty : TypeId} {pos : String} {af : Array Edge} {dst : Option Tmp} {g : Option (Nat × Bool)}
theorem TriLP.callpE {f : FuncId} {xs : Array Operand} {tys : Array TypeId} {«as» : List AV} {H : Hp} {v : Value} {K : Hp → Prop} (hf : isFn P f = true) (hH : get s .h = some (.hp H)) (ha : opvs xs.toList s = some «as») (hp : RunPE P f «as» H v K) (hq : ∀ H', K H' → Q (.panic [{ v := v, recovered := false }]) ((.h, .hp H') :: s)) :
  TriLP P N ops (⟨dst, .call { callee := .value (.func f), args := xs, argTypes := tys }, ty, pos, af, none⟩ :: l) s Q := by
 intro E a w ⟨G, L, hr⟩ QQ hQ
 refine wpList_plain rfl fun K' hK => ?_
 obtain ⟨cargs, he, hV⟩ := enter_func (ty := ty) (pos := pos) (af := af) (g := none) hf ha (dst := dst) E G L a w s hr (fun _ _ => rfl)
 obtain ⟨H2, hH2, hok, hmay⟩ := hr.heap
 rw [hH] at hH2; cases hH2
 unfold Oper.wp
 rw [he]
 refine (hp G w cargs (hr.geAt hH) hr.kn hok hV).mono ?_
 rintro e w' ⟨G', H', rfl, hK', hx, hkn, hok', hf', hft⟩
 exact hQ _ _ _ _ ⟨G', L, hr.called hH hx hkn hok' hf' hft⟩ (hq H' hK')
def isHv : Hc → Bool
 | .v _ => true
 | _ => false
def setHc (cs : List Hc) (off : Nat) (ys : List AV) : List Hc := cs.take off ++ ys.map .v ++ cs.drop (off + ys.length)
/-- store of several cells into an object -/
theorem op_stcm {t1 : TypeId} {x y : Operand} {id off n : Nat} {b : Bool} {cs : List Hc} {av : AV} {H : Hp} (hl : lk P t1 = some (b, n)) (hx : opv x s = some (.op id off)) (hH : get s .h = some (.hp H)) (ho : H.obj id = some cs) (hy : opv y s = some av) (ht : (Sv.v av).isTup = false)
  (hn : av.cells.length = n) (hf : off + n ≤ cs.length) (hold : ((cs.drop off).take n).all isHv = true) :
  OpOK P N ⟨none, .store t1 x y, ty, pos, af, g⟩ s (rd x ++ (rd y ++ [.h])) [(.h, .hp (H.set id (setHc cs off av.cells)))] := by
 intro t hR E G L a w hr K Q hK
 have hv := opv_sound hr hR.left hx
 have hz := opv_sound hr hR.right.left hy
 generalize hav : a.eval x = u at hv
 cases hv
 rename_i blk hb
 obtain ⟨H0, gH, hok, hmay⟩ := hr.heap
 have hHt : get t .h = some (.hp H) := by rw [hR .h (by simp)]; exact hH
 rw [hHt] at gH; cases gH
 obtain ⟨blk0, arr, el1, p1, p2, p3, p4, p5⟩ := hok.obj id cs ho
 rw [hb] at p1; cases p1
 obtain ⟨h1, h2⟩ := V.cells hz (fun vs e => by subst e; cases ht)
 have hlen : (a.eval y).cells.toList.length = n := by rw [Array.length_toList, h1, hn]
 have hone : ∀ u ∈ (a.eval y).cells.toList, u.oneCell' = true := by
  intro u hu
  obtain ⟨j, hj, rfl⟩ := List.mem_iff_getElem.1 hu
  have hj' : j < av.cells.length := by omega
  obtain ⟨q1, q2⟩ := h2 j av.cells[j] (by simp [hj'])
  have : (a.eval y).cells.getD j undef = (a.eval y).cells.toList[j] := by
   rw [Array.getD_eq_getD_getElem?, ← Array.getElem?_toList, List.getElem?_eq_getElem hj]; rfl
  rw [← this]
  exact q2.oneCell q1
 have hst := run_storeCells_at P blk off el1 (a.eval y).cells.toList 0 arr w p2 (by rw [hlen, p3]; simpa using hf) hone
 obtain ⟨_, hs⟩ := lk_run hl w
 simp only [Nat.add_zero] at hst
 let arr' : Array Value := (arr.toList.take off ++ (a.eval y).cells.toList ++ arr.toList.drop (off + (a.eval y).cells.toList.length)).toArray
 have hrun : (execOp a.eval ⟨none, .store t1 x y, ty, pos, af, g⟩).run P w = .ok .skip (w.setRow blk arr') := by
  have hne : ¬ ((a.eval y).cells.size ≠ n) := by rw [h1, hn]; simp
  simp only [execOp, Sem.run_bind, hav, Instr.storeAt, Instr.sureAddr, Sem.run_pure, Result.andThen_ok, storeVar, hs]
  rw [if_neg hne]
  simp only [hst, Result.andThen_ok]
  rfl
 have hl1 : (arr.toList.take off).length = off := by rw [List.length_take, Array.length_toList]; omega
 have hl2 : (cs.take off).length = off := by rw [List.length_take]; omega
 have key : ∀ j, arr'.getD j undef = if j < off then arr.getD j undef else if j < off + n then (a.eval y).cells.getD (j - off) undef else arr.getD j undef := by
  intro j
  simp only [arr', Array.getD_eq_getD_getElem?, List.getElem?_toArray]
  rw [List.append_assoc]
  split
  ·rename_i hj
   rw [List.getElem?_append_left (by omega), List.getElem?_take, if_pos hj, Array.getElem?_toList]
  ·rename_i hj
   rw [List.getElem?_append_right (by omega), hl1]
   split
   ·rename_i hj2
    rw [List.getElem?_append_left (by omega), Array.getElem?_toList]
   ·rename_i hj2
    rw [List.getElem?_append_right (by omega), hlen, List.getElem?_drop, Array.getElem?_toList]
    congr 2
    omega
 have hset : ∀ (j : Nat) x, (setHc cs off av.cells)[j]? = some x → (off ≤ j ∧ j < off + n ∧ ∃ c, av.cells[j - off]? = some c ∧ x = .v c) ∨ (¬ (off ≤ j ∧ j < off + n) ∧ cs[j]? = some x) := by
  intro j x e
  simp only [setHc] at e
  rw [List.append_assoc] at e
  by_cases hj : j < off
  ·rw [List.getElem?_append_left (by omega), List.getElem?_take, if_pos hj] at e
   exact .inr ⟨by omega, e⟩
  ·rw [List.getElem?_append_right (by omega), hl2] at e
   by_cases hj2 : j < off + n
   ·rw [List.getElem?_append_left (by simp; omega), List.getElem?_map] at e
    obtain ⟨c, hc, rfl⟩ := Option.map_eq_some_iff.1 e
    exact .inl ⟨by omega, hj2, c, hc, rfl⟩
   ·rw [List.getElem?_append_right (by simp; omega), List.getElem?_drop] at e
    have he : off + av.cells.length + (j - off - (av.cells.map Hc.v).length) = j := by simp; omega
    rw [he] at e
    exact .inr ⟨by omega, e⟩
 have hr2 := hr.turnobj (cs' := setHc cs off av.cells) (arr' := arr') (w' := w.setRow blk arr') hHt ho hb p2 rfl rfl rfl (size_setRow w blk arr') (fun j hj => setRow_other w blk j arr' hj) (setRow_heap w blk arr arr' el1 (0, 0) p2)
  (by simp only [arr', setHc, List.size_toArray, List.length_append, hl1, hl2, hlen, hn, List.length_drop, Array.length_toList, List.length_map, p3])
  (fun j x e => by
   rw [key j]
   rcases hset j x e with ⟨q1, q2, c, hc, rfl⟩ | ⟨q1, q2⟩
   ·rw [if_neg (by omega), if_pos q2]
    exact h2 _ c hc
   ·by_cases hj : j < off
    ·rw [if_pos hj]; exact p4 j x q2
    ·rw [if_neg hj, if_neg (by omega)]; exact p4 j x q2)
  (fun j el esz xs e => by
   rcases hset j _ e with ⟨_, _, c, _, q⟩ | ⟨q1, q2⟩
   ·cases q
   ·refine ⟨q2, ?_⟩
    rw [key j]
    by_cases hj : j < off
    ·rw [if_pos hj]
    ·rw [if_neg hj, if_neg (by omega)])
 unfold Oper.wp
 rw [hrun]
 exact hK undef _ G L hr2
end
/- The program logic's rules: functions that read, make objects, and let go of them. No condition. -/
/-- one object more -/
def Hp.new (H : Hp) (cs : List Hc) : Hp := (⟨H.next + 1, H.obj⟩ : Hp).set H.next cs
theorem Hp.new_obj (H : Hp) (cs : List Hc) : (H.new cs).obj H.next = some cs := Hp.set_obj
theorem Hp.new_low (H : Hp) (cs : List Hc) {i : Nat} (h : i < H.next) : (H.new cs).obj i = H.obj i := by
 simp only [Hp.new, Hp.set]; rw [if_neg (by omega)]
theorem Hp.new_set (H : Hp) (cs ds : List Hc) : (H.new cs).set H.next ds = H.new ds := Hp.set_set
theorem Hp.set_comm {H : Hp} {i j : Nat} {cs ds : List Hc} (h : i ≠ j) : (H.set i cs).set j ds = (H.set j ds).set i cs := by
 simp only [Hp.set]
 congr 1
 funext k
 by_cases h1 : k = i
 ·subst h1; simp [h]
 ·by_cases h2 : k = j
  ·subst h2; simp [h1]
  ·simp [h1, h2]
theorem Hp.set_new {H : Hp} {i : Nat} {cs ds : List Hc} (h : i < H.next) : (H.set i cs).new ds = (H.new ds).set i cs := by
 have h2 : H.next ≠ i := by omega
 simp only [Hp.new, Hp.set]
 congr 1
 funext k
 by_cases h1 : k = i
 ·subst h1; simp [Ne.symm h2]
 ·by_cases h3 : k = H.next
  ·subst h3; simp [h2]
  ·simp [h1, h3]
section
variable {α : Type} {P : Program} {f : FuncId} {fn : Func} {args : List AV} {Hat : Nat → Hp} {av : α → AV} {pv : Nat → Value} {i j n : Nat} {r : PR α} {a : α}
/-- how a function that reads ends, having made objects -/
def EndD (P : Program) (fn : Func) (n : Nat) (Hat : Nat → Hp) (av : α → AV) (pv : Nat → Value) (r : PR α) (e : Exit) (s : St) : Prop :=
 match r with
 | .ok a j => (e = .normal ∨ e = .ret) ∧ ResOK P fn s (av a) ∧ ∃ H', get s .h = some (.hp H') ∧ ∀ k, k < n → H'.obj k = (Hat j).obj k
 | .bad j => e = .panic [{ v := pv j, recovered := false }] ∧ ∃ H', get s .h = some (.hp H') ∧ ∀ k, k < n → H'.obj k = (Hat j).obj k
theorem EndD.fin {e : Exit} {s : St} (h : r = .ok a j) (k : (e = .normal ∨ e = .ret) ∧ ResOK P fn s (av a) ∧ ∃ H', get s .h = some (.hp H') ∧ ∀ k, k < n → H'.obj k = (Hat j).obj k) : EndD P fn n Hat av pv r e s := by subst h; exact k
theorem EndD.pan {s : St} {v : Value} {H' : Hp} (h : r = .bad j) (hv : v = pv j) (k : get s .h = some (.hp H')) (ho : ∀ k, k < n → H'.obj k = (Hat j).obj k) : EndD P fn n Hat av pv r (.panic [{ v := v, recovered := false }]) s := by subst h; subst hv; exact ⟨rfl, H', k, ho⟩
/-- a function that ends so, whatever it has made -/
theorem Run.of_triX {c : Code} {N : Nat} {H H1 : Hp} {r : AV} (hf : P.funcs[f]? = some fn) (hb : fn.body = some c) (hN : fn.ntmps = N) (hle : args.length ≤ N) (hk : Kin H H1) (hro : OpsIn (fun id => id < H.next) r)
  (h : Tri P N c ((.h, .hp H) :: initS args 0) fun e s' => (e = .normal ∨ e = .ret) ∧ ResOK P fn s' r ∧ ∃ H', get s' .h = some (.hp H') ∧ ∀ k, k < H.next → H'.obj k = H1.obj k) : Run P f args H r H1 := by
 intro G w cargs hg hkn hH hV
 refine calls_of_wp hf hb ?_
 have h0 := fits0 hN hle hg hkn hH hV
 refine wp_mono (h ⟨G, w, foot G H w, []⟩ _ w h0) ?_
 rintro e a' w' ⟨s', ⟨G', L', hr⟩, he, hres, H', hh, hobj⟩
 obtain ⟨v, hv, hV'⟩ := hres _ _ _ _ _ _ hr
 obtain ⟨H2, g, hok, hmay⟩ := hr.heap
 rw [hh] at g; cases g
 obtain ⟨h1, h2, h3⟩ := drop_core hH hok ⟨hr.old, hr.obs, hr.obn⟩ hk hobj
 have hpost : ∃ v2 G'', Ending.returned v = .returned v2 ∧ V G'' v2 r ∧ GExt (foot G H w) G G'' w ∧ KnOK G'' w' ∧ HpOK G'' w' H1 ∧ Fr (foot G H w) w w' ∧ ∀ b, foot G'' H1 w' b → w.heap.size ≤ b ∨ foot G H w b :=
  ⟨v, G'.res H.next, rfl, hV'.res hro, h2, hr.kn, h1, hr.fr, fun b hb => hmay b (h3 b hb)⟩
 rcases he with rfl | rfl
 ·exact ⟨hr.defs, v, hv, hpost⟩
 ·exact ⟨hr.defs, v, hv, hpost⟩
theorem RunR.of_triD {c : Code} {N : Nat} (hf : P.funcs[f]? = some fn) (hb : fn.body = some c) (hN : fn.ntmps = N) (hle : args.length ≤ N) (hk : ∀ j, Kin (Hat i) (Hat j)) (hro : ∀ a j, r = .ok a j → OpsIn (fun id => id < (Hat i).next) (av a))
  (h : Tri P N c ((.h, .hp (Hat i)) :: initS args 0) (EndD P fn (Hat i).next Hat av pv r)) : RunR P f args Hat av pv i r := by
 cases r with
 | ok a j => exact Run.of_triX hf hb hN hle (hk j) (hro a j rfl) h
 | bad j =>
  refine RunPE.drop (K := fun H' => ∀ k, k < (Hat i).next → H'.obj k = (Hat j).obj k) ?_ (hk j) (fun H' h => h)
  exact RunPE.of_tri hf hb hN hle h
end
end Go.Proofs.YtabihkfhoohfnaaGreatDoor.X
