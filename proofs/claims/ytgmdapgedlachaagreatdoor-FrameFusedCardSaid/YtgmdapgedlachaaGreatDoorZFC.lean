/- The program logic's rules: a shared object read, and written, where it lies. No condition. -/
import Derived.Test.YtgmdapgedlachaaGreatDoorZFB
import Derived.Scope
import Derived.Lib.AppendStr
import Derived.Test.YtgmdapgedlachaaGreatDoorRows
import Derived.WalkKit
import Derived.ProofKit
import Derived.OpenShut
import Derived.Carry
import Derived.JoinedCond
import Derived.Deep.Strs
import Derived.Deep.Slices
import Derived.Lib.SmallJoins
import Derived.SizedLaws
import Derived.Maps.Own
import Derived.Maps.OwnSet
import Derived.Maps.Views
import Derived.Defers
import Derived.Recover
set_option linter.unusedVariables false
set_option linter.unusedSimpArgs false
namespace Go.Proofs.YtgmdapgedlachaaGreatDoor.X
open Go Go.RowKit

theorem aD.cy {P : Program} {N : Nat} {ops : Array Oper} {l : List Oper} {s : St} {Q : St → Prop} (h : Kept s fun s' => aD P N ops l s' Q) : aD P N ops l s Q := by
 intro E a w hf
 obtain ⟨s', h1, h2⟩ := h E N a w hf
 exact h2 E a w h1
theorem Rel.nr {E : eB} {N : Nat} {G : Gh} {L : Loc} {a : Act} {w w' : World} {s : St} (h : Rel E N G L a w s) {H : Hp} {id blk : Nat} {cs cs' : List Hc} {arr arr' : Array Value} {el0 : TypeId} (hH : get s .h = some (.hp H)) (ho : H.obj id = some cs) (hb : G.ob id = some blk)
  (hh : w.heap[blk]? = some (.cells arr el0 (0, 0))) (h1 : w'.os = w.os) (h2 : w'.tape = w.tape) (h3 : w'.output = w.output) (h4 : w'.heap.size = w.heap.size) (h5 : ∀ j, j ≠ blk → w'.heap[j]? = w.heap[j]?) (h6 : w'.heap[blk]? = some (.cells arr' el0 (0, 0)))
  (hsz : arr'.size = arr.size ∧ cs'.length ≤ arr'.size) (hc : ∀ (j : Nat) x, cs'[j]? = some x → Mk G w (arr'.getD j undef) x) (hrw : ∀ (j : Nat) el esz xs, cs'[j]? = some (.row el esz xs) → cs[j]? = some (.row el esz xs) ∧ arr'.getD j undef = arr.getD j undef) :
  Rel E N G L a w' ((.h, .hp (H.set id cs')) :: s) := by
 obtain ⟨H0, gH, hok, hmay⟩ := h.heap
 rw [hH] at gH; cases gH
 obtain ⟨blk0, arr0, el1, p1, p2, p3, p4, p5⟩ := hok.obj id cs ho
 rw [hb] at p1; cases p1
 rw [hh] at p2; cases p2
 have hmine : aa G H w blk := .inl ⟨id, ⟨cs, ho⟩, hb⟩
 have hobj : ∀ i hs2, (H.set id cs').obj i = some hs2 → (i = id ∧ hs2 = cs') ∨ (i ≠ id ∧ H.obj i = some hs2) := by
  intro i hs2 e
  by_cases e2 : i = id
  ·have e3 : (if i = id then some cs' else H.obj i) = some hs2 := e
   rw [if_pos e2] at e3; cases e3; exact .inl ⟨e2, rfl⟩
  ·have e3 : (if i = id then some cs' else H.obj i) = some hs2 := e
   rw [if_neg e2] at e3; exact .inr ⟨e2, e3⟩
 have hhr : ∀ i j b, bw G (H.set id cs') w' i j b → bw G H w i j b := by
  rintro i j b ⟨cs2, el, esz, xs, b0, arr2, t2, fr, q1, q2, q3, q4, q5⟩
  rcases hobj _ _ q1 with ⟨rfl, rfl⟩ | ⟨e1, e2⟩
  ·rw [hb] at q3; cases q3
   rw [h6] at q4; cases q4
   obtain ⟨r1, r2⟩ := hrw j el esz xs q2
   rw [r2] at q5
   exact ⟨cs, el, esz, xs, blk, arr, _, _, ho, r1, hb, hh, q5⟩
  ·have hne : b0 ≠ blk := fun e => e1 (hok.inj _ _ _ (e ▸ q3) hb ⟨_, e2⟩ ⟨_, ho⟩)
   rw [h5 b0 hne] at q4
   exact ⟨cs2, el, esz, xs, b0, arr2, t2, fr, e2, q2, q3, q4, q5⟩
 have hinj : ∀ i i' b, G.ob i = some b → G.ob i' = some b → (∃ c, (H.set id cs').obj i = some c) → (∃ c, (H.set id cs').obj i' = some c) → i = i' := by
  have hl : ∀ i, (∃ c, (H.set id cs').obj i = some c) → ∃ c, H.obj i = some c := by
   rintro i ⟨c, k⟩
   rcases hobj _ _ k with ⟨rfl, _⟩ | ⟨_, p⟩
   ·exact ⟨_, ho⟩
   ·exact ⟨_, p⟩
  exact fun i i' b e e' k k' => hok.inj i i' b e e' (hl i k) (hl i' k')
 have hft : ∀ b, aa G (H.set id cs') w' b → aa G H w b := by
  rintro b (⟨i, ⟨hs2, q1⟩, q2⟩ | ⟨i, j, q1⟩)
  ·rcases hobj _ _ q1 with ⟨rfl, rfl⟩ | ⟨e1, e2⟩
   ·rw [hb] at q2; cases q2; exact hmine
   ·exact .inl ⟨i, ⟨hs2, e2⟩, q2⟩
  ·exact .inr ⟨i, j, hhr _ _ _ q1⟩
 have hown : ∀ c b, owns ((.h, .hp (H.set id cs')) :: s) L c b → owns s L c b := by
  intro c b hc
  cases c <;> simp only [owns, get, reduceCtorEq, if_false] at hc ⊢ <;> exact hc
 have hne : ∀ c b, owns s L c b → b ≠ blk := fun c b hc e => h.hdisj c b hc H hH (e ▸ hmine)
 have hcell : ∀ p v, w.cell? p = some v → p.block ≠ blk → w'.cell? p = some v := by
  intro p v hc hne
  rw [World.cell?_of_block (w := w) (h5 p.block hne)]; exact hc
 have hrow2 : ∀ (v : Value) (i j : Nat) el esz xs, fG G w true el esz v xs → (∀ b, v.ownBlock = some b → bw G H w i j b) → fG G w' true el esz v xs := fun v i j el esz xs hr hv =>
  hr.stay (Gh.le.refl G) (fun b e => h5 b (fun e2 => (hok.apart i j b (hv b e)).1 id (e2 ▸ hb))) (fun _ _ _ => rfl)
 refine ⟨h.size, h.defs, h.ge, fun b j v e => hcell _ _ (h.kn b j v e) (fun e' => ?_), h.old, h.obs, h.obn, ⟨h1.trans h.fr.os, h2.trans h.fr.tape, h3.trans h.fr.output, by rw [h4]; exact h.fr.size, fun j hj hno => ?_⟩, ?_, ?_, ?_,
  fun c d b hc hd => h.disj c d b (hown _ _ hc) (hown _ _ hd), ⟨_, rfl, ⟨fun i b e => ⟨(hok.lt i b e).1, by rw [h4]; exact (hok.lt i b e).2⟩, hinj, ?_, ?_⟩, fun b hb2 => hmay b (hft b hb2)⟩, ?_, fun k g => h.nobox k (by simpa [get] using g), fun k g => h.notok k (by simpa [get] using g)⟩
 ·simp at e'; subst e'; rw [p5 j] at e; cases e
 ·rw [h5 j (fun e => by
   subst e
   rcases hmay j hmine with e | e
   ·omega
   ·exact hno e)]
  exact h.fr.block j hj hno
 ·intro n x g; exact h.slot n x (by simpa [get] using g)
 ·intro j cv g hl
  have g' : get s (.b j) = some cv := by simpa [get] using g
  exact (h.box j cv g' hl).stay (Gh.le.refl G) (fun _ _ e => .inl ⟨_, e⟩) (fun b hb' => h5 b (hne (.b j) b ⟨⟨cv, g', hl⟩, hb'⟩)) (fun _ _ _ => rfl)
 ·intro j m el esz xs g
  have g' : get s (.t j) = some (.tk m el esz xs) := by simpa [get] using g
  exact (h.tok j m el esz xs g').stay (Gh.le.refl G) (fun _ _ e => .inl ⟨_, e⟩) (fun v b hv hb' => h5 b (hne (.t j) b ⟨⟨m, el, esz, xs, g'⟩, v, hv, hb'⟩)) (fun _ _ _ _ _ => rfl)
 ·intro i hs2 e
  rcases hobj _ _ e with ⟨rfl, rfl⟩ | ⟨e1, e2⟩
  ·refine ⟨blk, arr', el0, hb, h6, ⟨hsz.2, by rw [hsz.1]; exact p3.2⟩, fun j x hx => ?_, p5⟩
   have := hc j x hx
   cases x with
   | v b => exact this
   | row el esz xs =>
    obtain ⟨r1, r2⟩ := hrw j el esz xs hx
    exact hrow2 _ i j el esz xs this (fun b e => ⟨cs, el, esz, xs, blk, arr, _, _, ho, r1, hb, hh, by rw [← r2]; exact e⟩)
  ·obtain ⟨b2, arr2, el2, q1, q2, q3, q4, q5⟩ := hok.obj i hs2 e2
   have hne2 : b2 ≠ blk := fun e => e1 (hok.inj _ _ _ (e ▸ q1) hb ⟨_, e2⟩ ⟨_, ho⟩)
   refine ⟨b2, arr2, el2, q1, by rw [h5 b2 hne2]; exact q2, q3, fun j x hx => ?_, q5⟩
   have := q4 j x hx
   cases x with
   | v b => exact this
   | row el esz xs => exact hrow2 _ i j el esz xs this (fun b e => ⟨hs2, el, esz, xs, b2, arr2, _, _, e2, hx, q1, q2, e⟩)
 ·intro i j b hr
  obtain ⟨q1, q2⟩ := hok.apart i j b (hhr _ _ _ hr)
  exact ⟨q1, fun i' j' hr' => q2 i' j' (hhr _ _ _ hr')⟩
 ·intro c b hc H2 g2 hf2
  simp [get] at g2
  subst g2
  exact h.hdisj c b (hown _ _ hc) H hH (hft b hf2)
section
variable {P : Program} {N : Nat} {s : St} {d : Nat} {ty : TypeId} {pos : String} {af : Array Edge} {g : Option (Nat × Bool)}
theorem qp {x : Operand} {id off : Nat} (hN : d < N) (hx : cV x s = some (.op id off)) : aW P N ⟨some d, .nilCheck x, ty, pos, af, g⟩ s (rd x) [(.s d, .sv (.v (.op id off)))] :=
 aW.val rfl hN fun E G L a w t hr hR => by
  have hv := aT hr hR hx
  generalize hav : a.eval x = u at hv
  cases hv
  rename_i blk hb
  exact ⟨.pointer (some ⟨blk, off, none⟩), by simp [execOp, hav], V.op id off blk hb⟩
theorem vh {t1 : TypeId} {x : Operand} {i id off o : Nat} (hN : d < N) (hf : fo P t1 i = some o) (hx : cV x s = some (.op id off)) :
  aW P N ⟨some d, .fieldAddr t1 x i, ty, pos, af, g⟩ s (rd x) [(.s d, .sv (.v (.op id (off + o))))] :=
 aW.val rfl hN fun E G L a w t hr hR => by
  have hv := aT hr hR hx
  generalize hav : a.eval x = u at hv
  cases hv
  rename_i blk hb
  exact ⟨.pointer (some ⟨blk, off + o, none⟩), by simp [execOp, hav, AD hf, Addr.add_lit], V.op id (off + o) blk hb⟩
theorem bB {t1 : TypeId} {x : Operand} {id off n : Nat} {b : Bool} {cs : List Hc} {z : Sv} {H : Hp} (hN : d < N) (hl : lk P t1 = some (b, n)) (hx : cV x s = some (.op id off)) (hH : get s .h = some (.hp H)) (ho : H.obj id = some cs) (hz : wP b n ((cs.map fun c => Sv.v (ph c)).drop off) = some z) :
  aW P N ⟨some d, .load t1 x, ty, pos, af, g⟩ s (rd x ++ [.h]) [(.s d, .sv z)] :=
 aW.val rfl hN fun E G L a w t hr hR => by
  have hv := aT hr hR.left hx
  generalize hav : a.eval x = u at hv
  cases hv
  rename_i blk hb
  obtain ⟨H0, gH, hok, hmay⟩ := hr.heap
  rw [hR .h (by simp), hH] at gH; cases gH
  obtain ⟨blk0, arr, el1, p1, p2, p3, p4, p5⟩ := hok.obj id cs ho
  rw [hb] at p1; cases p1
  have hcell : ∀ (j : Nat) y, ((cs.map fun c => Sv.v (ph c)).drop off)[j]? = some y → w.cell? ((⟨blk, off, none⟩ : Addr).add j) = some (arr.getD (off + j) undef) ∧ y.flat = true ∧ SV G L (arr.getD (off + j) undef) y := by
   intro j y e
   rw [List.getElem?_drop, List.getElem?_map] at e
   cases hc : cs[off + j]? with
   | none => rw [hc] at e; cases e
   | some c =>
    rw [hc] at e; cases e
    have hlt : off + j < arr.size := by have := (List.getElem?_eq_some_iff.1 hc).1; omega
    refine ⟨?_, BV (p4 _ c hc)⟩
    rw [Addr.add_lit, cell_of_row w blk (off + j) arr el1 (0, 0) p2, Array.getD_eq_getD_getElem?, Array.getElem?_eq_getElem hlt]
    rfl
  obtain ⟨v, hrun, hV⟩ := fm (P := P) hl hz hcell
  refine ⟨v, ?_, hV⟩
  simp [execOp, hav, Instr.loadAt, Instr.sureAddr, hrun]
theorem sO {t1 : TypeId} {x y : Operand} {id off : Nat} {b : Bool} {cs : List Hc} {av old : AV} {H : Hp} (hl : lk P t1 = some (b, 1)) (hx : cV x s = some (.op id off)) (hH : get s .h = some (.hp H)) (ho : H.obj id = some cs) (hy : cV y s = some av) (hfl : av.flat = true) (hold : cs[off]? = some (.v old)) :
  aW P N ⟨none, .store t1 x y, ty, pos, af, g⟩ s (rd x ++ (rd y ++ [.h])) [(.h, .hp (H.set id (cs.set off (.v av))))] := by
 intro t hR E G L a w hr K Q hK
 have hv := aT hr hR.left hx
 have hz := aT hr hR.right.left hy
 generalize hav : a.eval x = u at hv
 cases hv
 rename_i blk hb
 obtain ⟨H0, gH, hok, hmay⟩ := hr.heap
 have hHt : get t .h = some (.hp H) := by rw [hR .h (by simp)]; exact hH
 rw [hHt] at gH; cases gH
 obtain ⟨blk0, arr, el1, p1, p2, p3, p4, p5⟩ := hok.obj id cs ho
 rw [hb] at p1; cases p1
 have hone := hz.fX hfl
 have hcl : (a.eval y).cells = #[a.eval y] := kv hone
 have hlt : off < cs.length := (List.getElem?_eq_some_iff.1 hold).1
 have hst := run_storeCells_at P blk off el1 [a.eval y] 0 arr w p2 (by simp; omega) (fun u hu => by simp at hu; subst hu; exact hone)
 obtain ⟨_, hs⟩ := pV hl w
 simp only [Nat.add_zero] at hst
 let arr' : Array Value := (arr.toList.take off ++ [a.eval y] ++ arr.toList.drop (off + [a.eval y].length)).toArray
 have hrun : (execOp a.eval ⟨none, .store t1 x y, ty, pos, af, g⟩).run P w = .ok .skip (w.setRow blk arr') := by
  have hne : ¬ ((a.eval y).cells.size ≠ 1) := by rw [hcl]; simp
  simp only [execOp, Sem.run_bind, hav, Instr.storeAt, Instr.sureAddr, Sem.run_pure, Result.andThen_ok, storeVar, hs]
  rw [if_neg hne, hcl]
  simp only [hst, Result.andThen_ok]
  rfl
 have hl1 : (arr.toList.take off).length = off := by rw [List.length_take, Array.length_toList]; omega
 have key : ∀ j, arr'.getD j undef = if j = off then a.eval y else arr.getD j undef := by
  intro j
  simp only [arr', Array.getD_eq_getD_getElem?, List.getElem?_toArray]
  rw [List.append_assoc]
  by_cases hj : j < off
  ·rw [List.getElem?_append_left (by omega), List.getElem?_take, if_pos hj, Array.getElem?_toList, if_neg (by omega)]
  ·rw [List.getElem?_append_right (by omega), hl1]
   by_cases hj2 : j = off
   ·subst hj2; simp
   ·rw [if_neg hj2, List.getElem?_append_right (by simp; omega), List.getElem?_drop, Array.getElem?_toList]
    congr 2
    simp; omega
 have hset : ∀ (j : Nat) x, (cs.set off (.v av))[j]? = some x → (j = off ∧ x = .v av) ∨ (j ≠ off ∧ cs[j]? = some x) := by
  intro j x e
  by_cases hj : j = off
  ·subst hj
   rw [List.getElem?_set_self hlt] at e; cases e; exact .inl ⟨rfl, rfl⟩
  ·rw [List.getElem?_set_ne (by omega)] at e; exact .inr ⟨hj, e⟩
 have hr2 := hr.nr (cs' := cs.set off (.v av)) (arr' := arr') (w' := w.setRow blk arr') hHt ho hb p2 rfl rfl rfl (size_setRow w blk arr') (fun j hj => setRow_other w blk j arr' hj) (setRow_heap w blk arr arr' el1 (0, 0) p2)
  (by constructor <;> simp only [arr', List.size_toArray, List.length_append, hl1, List.length_drop, Array.length_toList, List.length_set, List.length_cons, List.length_nil] <;> omega)
  (fun j x e => by
   rw [key j]
   rcases hset j x e with ⟨rfl, rfl⟩ | ⟨h1, h2⟩
   ·rw [if_pos rfl]; exact ⟨hfl, hz⟩
   ·rw [if_neg h1]; exact p4 j x h2)
  (fun j el esz xs e => by
   rcases hset j _ e with ⟨rfl, h2⟩ | ⟨h1, h2⟩
   ·cases h2
   ·exact ⟨h2, by rw [key j, if_neg h1]⟩)
 unfold Oper.wp
 rw [hrun]
 exact hK undef _ G L hr2
end

section
variable {P : Program} {N : Nat} {s : St} {d : Nat} {ty : TypeId} {pos : String} {af : Array Edge} {g : Option (Nat × Bool)}
theorem Lq {t1 : TypeId} {x y : Operand} {k off el : Nat} {b : Bool} {xs : List AV} {av : AV} (hl : lk P t1 = some (b, 1)) (hx : gS x s = some (.ta k off)) (hk : get s (.t k) = some (.tk true el 1 xs)) (hy : cV y s = some av) (hfl : av.flat = true) (hf : off < xs.length) :
  aW P N ⟨none, .store t1 x y, ty, pos, af, g⟩ s (rd x ++ (rd y ++ [.t k])) [(.t k, .tk true el 1 (jz xs off [av]))] := by
 intro t hR E G L a w hr K Q hK
 obtain ⟨blk, m, c, htk, hv⟩ := bj hr hR.left hx
 have hz := aT hr hR.right.left hy
 have hk' : get t (.t k) = some (.tk true el 1 xs) := by rw [hR (.t k) (by simp)]; exact hk
 obtain ⟨v, cells, hv2, ho, hpos, hLx⟩ := vD hr hk'
 rw [htk] at hv2; cases hv2
 obtain ⟨cur, q1, q0, q2, q3, q4, q5⟩ := wm ho rfl
 simp only [Nat.mul_one] at q4 q5 ⊢
 have hcl : cells.length = xs.length := by have := ho.1; omega
 have hone := hz.fX hfl
 have hcl1 : (a.eval y).cells = #[a.eval y] := kv hone
 have hst := run_storeCells_at P blk off el [a.eval y] 0 cur w q1 (by simp; omega) (fun u hu => by simp at hu; subst hu; exact hone)
 obtain ⟨_, hs⟩ := pV hl w
 simp only [Nat.add_zero] at hst
 have hrun : (execOp a.eval ⟨none, .store t1 x y, ty, pos, af, g⟩).run P w = .ok .skip (w.setRow blk (cur.toList.take off ++ [a.eval y] ++ cur.toList.drop (off + [a.eval y].length)).toArray) := by
  have hne : ¬ ((a.eval y).cells.size ≠ 1) := by rw [hcl1]; simp
  simp only [execOp, Sem.run_bind, hv, Instr.storeAt, Instr.sureAddr, Sem.run_pure, Result.andThen_ok, storeVar, hs]
  rw [if_neg hne, hcl1]
  simp only [hst, Result.andThen_ok]
 have hL : Lay G 1 [av] [a.eval y] := by
  refine ⟨fun i e he => ?_, fun i e j c he hj => ?_⟩
  ·have : i = 0 := by have := (List.getElem?_eq_some_iff.1 he).1; simp at this; exact this
   subst this; simp at he; subst he; rw [AV.gm hfl]; rfl
  ·have : i = 0 := by have := (List.getElem?_eq_some_iff.1 he).1; simp at this; exact this
   subst this; simp at he; subst he
   rw [AV.gm hfl] at hj
   have : j = 0 := by have := (List.getElem?_eq_some_iff.1 hj).1; simp at this; exact this
   subst this; simp at hj; subst hj
   exact ⟨hfl, hz⟩
 have hw' := setRow_heap w blk cur (cur.toList.take off ++ [a.eval y] ++ cur.toList.drop (off + [a.eval y].length)).toArray el (0, 0) q1
 have hsl := yv (xs := xs) (zs := [av]) (lo := off) (by simp; omega)
 have hr2 := hr.H7 (blk := blk) (ys := jz xs off [av]) (cells := cells.take off ++ [a.eval y] ++ cells.drop (off + [a.eval y].length)) hk' htk rfl (w' := w.setRow blk (cur.toList.take off ++ [a.eval y] ++ cur.toList.drop (off + [a.eval y].length)).toArray) rfl rfl rfl (size_setRow w blk _) (fun j hj => setRow_other w blk j _ hj) hpos (by
  refine ⟨?_, .inr ⟨blk, c, (cur.toList.take off ++ [a.eval y] ++ cur.toList.drop (off + [a.eval y].length)).toArray, by rw [hsl, q0], Nat.zero_le _, hw', by rw [hsl]; exact q2, q3, ?_, ?_⟩⟩
  ·simp only [List.length_append, List.length_take, List.length_drop, List.length_cons, List.length_nil]; omega
  ·simp only [List.size_toArray, List.length_append, List.length_take, List.length_drop, Array.length_toList, List.length_cons, List.length_nil]; omega
  ·rw [hsl, Nat.mul_one, ← q5]
   simp only [List.append_assoc, List.length_cons, List.length_nil]
   have e1 : (cur.toList.take off).length = off := by rw [List.length_take, Array.length_toList]; omega
   rw [List.take_append, e1, List.take_take, Nat.min_eq_right (by omega), List.take_append, List.take_of_length_le (l := [a.eval y]) (by simp; omega), List.take_take, Nat.min_eq_left (by omega), List.drop_take]
   congr 3) (xh hLx hL hcl rfl (by simp; omega))
 unfold Oper.wp
 rw [hrun]
 exact hK undef _ G L hr2
end

section
variable {P : Program} {N : Nat} {ops : Array Oper} {l : List Oper} {s : St} {Q : St → Prop} {o : Oper}
theorem aD.step {R : List aI} {ws : St} (hs : bq P N ops o s R ws) (h : aD P N ops l (ws ++ s) Q) : aD P N ops (o :: l) s Q := by
 intro E a w ⟨G, L, hr⟩ QQ hQ
 refine wpList_step fun K hK => ?_
 exact hs s (fun _ _ => rfl) E G L a w hr K QQ fun a' w' G' L' hr' => hK _ _ (h E _ _ ⟨G', L', hr'⟩ QQ hQ)
theorem Bi (G : Gh) : V G undef (.tup []) := V.tup #[] [] rfl (fun j c h => by simp at h)
theorem bq.MJ {d e : Nat} {b : Bool} (hN : d < N) (he : e < N) (hd : o.dst = some e) (hg : gL ops o = some (d, b)) (hc : get s (.s d) = some (.sv (.v (.bool (!b))))) : bq P N ops o s [.s d] [(.s e, .sv (.v (.tup [])))] := by
 intro t hR E G L a w hr K Q hK
 rw [m7 hr hN hg (by rw [hR (.s d) (List.mem_cons_self ..)]; exact hc), if_neg (by cases b <;> simp), hd]
 exact hK _ _ G L (hr.put e he undef (.v (.tup [])) (Bi G))
theorem Bp {E : eB} {G : Gh} {L : Loc} {a : Act} {w : World} (hr : Rel E N G L a w s) {d : Nat} {b : Bool} (hN : d < N) (hg : gL ops o = some (d, b)) (hc : get s (.s d) = some (.sv (.v (.tup [])))) : Region.wanted o (yielded ops a.tmps) = false := by
 unfold gL at hg
 split at hg
 ·rename_i j b' hgd
  cases hd : (ops[j]?).bind (·.dst) with
  | none => rw [hd] at hg; cases hg
  | some d' =>
   rw [hd] at hg
   simp only [Option.map_some, Option.some.injEq, Prod.mk.injEq] at hg
   obtain ⟨rfl, rfl⟩ := hg
   have hv : V G (a.tmps.getD d' undef) (.tup []) := hr.slot d' _ hc
   have hsz := hr.size
   have hlt : d' < a.tmps.size := by rw [hsz]; exact hN
   rw [Array.getD_eq_getD_getElem?, Array.getElem?_eq_getElem hlt] at hv
   simp only [Option.getD_some] at hv
   simp only [Region.wanted, hgd, yielded, hd, Option.bind_some, Array.getElem?_eq_getElem hlt]
   generalize a.tmps[d'] = u at hv
   cases hv
   cases b' <;> rfl
 ·cases hg
theorem bq.NZ {d e : Nat} {b : Bool} (hN : d < N) (he : e < N) (hd : o.dst = some e) (hg : gL ops o = some (d, b)) (hc : get s (.s d) = some (.sv (.v (.tup [])))) : bq P N ops o s [.s d] [(.s e, .sv (.v (.tup [])))] := by
 intro t hR E G L a w hr K Q hK
 rw [Bp hr hN hg (by rw [hR (.s d) (List.mem_cons_self ..)]; exact hc), if_neg (by simp), hd]
 exact hK _ _ G L (hr.put e he undef (.v (.tup [])) (Bi G))
theorem aD.Jt {e d : Nat} {b b' : Bool} (hd : o.dst = some e) (hg : gL ops o = some (d, b)) (hN : d < N) (he : e < N) (hc : get s (.s d) = some (.sv (.v (.bool b')))) (hb : b' = !b) (h : aD P N ops l ((.s e, .sv (.v (.tup []))) :: s) Q) : aD P N ops (o :: l) s Q :=
 aD.step (bq.MJ hN he hd hg (hb ▸ hc)) h
theorem aD.PO {e d : Nat} {b : Bool} (hd : o.dst = some e) (hg : gL ops o = some (d, b)) (hN : d < N) (he : e < N) (hc : get s (.s d) = some (.sv (.v (.tup [])))) (h : aD P N ops l ((.s e, .sv (.v (.tup []))) :: s) Q) : aD P N ops (o :: l) s Q :=
 aD.step (bq.NZ hN he hd hg hc) h
theorem uk {s : St} {d : Nat} {o : Oper} {f : FuncId} {R : List aI} {«as» : List AV} {H : Hp} {r : AV} (hp : cB P f «as» H r H) (hd : o.dst = some d) (hN : d < N) (hH : get s .h = some (.hp H))
  (h : ∀ E G L a w t, Rel E N G L a w t → Reads R s t → ∃ cargs, (execOp a.eval o).run P w = .ok (.enter f cargs) w ∧ VL G cargs «as») : aW P N o s (R ++ [.h]) [(.s d, .sv (.v r))] := by
 intro t hR E G L a w hr K Q hK
 obtain ⟨cargs, he, hV⟩ := h E G L a w t hr hR.left
 obtain ⟨H2, hH2, hok, hmay⟩ := hr.heap
 have hHt : get t .h = some (.hp H) := by rw [hR .h (by simp)]; exact hH
 rw [hHt] at hH2; cases hH2
 unfold Oper.wp
 rw [he]
 refine (hp G w cargs (hr.vx (by assumption)) hr.kn hok hV).mono ?_
 rintro e w' ⟨v, G', rfl, hv, hx, hkn, hok', hf, hft⟩
 refine hK v w' G' L ?_
 rw [hd]
 refine ((hr.called (by assumption) hx hkn hok' hf hft).put d hN v (.v r) hv).ext fun c => ?_
 simp only [List.cons_append, List.nil_append, get]
 split
 ·rfl
 ·split
  ·rename_i h2; subst h2; exact hHt
  ·rfl
theorem bu {s : St} {d : Nat} {ty : TypeId} {pos : String} {af : Array Edge} {g : Option (Nat × Bool)} {f : FuncId} {xs : Array Operand} {tys : Array TypeId} {«as» : List AV} {r : AV} {H : Hp} (hN : d < N) (hf : gj P f = true) (hH : get s .h = some (.hp H)) (ha : kY xs.toList s = some «as») (hp : cB P f «as» H r H) :
  aW P N ⟨some d, .call { callee := .value (.func f), args := xs, argTypes := tys }, ty, pos, af, g⟩ s (nO xs.toList ++ [.h]) [(.s d, .sv (.v r))] :=
 uk hp rfl hN hH (j3 hf ha)
end
theorem aK.scope {P : Program} {N : Nat} {c : Code} {s : St} {Q : Exit → St → Prop} (h : aK P N c s fun e s' => match e with | .goto _ => False | e => Q e s') : aK P N (.scope c) s Q := by
 intro E a w hf
 refine wp_scope_straight (wp_mono (h E a w hf) ?_)
 rintro e a' w' ⟨s', h1, h2⟩
 cases e with
 | goto l => exact h2.elim
 | _ => exact ⟨s', h1, h2⟩
theorem aK.join {P : Program} {N : Nat} {c d : Code} {s : St} {Q : Exit → St → Prop} (J : St → Prop) (h1 : aK P N c s fun e s' => match e with | .normal => J s' | e => Q e s') (h2 : ∀ s', J s' → aK P N d s' Q) : aK P N (.seq c d) s Q :=
 aK.seq (h1.mono fun e s' h => by
  cases e <;> first | exact h2 s' h | exact h)
theorem eI {a b : Nat} : Nat.ble a b = true ↔ a ≤ b := by rw [Nat.ble_eq]
structure yX where
 t : TypeId
 lk : Option (Bool × Nat)
 z : Option (List AV)
 sp : Option (List (Nat × Nat))
 se : Option (Nat × Nat × Nat)
 fo : List (Option Nat)
 un : Nat
 ik : Option IntKind
def Dl (P : Program) (t : TypeId) : Nat := match P.underlying t with
 | some (.slice _) => 1
 | some .string => 2
 | some .bool => 3
 | some _ => 4
 | none => 0
def OL (P : Program) (t : TypeId) : Option IntKind := match P.underlying t with
 | some (.int k) => some k
 | _ => none
def ND (P : Program) (t : TypeId) (n : Nat) : yX := ⟨t, lk P t, cE P t, D9 P t, se P t, (List.range n).map (fo P t), Dl P t, OL P t⟩
inductive TT where
 | nil
 | node (l : TT) (r : yX) (g : TT)
def TT.rows : TT → List yX
 | .nil => []
 | .node l r g => l.rows ++ r :: g.rows
def TT.find : TT → TypeId → Option yX
 | .nil, _ => none
 | .node l r g, t => bif Nat.blt t r.t then l.find t else bif Nat.blt r.t t then g.find t else some r
def TT.ok (P : Program) (I : TT) : Prop := I.rows.map (fun r => ND P r.t r.fo.length) = I.rows
theorem TT.tE : ∀ {I : TT} {t : TypeId} {r : yX}, I.find t = some r → r ∈ I.rows ∧ r.t = t
 | .nil, t, r, h => by cases h
 | .node l q g, t, r, h => by
  unfold TT.find at h
  cases e : Nat.blt t q.t with
  | true =>
   rw [e] at h
   obtain ⟨h1, h2⟩ := TT.tE (I := l) h
   exact ⟨List.mem_append_left _ h1, h2⟩
  | false =>
   rw [e] at h
   cases e2 : Nat.blt q.t t with
   | true =>
    rw [e2] at h
    obtain ⟨h1, h2⟩ := TT.tE (I := g) h
    exact ⟨List.mem_append_right _ (List.mem_cons_of_mem _ h1), h2⟩
   | false =>
    rw [e2] at h
    cases h
    refine ⟨List.mem_append_right _ (List.mem_cons_self ..), ?_⟩
    have h1 : ¬ t < q.t := fun h => by rw [show Nat.blt t q.t = true from eI.2 h] at e; cases e
    have h2 : ¬ q.t < t := fun h => by rw [show Nat.blt q.t t = true from eI.2 h] at e2; cases e2
    exact Nat.le_antisymm (Nat.not_lt.1 h1) (Nat.not_lt.1 h2)
theorem TT.row {P : Program} {I : TT} (h : I.ok P) {t : TypeId} {r : yX} (e : I.find t = some r) : r = ND P t r.fo.length := by
 obtain ⟨h1, h2⟩ := TT.tE e
 obtain ⟨i, hi⟩ := List.mem_iff_getElem?.1 h1
 have := congrArg (·[i]?) h
 simp only [List.getElem?_map, hi, Option.map_some, Option.some.injEq] at this
 rw [h2] at this; exact this.symm
section
variable {P : Program} {I : TT} {t : TypeId} {r : yX} (h : I.ok P) (e : I.find t = some r)
include h e
theorem TT.Ky : r.lk = lk P t := by rw [TT.row h e]; rfl
theorem TT.O7 : r.z = cE P t := by rw [TT.row h e]; rfl
theorem TT.O8 : r.sp = D9 P t := by rw [TT.row h e]; rfl
theorem TT.O9 : r.se = se P t := by rw [TT.row h e]; rfl
theorem TT.NI : r.un = Dl P t := by rw [TT.row h e]; rfl
theorem TT.Oa : r.ik = OL P t := by rw [TT.row h e]; rfl
theorem TT.LG {i o : Nat} (q : r.fo[i]? = some (some o)) : fo P t i = some o := by
 have h1 : r.fo = (List.range r.fo.length).map (fo P t) := congrArg yX.fo (TT.row h e)
 rw [h1, List.getElem?_map] at q
 cases hr : (List.range r.fo.length)[i]? with
 | none => rw [hr] at q; cases q
 | some j =>
  rw [hr] at q
  have hj := List.getElem?_eq_some_iff.1 hr
  obtain ⟨h1, h2⟩ := hj
  simp at h2
  subst h2
  simpa using q
end
theorem Dj {P : Program} {t : TypeId} (h : Dl P t = 1) : ∃ e, P.underlying t = some (.slice e) := by
 unfold Dl at h; split at h <;> first | exact ⟨_, by assumption⟩ | cases h
theorem KU {P : Program} {t : TypeId} (h : Dl P t = 2) : P.underlying t = some .string := by
 unfold Dl at h; split at h <;> first | assumption | cases h
theorem Dk {P : Program} {t : TypeId} (h : Dl P t = 3) : P.underlying t = some .bool := by
 unfold Dl at h; split at h <;> first | assumption | cases h
theorem MW {P : Program} {t : TypeId} {k : IntKind} (h : OL P t = some k) : P.underlying t = some (.int k) := by
 unfold OL at h; split at h
 ·cases h; assumption
 ·cases h
theorem HX {P : Program} {t : TypeId} (h : Dl P t ≠ 0) : ∃ d, P.underlying t = some d := by
 unfold Dl at h; cases e : P.underlying t with
 | none => rw [e] at h; exact absurd rfl h
 | some d => exact ⟨d, rfl⟩
theorem Cb {P : Program} {N : Nat} {s : St} {d : Nat} {ty : TypeId} {pos : String} {af : Array Edge} {g : Option (Nat × Bool)} {t1 e : TypeId} {x : Operand} {id n c : Nat} (hN : d < N) (h1 : P.underlying t1 = some (.slice e)) (hx : cV x s = some (.os id n c)) :
  aW P N ⟨some d, .call { callee := .builtin .len, args := #[x], argTypes := #[t1] }, ty, pos, af, g⟩ s (rd x) [(.s d, .sv (.v (.int .i64 n)))] :=
 aW.val rfl hN fun E G L a w t hr hR => by
  have hv := aT hr hR hx
  generalize hav : a.eval x = u at hv
  cases hv
  refine ⟨.int .i64 n, ?_, .int _ _⟩
  simp [execOp, resolve, invoke, builtin, hav, Builtin.len_, run_underlying h1, goInt]
abbrev XR := Option (List aI × St)
def il (N d : Nat) (R : List aI) (y : Sv) : XR := bif Nat.blt d N then some (R, [(.s d, .sv y)]) else none
theorem cQ {N d : Nat} {R R' : List aI} {y : Sv} {ws : St} (h : il N d R y = some (R', ws)) : d < N ∧ R' = R ∧ ws = [(.s d, .sv y)] := by
 unfold il at h
 cases e : Nat.blt d N with
 | false => rw [e] at h; cases h
 | true => rw [e] at h; cases h; exact ⟨eI.1 e, rfl, rfl⟩
def Jn (N d : Nat) (R : List aI) (b : Bool) (x y : Option Sv) : XR := match b, x, y with
 | true, some z, _ => il N d R z
 | false, _, some z => il N d R z
 | _, _, _ => none
def A0 (N d : Nat) (R : List aI) (l : Option (Bool × Nat)) (cs : List Sv) : XR := match l with
 | some (b, n) => match wP b n cs with
  | some z => il N d R z
  | none => none
 | none => none
def AY : Nat → List (Nat × Operand) → St → Option (List AV)
 | _, [], _ => some []
 | k, (j, x) :: l, s => match Nat.beq j k, cV x s, AY (k + 1) l s with
  | true, some a, some r => some (a :: r)
  | _, _, _ => none
theorem tz : ∀ {l : List (Nat × Operand)} {k : Nat} {s : St} {r : List AV}, AY k l s = some r → ld l s = some (eT k r)
 | [], k, s, r, h => by cases h; rfl
 | (j, x) :: l, k, s, r, h => by
  unfold AY at h
  split at h
  ·rename_i a r2 e1 e2 e3
   cases h
   have hj := Nat.eq_of_beq_eq_true e1
   subst hj
   unfold ld
   rw [e2, tz e3]; rfl
  ·cases h
def Mt (N d : Nat) (R : List aI) (u : Nat) (y : AV) : XR := match u, y with
 | 1, .sl xs => il N d R (.v (.int .i64 xs.length))
 | 1, .os _ n _ => il N d R (.v (.int .i64 n))
 | 2, .str l => il N d R (.v (.int .i64 l.length))
 | _, _ => none
def Mu (N d : Nat) (R : List aI) (op : BinOp) (u : Nat) (a b : AV) : XR := match tZ op a b with
 | some z => il N d R (.v z)
 | none => match op, a, b, u with
  | .eql, .bool p, .bool q, 3 => il N d R (.v (.bool (p == q)))
  | .neq, .bool p, .bool q, 3 => il N d R (.v (.bool (!(p == q))))
  | _, _, _, _ => none
def OE (I : TT) (t : TypeId) : Nat := match I.find t with | some r => r.un | none => 0
def rC (I : TT) (N : Nat) (s : St) (dst : Option Tmp) (op : Op) : XR :=
 match dst with
 | none => match op with
  | .store t1 x y => match I.find t1, gS x s with
   | some r, some (.lp k off) => match r.lk, get s (.b k), gS y s with
    | some (b, n), some (.bx cs), some z => bif !z.l8 && Nat.beq z.cells.length n && Nat.ble (off + n) cs.length then some (rd x ++ (rd y ++ [.b k]), [(.b k, .bx (setAt cs off z.cells))]) else none
    | _, _, _ => none
   | _, _ => none
  | _ => none
 | some d => match op with
  | .move x => match gS x s with
   | some y => il N d (rd x) y
   | none => none
  | .assign x => match gS x s with
   | some y => il N d (rd x) y
   | none => none
  | .pick c x y => match cV c s with
   | some (.bool b) => Jn N d (rd c ++ (rd x ++ rd y)) b (gS x s) (gS y s)
   | _ => none
  | .binOp op t1 x y _ => match cV x s, cV y s with
   | some a, some b => Mu N d (rd x ++ rd y) op (OE I t1) a b
   | _, _ => none
  | .unOp op _ x => match cV x s with
   | some a => match PC op a with
    | some z => il N d (rd x) (.v z)
    | none => none
   | none => none
  | .load t1 x => match I.find t1, gS x s with
   | some r, some (.lp k off) => match get s (.b k) with
    | some (.bx cs) => A0 N d (rd x ++ [.b k]) r.lk (cs.drop off)
    | _ => none
   | some r, some (.v (.kp cs)) => A0 N d (rd x) r.lk (cs.map .v)
   | _, _ => none
  | .fieldAddr t1 x i => match I.find t1 with
   | some r => match r.fo[i]?, gS x s with
    | some (some o), some (.lp k off) => il N d (rd x) (.lp k (off + o))
    | some (some o), some (.v (.kp cs)) => il N d (rd x) (.v (.kp (cs.drop o)))
    | some (some o), some (.v (.op id off)) => il N d (rd x) (.v (.op id (off + o)))
    | _, _ => none
   | none => none
  | .alloc t1 => match I.find t1, get s (.b d) with
   | some r, none => match r.z with
    | some zs => bif Nat.blt d N then some ([.b d], [(.s d, .sv (.lp d 0)), (.b d, .bx (zs.map .v))]) else none
    | none => none
   | _, _ => none
  | .box _ x => match gS x s, get s (.b d) with
   | some y, none => bif Nat.blt d N && !y.l8 then some (rd x ++ [.b d], [(.s d, .sv (.lp d 0)), (.b d, .bx y.cells)]) else none
   | _, _ => none
  | .extract x i => match cV x s with
   | some (.tup vs) => match vs[i]? with
    | some z => il N d (rd x) (.v z)
    | none => none
   | _ => none
  | .nilCheck x => match gS x s with
   | some (.lp k off) => il N d (rd x) (.lp k off)
   | some (.v (.kp cs)) => il N d (rd x) (.v (.kp cs))
   | some (.v (.op id off)) => il N d (rd x) (.v (.op id off))
   | _ => none
  | .build t1 ps => match I.find t1, ld ps.toList s with
   | some r, some qs => match r.sp, r.z with
    | some pl, some zs => match j8 (fun i => pl[i]?) zs qs with
     | some q => il N d (nO (ps.toList.map (·.2))) (.v (.agg q))
     | none => none
    | _, _ => none
   | _, _ => none
  | .buildSlice t1 n ps => match I.find t1, AY 0 ps.toList s with
   | some r, some qs => match r.se with
    | some (el, esz, _) => match I.find el with
     | some r2 => match r2.z with
      | some _ => bif Nat.beq qs.length n && cg esz qs && Nat.ble (qs.length * esz) 16777216 then il N d (nO (ps.toList.map (·.2))) (.v (.sl qs)) else none
      | none => none
     | none => none
    | none => none
   | _, _ => none
  | .convert t1 t2 x => match I.find t1, I.find t2, cV x s with
   | some r, some r2, some (.int _ n) => match r2.ik, Nat.beq r.un 0 with
    | some k, false => il N d (rd x) (.v (.int k (k.wrap n)))
    | _, _ => none
   | _, _, _ => none
  | .call c => match c with
   | ⟨.builtin .len, xs, ts⟩ => match xs.toList, ts.toList with
    | [x], [t1] => match cV x s with
     | some y => Mt N d (rd x) (OE I t1) y
     | none => none
    | _, _ => none
   | _ => none
  | _ => none
theorem oM {x : Operand} {s : St} {a : AV} (h : gS x s = some (.v a)) : cV x s = some a := by unfold cV; rw [h]; rfl
theorem rB {P : Program} {I : TT} (h : I.ok P) {t : TypeId} {n : Nat} (e : OE I t = n) (hn : n ≠ 0) : Dl P t = n := by
 unfold OE at e
 cases hr : I.find t with
 | none => rw [hr] at e; exact absurd e.symm hn
 | some r => rw [hr] at e; rw [← e]; exact (TT.NI h hr).symm
theorem yd {P : Program} {I : TT} (hI : I.ok P) {N : Nat} {s : St} {dst : Option Tmp} {op : Op} {R : List aI} {ws : St} {ty : TypeId} {pos : String} {af : Array Edge} {g : Option (Nat × Bool)}
  (h : rC I N s dst op = some (R, ws)) : aW P N ⟨dst, op, ty, pos, af, g⟩ s R ws := by
 cases dst with
 | none =>
  cases op <;> simp only [rC] at h <;> try (cases h; done)
  rename_i t1 x y
  split at h
  ·rename_i r k off e1 e2
   split at h
   ·rename_i b n cs z e3 e4 e5
    cases hb : (!z.l8 && Nat.beq z.cells.length n && Nat.ble (off + n) cs.length) with
    | false => rw [hb] at h; cases h
    | true =>
     rw [hb] at h
     cases h
     simp only [Bool.and_eq_true, Bool.not_eq_true'] at hb
     exact Ev ((TT.Ky hI e1).symm.trans e3) e2 e4 e5 hb.1.1 (Nat.eq_of_beq_eq_true hb.1.2) (eI.1 hb.2)
   ·cases h
  ·cases h
 | some d =>
  cases op with
  | move x =>
   simp only [rC] at h
   split at h
   ·rename_i y e; obtain ⟨h1, rfl, rfl⟩ := cQ h; exact oO h1 e
   ·cases h
  | assign x =>
   simp only [rC] at h
   split at h
   ·rename_i y e; obtain ⟨h1, rfl, rfl⟩ := cQ h; exact NY h1 e
   ·cases h
  | pick c x y =>
   simp only [rC] at h
   split at h
   ·rename_i b e
    unfold Jn at h
    split at h
    ·rename_i z e2; obtain ⟨h1, rfl, rfl⟩ := cQ h; exact mE h1 e rfl e2
    ·rename_i z e2; obtain ⟨h1, rfl, rfl⟩ := cQ h; exact oN h1 e rfl e2
    ·cases h
   ·cases h
  | binOp op t1 x y t2 =>
   simp only [rC] at h
   split at h
   ·rename_i a b e1 e2
    unfold Mu at h
    split at h
    ·rename_i z e3; obtain ⟨h1, rfl, rfl⟩ := cQ h; exact iU h1 e1 e2 e3
    ·split at h
     ·rename_i p q e3 e4; obtain ⟨h1, rfl, rfl⟩ := cQ h; exact MB h1 (Dk (rB hI e3 (by decide))) e1 e2
     ·rename_i p q e3 e4; obtain ⟨h1, rfl, rfl⟩ := cQ h; exact vf h1 (Dk (rB hI e3 (by decide))) e1 e2
     ·cases h
   ·cases h
  | unOp op t1 x =>
   simp only [rC] at h
   split at h
   ·rename_i a e1
    split at h
    ·rename_i z e2; obtain ⟨h1, rfl, rfl⟩ := cQ h; exact KF h1 e1 e2
    ·cases h
   ·cases h
  | load t1 x =>
   simp only [rC] at h
   split at h
   ·rename_i r k off e1 e2
    split at h
    ·rename_i cs e3
     unfold A0 at h
     split at h
     ·rename_i b n e4
      split at h
      ·rename_i z e5; obtain ⟨h1, rfl, rfl⟩ := cQ h; exact pO h1 ((TT.Ky hI e1).symm.trans e4) e2 e3 e5
      ·cases h
     ·cases h
    ·cases h
   ·rename_i r cs e1 e2
    unfold A0 at h
    split at h
    ·rename_i b n e4
     split at h
     ·rename_i z e5; obtain ⟨h1, rfl, rfl⟩ := cQ h; exact Lx h1 ((TT.Ky hI e1).symm.trans e4) (oM e2) e5
     ·cases h
    ·cases h
   ·cases h
  | fieldAddr t1 x i =>
   simp only [rC] at h
   split at h
   ·rename_i r e1
    split at h
    ·rename_i o k off e2 e3; obtain ⟨h1, rfl, rfl⟩ := cQ h; exact zW h1 (TT.LG hI e1 e2) e3
    ·rename_i o cs e2 e3; obtain ⟨h1, rfl, rfl⟩ := cQ h; exact Lz h1 (TT.LG hI e1 e2) (oM e3)
    ·rename_i o id off e2 e3; obtain ⟨h1, rfl, rfl⟩ := cQ h; exact vh h1 (TT.LG hI e1 e2) (oM e3)
    ·cases h
   ·cases h
  | alloc t1 =>
   simp only [rC] at h
   split at h
   ·rename_i r e1 e2
    split at h
    ·rename_i zs e3
     cases hb : Nat.blt d N with
     | false => rw [hb] at h; cases h
     | true => rw [hb] at h; cases h; exact MG (eI.1 hb) ((TT.O7 hI e1).symm.trans e3) e2
    ·cases h
   ·cases h
  | box t1 x =>
   simp only [rC] at h
   split at h
   ·rename_i y e1 e2
    cases hb : (Nat.blt d N && !y.l8) with
    | false => rw [hb] at h; cases h
    | true =>
     rw [hb] at h; cases h
     simp only [Bool.and_eq_true, Bool.not_eq_true'] at hb
     exact MD (eI.1 hb.1) e1 e2 hb.2
   ·cases h
  | extract x i =>
   simp only [rC] at h
   split at h
   ·rename_i vs e1
    split at h
    ·rename_i z e2; obtain ⟨h1, rfl, rfl⟩ := cQ h; exact MA h1 e1 e2
    ·cases h
   ·cases h
  | nilCheck x =>
   simp only [rC] at h
   split at h
   ·rename_i k off e; obtain ⟨h1, rfl, rfl⟩ := cQ h; exact Ir h1 e
   ·rename_i cs e; obtain ⟨h1, rfl, rfl⟩ := cQ h; exact Is h1 (oM e)
   ·rename_i id off e; obtain ⟨h1, rfl, rfl⟩ := cQ h; exact qp h1 (oM e)
   ·cases h
  | build t1 ps =>
   simp only [rC] at h
   split at h
   ·rename_i r qs e1 e2
    split at h
    ·rename_i pl zs e3 e4
     split at h
     ·rename_i q e5; obtain ⟨h1, rfl, rfl⟩ := cQ h
      obtain ⟨ps⟩ := ps
      exact ME h1 ((TT.O8 hI e1).symm.trans e3) ((TT.O7 hI e1).symm.trans e4) e2 e5
     ·cases h
    ·cases h
   ·cases h
  | buildSlice t1 n ps =>
   simp only [rC] at h
   split at h
   ·rename_i r qs e1 e2
    split at h
    ·rename_i el esz by_ e3
     split at h
     ·rename_i r2 e4
      split at h
      ·rename_i zs e5
       cases hb : (Nat.beq qs.length n && cg esz qs && Nat.ble (qs.length * esz) 16777216) with
       | false => rw [hb] at h; cases h
       | true =>
        rw [hb] at h
        obtain ⟨h1, rfl, rfl⟩ := cQ h
        simp only [Bool.and_eq_true] at hb
        obtain ⟨⟨b2, b3⟩, b4⟩ := hb
        obtain ⟨ps⟩ := ps
        exact FC h1 ((TT.O9 hI e1).symm.trans e3) ((TT.O7 hI e4).symm.trans e5) (tz e2) (Nat.eq_of_beq_eq_true b2) b3 (eI.1 b4)
      ·cases h
     ·cases h
    ·cases h
   ·cases h
  | convert t1 t2 x =>
   simp only [rC] at h
   split at h
   ·rename_i r r2 k' n e1 e2 e3
    split at h
    ·rename_i k e4 e5
     obtain ⟨h1, rfl, rfl⟩ := cQ h
     obtain ⟨td, hd⟩ := HX (P := P) (t := t1) (by rw [← TT.NI hI e1]; intro q; rw [q] at e5; cases e5)
     exact MC h1 hd (MW ((TT.Oa hI e2).symm.trans e4)) e3
    ·cases h
   ·cases h
  | call c =>
   obtain ⟨cal, xs, ts⟩ := c
   cases cal with
   | builtin b =>
    cases b <;> simp only [rC] at h <;> try (cases h; done)
    split at h
    ·rename_i x t1 e1 e2
     split at h
     ·rename_i y e3
      obtain ⟨xs⟩ := xs
      obtain ⟨ts⟩ := ts
      simp only at e1 e2
      subst e1; subst e2
      unfold Mt at h
      split at h
      ·rename_i xs2 e4; obtain ⟨h1, rfl, rfl⟩ := cQ h
       obtain ⟨e, he⟩ := Dj (rB hI e4 (by decide))
       exact vg h1 he e3
      ·rename_i id n c e4; obtain ⟨h1, rfl, rfl⟩ := cQ h
       obtain ⟨e, he⟩ := Dj (rB hI e4 (by decide))
       exact Cb h1 he e3
      ·rename_i l e4; obtain ⟨h1, rfl, rfl⟩ := cQ h
       exact It h1 (KU (rB hI e4 (by decide))) e3
      ·cases h
     ·cases h
    ·cases h
   | value f => simp only [rC] at h; cases h
   | invoke f m => simp only [rC] at h; cases h
  | _ => simp only [rC] at h; cases h
def lW (I : TT) (N : Nat) (ops : Array Oper) (o : Oper) (s : St) : XR :=
 match o.guard with
 | none => rC I N s o.dst o.op
 | some _ => match gL ops o with
  | none => none
  | some (d, b) => match get s (.s d) with
   | some (.sv (.v (.bool c))) => bif Nat.blt d N then (match c, b with
     | true, true => (match rC I N s o.dst o.op with | some (R, ws) => some (.s d :: R, ws) | none => none)
     | false, false => (match rC I N s o.dst o.op with | some (R, ws) => some (.s d :: R, ws) | none => none)
     | _, _ => match o.dst with
      | some e => bif Nat.blt e N then some ([.s d], [(.s e, .sv (.v (.tup [])))]) else none
      | none => none) else none
   | some (.sv (.v (.tup []))) => bif Nat.blt d N then (match o.dst with
     | some e => bif Nat.blt e N then some ([.s d], [(.s e, .sv (.v (.tup [])))]) else none
     | none => none) else none
   | _ => none
theorem iC {P : Program} {I : TT} (hI : I.ok P) {N : Nat} {ops : Array Oper} {o : Oper} {s : St} {R : List aI} {ws : St} (h : lW I N ops o s = some (R, ws)) : bq P N ops o s R ws := by
 obtain ⟨dst, op, ty, pos, af, g⟩ := o
 unfold lW at h
 split at h
 ·rename_i hg
  exact bq.free hg (yd hI h)
 ·split at h
  ·cases h
  ·rename_i d b hg
   split at h
   ·rename_i c hc
    cases hN : Nat.blt d N with
    | false => rw [hN] at h; cases h
    | true =>
     rw [hN] at h
     have hN := eI.1 hN
     simp only [cond_true] at h
     split at h
     ·split at h
      ·rename_i R' ws' e
       cases h
       exact bq.on hN hg hc (yd hI e)
      ·cases h
     ·split at h
      ·rename_i R' ws' e
       cases h
       exact bq.on hN hg hc (yd hI e)
      ·cases h
     ·rename_i x1 x2
      split at h
      ·rename_i e he
       cases hE : Nat.blt e N with
       | false => rw [hE] at h; cases h
       | true =>
        rw [hE] at h
        cases h
        have hcb : c = !b := by cases c <;> cases b <;> simp_all
        exact bq.MJ hN (eI.1 hE) rfl hg (by rw [← hcb]; exact hc)
      ·cases h
   ·rename_i hc
    cases hN : Nat.blt d N with
    | false => rw [hN] at h; cases h
    | true =>
     rw [hN] at h
     have hN := eI.1 hN
     simp only [cond_true] at h
     split at h
     ·rename_i e he
      cases hE : Nat.blt e N with
      | false => rw [hE] at h; cases h
      | true => rw [hE] at h; cases h; exact bq.NZ hN (eI.1 hE) rfl hg hc
     ·cases h
   ·cases h
def HR (I : TT) (N : Nat) (ops : Array Oper) : Nat → List Oper → St → Option (List Oper × St)
 | 0, l, s => some (l, s)
 | n + 1, l, s => match l with
  | [] => none
  | o :: l => match lW I N ops o s with
   | some (_, [a]) => HR I N ops n l (a :: s)
   | some (_, [a, b]) => HR I N ops n l (a :: b :: s)
   | _ => none
theorem aD.run {P : Program} {I : TT} (hI : I.ok P) {N : Nat} {ops : Array Oper} {Q : St → Prop} : ∀ (n : Nat) {l l' : List Oper} {s s' : St}, HR I N ops n l s = some (l', s') → aD P N ops l' s' Q → aD P N ops l s Q
 | 0, l, l', s, s', h, k => by cases h; exact k
 | n + 1, l, l', s, s', h, k => by
  unfold HR at h
  split at h
  ·cases h
  ·split at h
   ·rename_i o l R a e; exact aD.step (iC hI e) (aD.run hI n h k)
   ·rename_i o l R a b e; exact aD.step (iC hI e) (aD.run hI n h k)
   ·cases h
def AZ (I : TT) (N : Nat) (ops : Array Oper) : Nat → List Oper → St → List (List aI × St) → Option (List Oper × St × List (List aI × St))
 | 0, l, s, acc => some (l, s, acc)
 | n + 1, l, s, acc => match l with
  | [] => none
  | o :: l => match lW I N ops o s with
   | some (R, [a]) => AZ I N ops n l (a :: s) (acc ++ [(R, [a])])
   | some (R, [a, b]) => AZ I N ops n l (a :: b :: s) (acc ++ [(R, [a, b])])
   | _ => none
theorem aY.run {P : Program} {I : TT} (hI : I.ok P) {N : Nat} {ops : Array Oper} {Q : St → Prop} {A : List (List Nat)} : ∀ (n : Nat) {l l' : List Oper} {s s' : St} {acc acc' : List (List aI × St)}, AZ I N ops n l s acc = some (l', s', acc') → aY P N ops A Q acc' l' s' → aY P N ops A Q acc l s
 | 0, l, l', s, s', acc, acc', h, k => by cases h; exact k
 | n + 1, l, l', s, s', acc, acc', h, k => by
  unfold AZ at h
  split at h
  ·cases h
  ·split at h
   ·rename_i o l R a e; exact aY.cons (iC hI e) (aY.run hI n h k)
   ·rename_i o l R a b e; exact aY.cons (iC hI e) (aY.run hI n h k)
   ·cases h
theorem aD.tell {P : Program} {N : Nat} {ops : Array Oper} {l : List Oper} {s : St} {Q : St → Prop} {d : Nat} {b : Bool} (hc : get s (.s d) = some (.sv (.v (.bool b)))) (h1 : b = true → aD P N ops l ((.s d, .sv (.v (.bool true))) :: s) Q) (h2 : b = false → aD P N ops l ((.s d, .sv (.v (.bool false))) :: s) Q) : aD P N ops l s Q := by
 have key : ∀ c : Bool, b = c → aD P N ops l ((.s d, .sv (.v (.bool c))) :: s) Q → aD P N ops l s Q := fun c e h E a w ⟨G, L, hr⟩ QQ hQ => h E a w ⟨G, L, hr.ext fun x => by
  simp only [get]
  split
  ·rename_i hx; subst hx; rw [hc, e]
  ·rfl⟩ QQ hQ
 cases hb : b with
 | true => exact key true hb (h1 hb)
 | false => exact key false hb (h2 hb)
theorem bq.same {P : Program} {N : Nat} {ops : Array Oper} {o : Oper} {s t : St} {R : List aI} {ws : St} (h : bq P N ops o s R ws) (e : ∀ c, get t c = get s c) : bq P N ops o t R ws := fun u hu => h u fun c hc => (hu c hc).trans (e c)
theorem JZ {ws s t : St} (e : ∀ c, get t c = get s c) (c : aI) : get (ws ++ t) c = get (ws ++ s) c := by rw [get_append, get_append, e]
theorem nG.same {P : Program} {N : Nat} {ops : Array Oper} {l : List Oper} {s : St} {rs : List (List aI × St)} {s' : St} (h : nG P N ops l s rs s') : ∀ {t : St}, (∀ c, get t c = get s c) → ∃ t', nG P N ops l t rs t' ∧ ∀ c, get t' c = get s' c := by
 induction h with
 | nil s => intro t e; exact ⟨t, .nil t, e⟩
 | cons hs _ ih =>
  intro t e
  obtain ⟨t', h1, h2⟩ := ih (JZ e)
  exact ⟨t', .cons (hs.same e) h1, h2⟩
theorem Kept.same {s t : St} {Q : St → Prop} (h : Kept s Q) (e : ∀ c, get s c = get t c) : Kept t Q := fun E N a w ⟨G, L, hr⟩ => h E N a w ⟨G, L, hr.ext e⟩
theorem aY.tell {P : Program} {N : Nat} {ops : Array Oper} {l : List Oper} {s : St} {Q : St → Prop} {A : List (List Nat)} {acc : List (List aI × St)} {d : Nat} {b : Bool} (hc : get s (.s d) = some (.sv (.v (.bool b)))) (h1 : b = true → aY P N ops A Q acc l ((.s d, .sv (.v (.bool true))) :: s)) (h2 : b = false → aY P N ops A Q acc l ((.s d, .sv (.v (.bool false))) :: s)) : aY P N ops A Q acc l s := by
 have key : ∀ c : Bool, b = c → aY P N ops A Q acc l ((.s d, .sv (.v (.bool c))) :: s) → aY P N ops A Q acc l s := fun c e ⟨rs, s', q1, q2, q3⟩ => by
  have hg : ∀ x, get s x = get ((.s d, .sv (.v (.bool c))) :: s) x := fun x => by
   simp only [get]
   split
   ·rename_i hx; subst hx; rw [hc, e]
   ·rfl
  obtain ⟨t', r1, r2⟩ := q1.same hg
  exact ⟨rs, t', r1, q2, q3.same fun c => (r2 c).symm⟩
 cases hb : b with
 | true => exact key true hb (h1 hb)
 | false => exact key false hb (h2 hb)
section
variable {P : Program} {N : Nat} {s : St} {d : Nat} {ty : TypeId} {pos : String} {af : Array Edge} {g : Option (Nat × Bool)}
end
open Go Go.RowKit Go.ChangeShapes Go.WideShapes Go.ChangeAt
open Go.ChangeMaps (open_string shut_string)

def Db (W : World) : Gh := ⟨fun b o => W.cell? ⟨b, o, none⟩, fun _ => none, fun _ => 0⟩
def Nb : Hp := ⟨0, fun _ => none⟩
theorem su (G : Gh) (W : World) (b : Nat) : ¬ aa G Nb W b := by
 rintro (⟨id, ⟨cs, h⟩, _⟩ | ⟨id, j, cs, el, esz, xs, b0, arr, t, fr, h, _⟩) <;> cases h
theorem MX (G : Gh) (W : World) (h : ∀ i, G.ob i = none) : dz G W Nb := by
 refine ⟨fun id b e => ?_, fun id id' b e => ?_, fun id cs e => (by cases e), fun id j blk hr => ?_⟩
 ·rw [h] at e; cases e
 ·rw [h] at e; cases e
 ·exact absurd (.inr ⟨id, j, hr⟩) (su G W blk)
section
variable {H : Type} {enc : TypeId × Value → H} {P : Program} {W W' : World}
theorem nE (hl : laidOutB P = true) (hb : Below W.heap.size W W') : ∀ {ts : List TypeId} {vs : List Value} {ds : List (DataW H)} {ps : List MemPlace},
  ts.all (fun t => P.readableRec t && decide (t < P.types.size)) = true → DataW.TrodAll enc P W 0 (fun _ => true) true ts vs ds ps → DataW.TrodAll enc P W' 0 (fun b => decide (b < W.heap.size)) true ts vs ds ps
 | [], vs, ds, ps, _, h => by
  obtain ⟨rfl, rfl, rfl⟩ := trodAll_nil h
  exact trodAll_mk0
 | t :: ts, vs, ds, ps, hr, h => by
  have hlt := h.lt
  obtain ⟨v, vs1, d, ds1, a, b, rfl, rfl, rfl, h1, h2⟩ := trodAll_cons h
  simp only [List.all_cons, Bool.and_eq_true, decide_eq_true_eq] at hr
  exact trodAll_cons_mk (Below.trod hl hr.1.1 hr.1.2 h1 hb fun x hx => hlt x (by simp [hx])) (nE hl hb hr.2 h2)
theorem C2 {f : Func} {s : ChangeSpec} {t : TypeId} {args : Array Value} {ds gs : List (DataW H)} {before : List MemPlace} (hl : laidOutB P = true)
  (hr : f.params.toList.all (fun t => P.readableRec t && decide (t < P.types.size)) = true) (hvr : s.vars = []) (hW : DataW.Whole enc P f.params.toList s.vars false W args.toList ds gs before) (hb : Below W.heap.size W W')
  (hs : s.fn H (ds ++ gs) = { results := [.lit (.bool true)], args := ds, vars := gs }) (ht : f.resultTypes = #[t]) (hu : P.underlying t = some .bool) :
  s.post enc P f false true false false W args (.bool true) W' := by
 have hW' := hW
 obtain ⟨p, q, hA, hV, rfl, hfz, hnd⟩ := hW
 refine ⟨ds, gs, p ++ q, [], p, q, hW', ?_, ?_, ?_, ?_, fun h => by cases h⟩
 ·rw [hs, ht]
  exact trodAll_cons_mk (shut_bool hu true) trodAll_mk0
 ·rw [hs]; exact nE hl hb hr hA
 ·rw [hvr] at hV ⊢
  obtain ⟨rfl, rfl⟩ := trodVars_none hV
  rw [hs]; rfl
 ·exact hb.frame _

end
def HB (P : Program) (f : FuncId) (args : List AV) (H : Hp) (r : AV) : Prop :=
 ∀ G w cargs, GE ⟨G, w, aa G H w, []⟩ → fx G w → dz G w H → VL G cargs args → Calls P f cargs w fun e w' => ∃ v G', e = .returned v ∧ V G' v r ∧ Fr (aa G H w) w w'
theorem HB.ah {P : Program} {f : FuncId} {fn : Func} {c : Code} {N : Nat} {args : List AV} {H : Hp} {r : AV} (hf : P.funcs[f]? = some fn) (hb : fn.body = some c) (hN : fn.ntmps = N) (hle : args.length ≤ N)
  (h : aK P N c ((.h, .hp H) :: fF args 0) fun e s' => (e = .normal ∨ e = .ret) ∧ aM P fn s' r) : HB P f args H r := by
 intro G w cargs hg hk hH hV
 refine calls_of_wp hf hb ?_
 have h0 := uf hN hle hg hk hH hV
 refine wp_mono (h ⟨G, w, aa G H w, []⟩ _ w h0) ?_
 rintro e a' w' ⟨s', ⟨G', L', hr⟩, he, hres⟩
 obtain ⟨v, hv, hV'⟩ := hres _ _ _ _ _ _ hr
 have hpost : ∃ v2 G', Ending.returned v = .returned v2 ∧ V G' v2 r ∧ Fr (aa G H w) w w' := ⟨v, G', rfl, hV', hr.fr⟩
 rcases he with rfl | rfl
 ·exact ⟨hr.defs, v, hv, hpost⟩
 ·exact ⟨hr.defs, v, hv, hpost⟩
theorem Fo {P : Program} {f : FuncId} {xs : List AV} (h : HB P f xs Nb (.bool true)) {W : World} {args : Array Value} (hg : KM W ∧ gN ≤ W.heap.size) (hv : VL (Db W) args xs) :
  Calls P f args W fun e w' => e = .returned (.bool true) ∧ Below W.heap.size W w' := by
 refine (h (Db W) W args ⟨hg.1, hg.2, fun g _ => su _ _ g⟩ (fun b o v e => e) (MX _ _ fun _ => rfl) hv).mono fun e w' ⟨v, G', he, hV, hf⟩ => ?_
 cases hV
 exact ⟨he, hf.os, hf.tape, hf.output, hf.size, fun k hk => hf.block k hk (su _ _ k)⟩
section
variable {H : Type} {enc : TypeId × Value → H} {P : Program} {W W' : World}
theorem cell_spot {a : Addr} {v : Value} (h : W.cell? a = some v) : a.spot = none := by
 unfold World.cell? at h
 split at h
 ·split at h
  ·cases h
  ·rename_i hns; simpa using hns
 ·cases h
theorem He (s : ByteArray) : s = ⟨s.data.toList.toArray⟩ := by cases s; simp
end
section
variable {H : Type} {enc : TypeId × Value → H} {P : Program} {W W' : World}
end
theorem Pure.FT {P : Program} {f : FuncId} {args : List AV} {r : AV}
  (h : ∀ G w cargs, KM w → gN ≤ w.heap.size → fx G w → VL G cargs args → Calls P f cargs w fun e w' => ∃ v, e = .returned v ∧ V G v r ∧ Below w.heap.size w w') : Pure P f args r := by
 intro H G w cargs hg hk hH hV
 refine (h G w cargs hg.1 hg.2.1 hk hV).mono ?_
 rintro e w' ⟨v, he, hv, hb⟩
 obtain ⟨h1, h2⟩ := hH.stay (G' := G) (Gh.le.refl G) rfl (fun b hb' o => (hH.aa hb').2 o) (fun b hb' => hb.block b (hH.aa hb').1) hb.size
 refine ⟨v, G, he, hv, ⟨fun _ _ _ _ => rfl, fun _ _ h => ⟨h, rfl⟩, fun _ _ h => .inl ⟨_, h⟩⟩, fun b o u e2 => ?_, h1, ⟨hb.os, hb.tape, hb.output, hb.size, fun k hk' _ => hb.block k hk'⟩, fun b hb' => .inr ((h2 b).1 hb')⟩
 rw [World.cell?_of_block (w := w) (hb.block b (hk.lt e2))]
 exact hk b o u e2
theorem VL.one {G : Gh} {c : Array Value} {a : AV} (h : VL G c [a]) : ∃ x, c = #[x] ∧ V G x a := by
 obtain ⟨h1, h2⟩ := h
 obtain ⟨l⟩ := c
 match l, h1 with
 | [x], _ => exact ⟨x, rfl, h2 0 a rfl⟩
theorem V.yp {G : Gh} {v : Value} {s : List UInt8} (h : V G v (.str s)) : v = .string ⟨s.toArray⟩ := by cases h; rfl
theorem V.int_eq {G : Gh} {v : Value} {k : IntKind} {n : Int} (h : V G v (.int k n)) : v = .int k n := by cases h; rfl
section
variable {P : Program} {N : Nat} {s : St} {d : Nat} {ty : TypeId} {pos : String} {af : Array Edge} {g : Option (Nat × Bool)}
end
def pack (P : Program) (t : TypeId) (cs : List AV) : AV :=
 match P.underlying t with
 | some (.struct _) | some (.array _ _) => .agg cs
 | _ => cs.headD .junk
def Jh (P : Program) (R : TypeId → List AV → Prop) : List TypeId → List AV → Prop
 | [], cs => cs = []
 | t :: ts, cs => ∃ a b, cs = a ++ b ∧ a.length = P.cellsOf t ∧ R t a ∧ Jh P R ts b
def Ty (P : Program) : Nat → TypeId → List AV → Prop
 | 0, _, _ => False
 | n + 1, t, cs =>
  match P.underlying t with
  | some .bool => ∃ b, cs = [.bool b]
  | some (.int k) => ∃ m, cs = [.int k m] ∧ (Lit.int k m).wf = true
  | some .string => ∃ s : List UInt8, cs = [.str s] ∧ s.length ≤ reachBytes
  | some (.slice e) => ∃ css : List (List AV), cs = [.sl (css.map (pack P e))] ∧ css.length * P.bytesOf e ≤ reachBytes ∧ ∀ c ∈ css, Ty P n e c
  | some (.struct fs) => Jh P (Ty P n) (fs.toList.map (·.type)) cs
  | some (.array m e) => Jh P (Ty P n) (List.replicate m e) cs
  | _ => False
def rL (P : Program) : List Field → Nat → Nat → Bool
 | [], o, n => o == n
 | f :: fs, o, n => f.offset == o && rL P fs (o + P.cellsOf f.type) n
def nR (P : Program) (S : List TypeId) (t : TypeId) : Bool :=
 match P.underlying t with
 | some .bool | some (.int _) | some .string => P.cellsOf t == 1
 | some (.slice e) => P.cellsOf t == 1 && S.contains e && decide (0 < P.cellsOf e)
 | some (.struct fs) => (fs.toList.all fun f => S.contains f.type) && rL P fs.toList 0 (P.cellsOf t)
 | some (.array n e) => S.contains e && P.cellsOf t == n * P.cellsOf e
 | _ => false
section
variable {H : Type} {enc : TypeId × Value → H} {P : Program} {W : World}
def ep (W : World) (cs : List Value) (acs : List AV) : Prop := acs.length = cs.length ∧ ∀ (j : Nat) c, acs[j]? = some c → c.flat = true ∧ V (Db W) (cs.getD j undef) c
theorem ep.one {v : Value} {a : AV} (hf : a.flat = true) (h : V (Db W) v a) : ep W [v] [a] :=
 ⟨rfl, fun j c hc => by
  match j, hc with
  | 0, hc => cases hc; exact ⟨hf, h⟩⟩
theorem ep.app {a b : List Value} {x y : List AV} (h1 : ep W a x) (h2 : ep W b y) : ep W (a ++ b) (x ++ y) := by
 refine ⟨by simp [h1.1, h2.1], fun j c hc => ?_⟩
 by_cases hj : j < x.length
 ·rw [List.getElem?_append_left hj] at hc
  have := h1.2 j c hc
  rwa [List.getD_eq_getElem?_getD, List.getElem?_append_left (by rw [← h1.1]; exact hj), ← List.getD_eq_getElem?_getD]
 ·rw [List.getElem?_append_right (by omega)] at hc
  have := h2.2 _ c hc
  rwa [List.getD_eq_getElem?_getD, List.getElem?_append_right (by rw [← h1.1]; omega), ← List.getD_eq_getElem?_getD, ← h1.1]
theorem pack_cells {S : List TypeId} {t : TypeId} {cs : List Value} {acs : List AV} (h : ep W cs acs) (hc : cs.length = P.cellsOf t) (hp : nR P S t = true) : (pack P t acs).cells = acs ∧ ∀ vs, pack P t acs ≠ .tup vs := by
 unfold pack
 unfold nR at hp
 split
 ·exact ⟨rfl, fun _ h => by cases h⟩
 ·exact ⟨rfl, fun _ h => by cases h⟩
 ·have h1 : P.cellsOf t = 1 := by
   split at hp <;> simp_all
  obtain ⟨h2, h3⟩ := h
  match acs, h2 with
  | [a], _ =>
   have hf := (h3 0 a rfl).1
   exact ⟨AV.gm hf, fun vs e => by simp at e; subst e; simp [AV.flat] at hf⟩
  | [], h2 => simp at h2; omega
  | _ :: _ :: _, h2 => simp at h2; omega
theorem jI {P : Program} {e : TypeId} : ∀ {l : List (DataW H)} {d : DataW H} {n : Nat}, d ∈ l → n ∈ d.weights P e → n ∈ DataW.weightsAll P e l
 | x :: l, d, n, hd, hn => by
  simp only [DataW.weightsAll, List.mem_append]
  rcases List.mem_cons.1 hd with rfl | hd
  ·exact .inl hn
  ·exact .inr (jI hd hn)
theorem mf (S : List TypeId) (hS : S.all (nR P S) = true) : ∀ (n : Nat) (t : TypeId) (cs : List Value) (y : DataW H × List MemPlace), t ∈ S → DataW.trod enc P W 0 (fun _ => true) true n t cs = some y → (∀ k ∈ y.1.weights P t, k ≤ reachBytes) →
  cs.length = P.cellsOf t ∧ ∃ acs, ep W cs acs ∧ Ty P n t acs
 | 0, _, _, _, _, h, _ => by simp [DataW.trod] at h
 | n + 1, t, cs, y, ht, h, hw => by
  have hp := List.all_eq_true.1 hS t ht
  have Nb := hp
  unfold nR at hp
  split at hp
  ·rename_i hu
   obtain ⟨b, rfl, _⟩ := DataW.trod_bool hu h
   exact ⟨by simpa using (eq_of_beq hp).symm, [.bool b], ep.one rfl (.bool b), by unfold Ty; rw [hu]; exact ⟨b, rfl⟩⟩
  ·rename_i k hu
   obtain ⟨m, rfl, _, hwf⟩ := DataW.trod_int hu h
   exact ⟨by simpa using (eq_of_beq hp).symm, [.int k m], ep.one rfl (.int k m), by unfold Ty; rw [hu]; exact ⟨m, rfl, hwf⟩⟩
  ·rename_i hu
   obtain ⟨s, rfl, rfl, _⟩ := DataW.trod_string hu h
   have hw' : s.data.toList.length ≤ reachBytes := hw _ (by simp [DataW.weights])
   refine ⟨by simpa using (eq_of_beq hp).symm, [.str s.data.toList], ep.one rfl ?_, by unfold Ty; rw [hu]; exact ⟨_, rfl, hw'⟩⟩
   have := V.str (G := Db W) s.data.toList
   rwa [← He] at this
  ·rename_i e hu
   simp only [Bool.and_eq_true, decide_eq_true_eq, List.contains_iff_mem] at hp
   obtain ⟨⟨hp1, hp2⟩, hp3⟩ := hp
   rcases DataW.trod_slice hu h with ⟨rfl, _⟩ | ⟨a, len, cap, elems, rest, n', hn, rfl, hy, _, hl, hm, hlen, hel, _, _⟩
   ·exact ⟨by simpa using (eq_of_beq hp1).symm, [.sl []], ep.one rfl (.slE _ _), by unfold Ty; rw [hu]; exact ⟨[], rfl, by simp, by simp⟩⟩
   ·cases hn
    rw [hy] at hw
    simp only [DataW.weights, hu] at hw
    have hwl := hw _ (List.mem_cons_self ..)
    have each : ∀ i, i < len → ∃ q : List AV × List Value, q.2.length = P.cellsOf e ∧ ep W q.2 q.1 ∧ Ty P n e q.1 ∧ ∀ j, j < P.cellsOf e → W.cell? ((a.add (i * P.cellsOf e)).add j) = q.2[j]? := by
     intro i hi
     have h1 := hel i hi
     rw [List.getElem?_eq_getElem (by omega)] at h1
     obtain ⟨cs', h2, h3⟩ := Option.bind_eq_some_iff.1 h1
     obtain ⟨_, h4, h5⟩ := World.cells?_some h2
     obtain ⟨_, acs, h6, h7⟩ := mf S hS n e cs' _ hp2 h3 (fun k hk => hw k (List.mem_cons_of_mem _ (List.mem_append.2 (.inl (jI (List.mem_map.2 ⟨_, List.getElem_mem (show i < elems.length by omega), rfl⟩) hk)))))
     exact ⟨(acs, cs'), h4, h6, h7, h5⟩
    obtain ⟨q, hq⟩ : ∃ q : Nat → List AV × List Value, ∀ i, i < len → (q i).2.length = P.cellsOf e ∧ ep W (q i).2 (q i).1 ∧ Ty P n e (q i).1 ∧ ∀ j, j < P.cellsOf e → W.cell? ((a.add (i * P.cellsOf e)).add j) = (q i).2[j]? :=
     ⟨fun i => if h : i < len then (each i h).choose else ([], []), fun i hi => by simp only [dif_pos hi]; exact (each i hi).choose_spec⟩
    let css : List (List AV) := (List.range len).map fun i => (q i).1
    let l : List AV := css.map (pack P e)
    have hll : l.length = len := by simp [l, css]
    have hg : ∀ (i : Nat) x, l[i]? = some x → i < len ∧ x = pack P e (q i).1 := by
     intro i x hx
     have hi : i < len := by have := (List.getElem?_eq_some_iff.1 hx).1; omega
     simp only [l, css, List.map_map, List.getElem?_map, List.getElem?_range hi, Option.map_some, Function.comp] at hx
     cases hx; exact ⟨hi, rfl⟩
    have hpk : ∀ i, i < len → (pack P e (q i).1).cells = (q i).1 := fun i hi => (pack_cells (hq i hi).2.1 (hq i hi).1 (List.all_eq_true.1 hS e hp2)).1
    refine ⟨by simpa using (eq_of_beq hp1).symm, [.sl l], ep.one rfl ?_, ?_⟩
    ·by_cases h0 : len = 0
     ·have : l = [] := List.length_eq_zero_iff.1 (by omega)
      rw [this, h0]; exact .slE _ _
     ·have hsp : a.spot = none := by
       obtain ⟨h1, h2, _, h4⟩ := hq 0 (by omega)
       have := h4 0 hp3
       rw [List.getElem?_eq_getElem (by omega)] at this
       have := cell_spot this
       simpa [Addr.add] using this
      obtain ⟨b, o, sp⟩ := a
      simp only at hsp
      subst hsp
      have key : V (Db W) (.slice (some ⟨b, o, none⟩) l.length cap) (.sl l) := by
       refine V.slN b o cap (P.cellsOf e) l (fun i j => (q i).2.getD j undef) (by omega) ?_ ?_ ?_ ?_
       ·intro i x hx
        obtain ⟨hi, rfl⟩ := hg i x hx
        rw [hpk i hi, (hq i hi).2.1.1, (hq i hi).1]
       ·intro i x j c hx hj
        obtain ⟨hi, rfl⟩ := hg i x hx
        rw [hpk i hi] at hj
        have hj' : j < P.cellsOf e := by have := (List.getElem?_eq_some_iff.1 hj).1; rw [(hq i hi).2.1.1, (hq i hi).1] at this; exact this
        have := (hq i hi).2.2.2 j hj'
        rw [Addr.add_lit, Addr.add_lit] at this
        rw [List.getElem?_eq_getElem (by rw [(hq i hi).1]; exact hj')] at this
        rw [List.getD_eq_getElem?_getD, List.getElem?_eq_getElem (by rw [(hq i hi).1]; exact hj')]
        simpa [Db] using this
       ·intro i x j c hx hj
        obtain ⟨hi, rfl⟩ := hg i x hx
        rw [hpk i hi] at hj
        exact ((hq i hi).2.1.2 j c hj).1
       ·intro i x j c hx hj
        obtain ⟨hi, rfl⟩ := hg i x hx
        rw [hpk i hi] at hj
        exact ((hq i hi).2.1.2 j c hj).2
      rw [hll] at key
      exact key
    ·unfold Ty
     rw [hu]
     refine ⟨css, rfl, ?_, fun c hc => ?_⟩
     ·have hcl : css.length = len := by simp [css]
      rw [hcl]
      refine Nat.le_trans (Nat.mul_le_mul_right _ ?_) hwl
      rw [List.length_map, List.length_map, hlen]; omega
     obtain ⟨i, hi, rfl⟩ := List.mem_map.1 hc
     exact (hq i (by simpa using hi)).2.2.1
  ·rename_i fs hu
   simp only [Bool.and_eq_true, List.all_eq_true, List.contains_iff_mem] at hp
   obtain ⟨hp1, hp2⟩ := hp
   obtain ⟨xs, n', hn, hy, hl, hlen, hf⟩ := DataW.trod_struct hu h
   cases hn
   rw [hy] at hw
   simp only [DataW.weights, hu] at hw
   have key : ∀ (l : List Field) (o : Nat) (cs : List Value), (∀ f ∈ l, f.type ∈ S) → rL P l o (o + cs.length) = true → (∀ f ∈ l, o ≤ f.offset → ∃ y, DataW.trod enc P W 0 (fun _ => true) true n f.type ((cs.drop (f.offset - o)).take (P.cellsOf f.type)) = some y ∧ ∀ k ∈ y.1.weights P f.type, k ≤ reachBytes) →
     ∃ acs, ep W cs acs ∧ Jh P (Ty P n) (l.map (·.type)) acs := by
    intro l
    induction l with
    | nil =>
     intro o cs _ ht _
     have : cs = [] := List.length_eq_zero_iff.1 (by simp only [rL, beq_iff_eq] at ht; omega)
     subst this
     exact ⟨[], ⟨rfl, by simp⟩, rfl⟩
    | cons f l ih =>
     intro o cs hin ht hx
     simp only [rL, Bool.and_eq_true, beq_iff_eq] at ht
     obtain ⟨ho, ht⟩ := ht
     obtain ⟨y, hy, hyw⟩ := hx f (by simp) (by omega)
     rw [ho, Nat.sub_self, List.drop_zero] at hy
     obtain ⟨h1, a, h2, h3⟩ := mf S hS n f.type _ y (hin f (by simp)) hy hyw
     rw [List.length_take] at h1
     have hle : ∀ (l : List Field) (o m : Nat), rL P l o m = true → (∀ g ∈ l, o ≤ g.offset) := by
      intro l
      induction l with
      | nil => intro o m _ g hg; cases hg
      | cons g' l ih2 =>
       intro o m hm g hg
       simp only [rL, Bool.and_eq_true, beq_iff_eq] at hm
       rcases List.mem_cons.1 hg with rfl | hg
       ·omega
       ·have := ih2 _ _ hm.2 g hg; omega
     obtain ⟨b, h4, h5⟩ := ih (o + P.cellsOf f.type) (cs.drop (P.cellsOf f.type)) (fun g hg => hin g (by simp [hg])) (by rw [List.length_drop, show o + P.cellsOf f.type + (cs.length - P.cellsOf f.type) = o + cs.length by omega]; exact ht) (fun g hg hog => by
      obtain ⟨y2, hy2, hyw2⟩ := hx g (by simp [hg]) (by omega)
      refine ⟨y2, ?_, hyw2⟩
      rw [List.drop_drop, show P.cellsOf f.type + (g.offset - (o + P.cellsOf f.type)) = g.offset - o by omega]
      exact hy2)
     refine ⟨a ++ b, ?_, a, b, rfl, by rw [h2.1, List.length_take]; exact h1, h3, h5⟩
     have := h2.app h4
     rwa [List.take_append_drop] at this
   refine ⟨hl, ?_⟩
   obtain ⟨acs, h1, h2⟩ := key fs.toList 0 cs (fun f hf => hp1 f hf) (by rw [Nat.zero_add, hl]; exact hp2) (fun f hf' _ => by
    obtain ⟨i, hi⟩ := List.mem_iff_getElem?.1 hf'
    have hi' : fs[i]? = some f := by simpa using hi
    have h3 := hf i f hi'
    have hlt : i < xs.length := by rw [hlen]; exact (Array.getElem?_eq_some_iff.1 hi').1
    refine ⟨xs[i], by rw [Nat.sub_zero, h3, List.getElem?_eq_getElem hlt], fun k hk => hw k (DataW.weights_mem_each (j := i) (t := f.type) (d := xs[i].1) ?_ ?_ k hk)⟩
    ·rw [List.getElem?_map, hi]; rfl
    ·rw [List.getElem?_map, List.getElem?_eq_getElem hlt]; rfl)
   exact ⟨acs, h1, by unfold Ty; rw [hu]; exact h2⟩
  ·rename_i m e hu
   simp only [Bool.and_eq_true, List.contains_iff_mem, beq_iff_eq] at hp
   obtain ⟨hp1, hp2⟩ := hp
   obtain ⟨xs, n', hn, hy, hl, hlen, hf⟩ := DataW.trod_array hu h
   cases hn
   rw [hy] at hw
   simp only [DataW.weights, hu] at hw
   have key : ∀ (k : Nat) (cs : List Value), cs.length = k * P.cellsOf e → (∀ i, i < k → ∃ y, DataW.trod enc P W 0 (fun _ => true) true n e ((cs.drop (i * P.cellsOf e)).take (P.cellsOf e)) = some y ∧ ∀ k ∈ y.1.weights P e, k ≤ reachBytes) →
     ∃ acs, ep W cs acs ∧ Jh P (Ty P n) (List.replicate k e) acs := by
    intro k
    induction k with
    | zero =>
     intro cs hc _
     have : cs = [] := List.length_eq_zero_iff.1 (by omega)
     subst this
     exact ⟨[], ⟨rfl, by simp⟩, rfl⟩
    | succ k ih =>
     intro cs hc hx
     obtain ⟨y, hy, hyw⟩ := hx 0 (by omega)
     rw [Nat.zero_mul, List.drop_zero] at hy
     obtain ⟨h1, a, h2, h3⟩ := mf S hS n e _ y hp1 hy hyw
     obtain ⟨b, h4, h5⟩ := ih (cs.drop (P.cellsOf e)) (by rw [List.length_drop, hc, Nat.succ_mul]; omega) (fun i hi => by
      obtain ⟨y2, hy2, hyw2⟩ := hx (i + 1) (by omega)
      refine ⟨y2, ?_, hyw2⟩
      rw [List.drop_drop, show P.cellsOf e + i * P.cellsOf e = (i + 1) * P.cellsOf e by rw [Nat.succ_mul]; omega]
      exact hy2)
     refine ⟨a ++ b, ?_, a, b, rfl, by rw [h2.1]; exact h1, h3, h5⟩
     have := h2.app h4
     rwa [List.take_append_drop] at this
   obtain ⟨acs, h1, h2⟩ := key m cs (by rw [hl]; exact hp2) (fun i hi => by
    have h3 := hf i hi
    exact ⟨xs[i], by rw [h3, List.getElem?_eq_getElem (by omega)], fun k hk => hw k (jI (List.mem_map.2 ⟨_, List.getElem_mem (show i < xs.length by omega), rfl⟩) hk)⟩)
   exact ⟨hl, acs, h1, by unfold Ty; rw [hu]; exact h2⟩
  ·cases hp
theorem xX (S : List TypeId) (hS : S.all (nR P S) = true) {r : Reach} {b0 : Nat} {t : TypeId} {v : Value} {d : DataW H} {ps : List MemPlace} (ht : t ∈ S) (hval : Value.okWide P W r b0 t v)
  (hd : DataW.Trod enc P W 0 (fun _ => true) true t v d ps) (hw : ∀ k ∈ d.weights P t, k ≤ reachBytes) : ∃ acs n, V (Db W) v (pack P t acs) ∧ Ty P n t acs := by
 obtain ⟨n, hd⟩ := hd
 obtain ⟨hl, acs, h1, h2⟩ := mf S hS n t _ _ ht hd hw
 refine ⟨acs, n, ?_, h2⟩
 have hp := List.all_eq_true.1 hS t ht
 have agg : ∀ cs, v = .agg cs → V (Db W) v (.agg acs) := by
  rintro cs rfl
  exact .agg cs acs (by have := h1.1; simpa [Value.cells] using this.symm) (fun j c hc => (h1.2 j c hc).1) fun j c hc => by
   have := (h1.2 j c hc).2
   simpa [Value.cells, List.getD_eq_getElem?_getD] using this
 unfold pack
 split
 ·rename_i fs hu
  obtain ⟨cs, rfl, _⟩ := okWide_struct hu hval
  exact agg cs rfl
 ·rename_i m e hu
  have : ∃ cs, v = .agg cs := by unfold Value.okWide at hval; rw [hu] at hval; obtain ⟨cs, h, _⟩ := hval; exact ⟨cs, h⟩
  obtain ⟨cs, rfl⟩ := this
  exact agg cs rfl
 ·rename_i hn1 hn2
  have hone : ∀ u, v.cells.toList = [u] → u = v → V (Db W) v (acs.headD .junk) := by
   intro u hu e
   subst e
   obtain ⟨h3, h4⟩ := h1
   rw [hu] at h3 h4
   match acs, h3 with
   | [a], _ => exact (h4 0 a rfl).2
  unfold nR at hp
  split at hp
  ·rename_i hu
   obtain ⟨b, h3, _⟩ := DataW.trod_bool hu hd
   refine hone _ h3 ?_
   cases v <;> simp_all [Value.cells]
   all_goals first | (rename_i x; obtain ⟨l⟩ := x; simp_all [Value.okWide]; done) | skip
   all_goals (unfold Value.okWide at hval; rw [hu] at hval; simp [Cell.okWide, hu, Cell.ok] at hval)
  ·rename_i k hu
   obtain ⟨m, h3, _⟩ := DataW.trod_int hu hd
   refine hone _ h3 ?_
   cases v <;> simp_all [Value.cells]
   all_goals (unfold Value.okWide at hval; rw [hu] at hval; simp [Cell.okWide, hu, Cell.ok] at hval)
  ·rename_i hu
   obtain ⟨s, rfl⟩ := okWide_string hu hval
   exact hone _ rfl rfl
  ·rename_i e hu
   obtain ⟨a, len, cap, rfl⟩ := okWide_slice hu hval
   exact hone _ rfl rfl
  ·rename_i fs hu; exact absurd hu (hn1 fs)
  ·rename_i m e hu; exact absurd hu (hn2 m e)
  ·cases hp
end
section
variable {P : Program} {N : Nat} {s : St} {Q : Exit → St → Prop}
theorem aK.k7 {c : Code} {α : Type} (upd : α → St) (rest : St) (I : α → Prop) (m : α → Nat) (a0 : α) (hs : s = upd a0 ++ rest) (h0 : I a0)
  (hb : ∀ a, I a → aK P N c (upd a ++ rest) fun e s' => match e with | .normal => ∃ b, m b < m a ∧ I b ∧ s' = upd b ++ rest | e => Q e s') : aK P N (.loop c) s Q := by
 refine aK.loop (fun n t => ∃ a, m a = n ∧ I a ∧ t = upd a ++ rest) ?_ (n := m a0) ⟨a0, rfl, h0, hs⟩
 rintro n t ⟨a, rfl, ha, rfl⟩
 refine (hb a ha).mono fun e s' h => ?_
 cases e with
 | normal => obtain ⟨b, h1, h2, h3⟩ := h; exact ⟨m b, h1, b, rfl, h2, h3⟩
 | _ => exact h
theorem aK.BT {c d : Code} {α : Type} (cs : List aI) (upd : α → St) (F : α → Prop) {rest : St} (hr : X.az cs s cs = some rest) (h1 : aK P N c s fun e s' => match e with | .normal => ∃ a, F a ∧ s' = upd a ++ rest | e => Q e s')
  (h2 : ∀ a, F a → aK P N d (upd a ++ rest) Q) : aK P N (.seq c d) s Q :=
 aK.join (fun s' => ∃ a, F a ∧ s' = upd a ++ rest) h1 fun s' ⟨a, ha, e⟩ => e ▸ h2 a ha
theorem Kept.c6 {Q : St → Prop} (n : Nat) {k : IntKind} {v v' : Int} (h : get s (.s n) = some (.sv (.v (.int k v)))) (e : v = v') (hq : Kept ((.s n, .sv (.v (.int k v'))) :: s) Q) : Kept s Q := fun E N a w ⟨G, L, hr⟩ => by
 subst e
 refine hq E N a w ⟨G, L, hr.ext fun c => ?_⟩
 simp only [get]
 split
 ·rename_i hc; subst hc; exact h.symm
 ·rfl
theorem Kept.ly {Q : St → Prop} {H H' : Hp} (h : get s .h = some (.hp H)) (e : H = H') (hq : Kept ((.h, .hp H') :: s) Q) : Kept s Q := fun E N a w ⟨G, L, hr⟩ => by
 subst e
 refine hq E N a w ⟨G, L, hr.ext fun c => ?_⟩
 simp only [get]
 split
 ·rename_i hc; subst hc; exact h.symm
 ·rfl
theorem Kept.O4 {Q : St → Prop} (n : Nat) {v v' : AV} (h : get s (.s n) = some (.sv (.v v))) (e : v = v') (hq : Kept ((.s n, .sv (.v v')) :: s) Q) : Kept s Q := fun E N a w ⟨G, L, hr⟩ => by
 subst e
 refine hq E N a w ⟨G, L, hr.ext fun c => ?_⟩
 simp only [get]
 split
 ·rename_i hc; subst hc; exact h.symm
 ·rfl
end
theorem GR (a k : Nat) : ((a : Nat) : Int).fdiv (2 ^ k) = ((a / 2 ^ k : Nat) : Int) := by
 rw [Int.fdiv_eq_ediv_of_nonneg _ (by exact Int.le_of_lt (Int.pow_pos (by decide)))]
 norm_cast
section
variable {P : Program} {N : Nat} {s : St} {d : Nat} {ty : TypeId} {pos : String} {af : Array Edge} {g : Option (Nat × Bool)}
theorem Ex {t1 t2 : TypeId} {x y : Operand} {k k' : IntKind} {a : Nat} {b : Int} (hN : d < N) (hx : cV x s = some (.int k (a : Int))) (hy : cV y s = some (.int k' b)) (hb : 0 ≤ b) :
  aW P N ⟨some d, .binOp .shr t1 x y t2, ty, pos, af, g⟩ s (rd x ++ rd y) [(.s d, .sv (.v (.int k ((a / 2 ^ (min b.toNat k.bits) : Nat) : Int))))] :=
 iU hN hx hy (by
  show (if b < 0 then none else some (AV.int k (((a : Nat) : Int).fdiv (2 ^ (min b.toNat k.bits))))) = _
  rw [if_neg (by omega), GR])
theorem BA {ts : Array TypeId} {x y : Operand} {k k' : IntKind} {m n : Int} (hN : d < N) (hx : cV x s = some (.int k m)) (hy : cV y s = some (.int k' n)) :
  aW P N ⟨some d, .call { callee := .builtin .max, args := #[x, y], argTypes := ts }, ty, pos, af, g⟩ s (rd x ++ rd y) [(.s d, .sv (.v (.int k (if n > m then n else m))))] :=
 aW.val rfl hN fun _ G _ a w _ hr hR => by
  refine ⟨.int k (if n > m then n else m), ?_, .int _ _⟩
  have h1 := (aT hr hR.left hx).int_eq
  have h2 := (aT hr hR.right hy).int_eq
  simp [execOp, resolve, invoke, builtin, h1, h2, run_max_int2]
theorem Az {ts : Array TypeId} {x y : Operand} {k k' : IntKind} {m n : Int} (hN : d < N) (hx : cV x s = some (.int k m)) (hy : cV y s = some (.int k' n)) :
  aW P N ⟨some d, .call { callee := .builtin .min, args := #[x, y], argTypes := ts }, ty, pos, af, g⟩ s (rd x ++ rd y) [(.s d, .sv (.v (.int k (if n < m then n else m))))] :=
 aW.val rfl hN fun _ G _ a w _ hr hR => by
  refine ⟨.int k (if n < m then n else m), ?_, .int _ _⟩
  have h1 := (aT hr hR.left hx).int_eq
  have h2 := (aT hr hR.right hy).int_eq
  simp [execOp, resolve, invoke, builtin, h1, h2, run_min_int2]
end
theorem Hp.set_set {H : Hp} {id : Nat} {a b : List Hc} : (H.set id a).set id b = H.set id b := by
 simp only [Hp.set]
 congr 1
 funext i
 split <;> rfl
theorem Hp.bN {H : Hp} {id : Nat} {hs : List Hc} : (H.set id hs).obj id = some hs := by simp [Hp.set]
theorem Hp.fM {H : Hp} {id : Nat} {hs : List Hc} (h : H.obj id = some hs) : H.set id hs = H := by
 obtain ⟨n, o⟩ := H
 simp only [Hp.set]
 congr 1
 funext i
 split
 ·rename_i e; subst e; exact h.symm
 ·rfl
theorem inc {n : Nat} (h : n < 9223372036854775807) : IntKind.i64.wrap ((n : Int) + 1) = ((n + 1 : Nat) : Int) := by
 simp only [IntKind.wrap, IntKind.bits, IntKind.signed]; simp; omega
theorem cz {α β : Type} {f : α → β} {xs : List α} {i : Nat} (h : decide ((i : Int) < ((xs.map f).length : Int)) = true) : i < xs.length := by
 have := of_decide_eq_true h; rw [List.length_map] at this; omega
theorem dA {α β : Type} {f : α → β} {xs : List α} {i : Nat} (h : decide ((i : Int) < ((xs.map f).length : Int)) = false) : xs.length ≤ i := by
 have := of_decide_eq_false h; rw [List.length_map] at this; omega
theorem ca {α β : Type} {f : α → β} {xs : List α} {i : Nat} (h : i < xs.length) : (xs.map f)[((i : Nat) : Int).toNat]? = some (f xs[i]) := by
 simp [h]
theorem P4 {xs : List UInt8} {i : Nat} (h : decide ((i : Int) < (xs.length : Int)) = true) : i < xs.length := by
 have := of_decide_eq_true h; omega
theorem P6 {xs : List UInt8} {i : Nat} (h : decide ((i : Int) < (xs.length : Int)) = false) : xs.length ≤ i := by
 have := of_decide_eq_false h; omega
theorem N8 {xs : List UInt8} {i : Nat} (h : i < xs.length) : xs[((i : Nat) : Int).toNat]? = some xs[i] := by
 simp [h]
theorem P3 {i n : Nat} (h : decide ((i : Int) < (n : Int)) = true) : i < n := by
 have := of_decide_eq_true h; omega
theorem P5 {i n : Nat} (h : decide ((i : Int) < (n : Int)) = false) : n ≤ i := by
 have := of_decide_eq_false h; omega
theorem so {α β : Type} {f : α → β} {xs : List α} {i : Nat} {j : Int} (hj : j = (i : Int)) (h : i < xs.length) : (xs.map f)[j.toNat]? = some (f xs[i]) := by
 subst hj; simp [h]
theorem qh {i : Nat} (h : 0 < i) (h2 : i ≤ 9223372036854775807) : IntKind.i64.wrap ((i : Int) - 1) = ((i - 1 : Nat) : Int) := by
 simp only [IntKind.wrap, IntKind.bits, IntKind.signed]; simp; omega
section
variable {N : Nat} {s : St}
def GF (k : Nat) (cs : List AV) : Sv → Sv
 | .lp j o => if j = k then .v (.kp (cs.drop o)) else .lp j o
 | x => x
def o5 (k : Nat) (cs : List AV) : CV → CV
 | .sv x => .sv (GF k cs x)
 | v => v
def zz (k : Nat) (cs : List AV) : St → St
 | [] => []
 | (c, v) :: s => (c, (if c = .b k then .gone else o5 k cs v)) :: zz k cs s
theorem B0 {k : Nat} {cs : List AV} : ∀ {s : St} (c : aI), get (zz k cs s) c = (get s c).map (fun v => if c = .b k then .gone else o5 k cs v)
 | [], c => by simp [zz, get]
 | (d, v) :: s, c => by
  simp only [zz, get]
  split
  ·rename_i e; subst e; rfl
  ·exact B0 c
theorem Rel.zz {E : eB} {G : Gh} {L : Loc} {a : Act} {w : World} (h : Rel E N G L a w s) {k : Nat} {l : List Sv} {cs : List AV} (hk : get s (.b k) = some (.bx l)) (hcs : nu l = some cs) : ∃ G', Rel E N G' L a w (zz k cs s) := by
 obtain ⟨blk, o, hb, hbase, hh, ⟨arr, el, rfl, hsz, hc⟩, hno, _⟩ := h.box k _ hk rfl
 have hmine : owns s L (.b k) blk := ⟨⟨_, hk, rfl⟩, hb⟩
 obtain ⟨hl1, hl2⟩ := uF hcs
 let G' := G.add blk arr.toList
 have hle : G.le G' := Gh.tY (fun o v e => by rw [hno o] at e; cases e)
 have hcell : ∀ (j : Nat) c, cs[j]? = some c → c.flat = true ∧ V G (arr.getD j undef) c := fun j c e => by
  obtain ⟨y, hy, hav⟩ := hl2 j c e
  exact ⟨Ba (hc j y hy).1 hav, (hc j y hy).2.av hav⟩
 have hkn2 : ∀ c j, c ≠ blk → G'.kn c j = G.kn c j := fun c j e => by simp [G', Gh.add, e]
 have hg := fun c => B0 (k := k) (cs := cs) (s := s) c
 have hsv : ∀ v x, SV G L v x → SV G' L v (GF k cs x) := by
  intro v x hv
  cases x with
  | lp j n =>
   simp only [GF]
   split
   ·rename_i e; subst e
    obtain ⟨b2, h1, rfl⟩ := hv
    rw [hb] at h1; cases h1
    refine V.kp blk n (cs.drop n) (fun j => arr.getD (n + j) undef) (fun j c e => ?_) (fun j c e => ?_) (fun j c e => ?_)
    ·rw [List.getElem?_drop] at e
     have hlt : n + j < arr.size := by have := (List.getElem?_eq_some_iff.1 e).1; omega
     rw [pq, Array.getElem?_toList, Array.getElem?_eq_getElem hlt, Array.getD_eq_getD_getElem?, Array.getElem?_eq_getElem hlt]; rfl
    ·rw [List.getElem?_drop] at e; exact (hcell _ c e).1
    ·rw [List.getElem?_drop] at e; exact ((hcell _ c e).2).mono hle
   ·exact hv
  | v a => exact SV.mono hle hv
  | mv j o => exact hv
  | ow j ys => exact SV.mono hle hv
  | om j n => exact hv
  | ov j z l n => exact hv
  | ta j o => exact hv
  | mp j => exact hv
  | cd g b a => exact SV.mono hle hv
 have hlive : ∀ v, (o5 k cs v).live = v.live := by intro v; cases v <;> rfl
 have hown : ∀ c b, owns (X.zz k cs s) L c b → c ≠ .b k ∧ owns s L c b := by
  intro c b hc
  cases c with
  | b j =>
   obtain ⟨⟨cv, g, hl⟩, hb'⟩ := hc
   rw [hg] at g
   obtain ⟨v, q1, q2⟩ := Option.map_eq_some_iff.1 g
   split at q2
   ·subst q2; cases hl
   ·rename_i e
    subst q2
    exact ⟨e, ⟨v, q1, by rw [← hlive]; exact hl⟩, hb'⟩
  | t j =>
   obtain ⟨⟨m, el, esz, ys, g⟩, v, hv, hb'⟩ := hc
   rw [hg] at g
   obtain ⟨v2, q1, q2⟩ := Option.map_eq_some_iff.1 g
   simp only [reduceCtorEq, if_false] at q2
   have hv2 : v2 = .tk m el esz ys := by cases v2 <;> simp [o5] at q2 <;> first | exact q2 | (obtain ⟨rfl, rfl, rfl, rfl⟩ := q2; rfl)
   subst hv2
   exact ⟨by simp, ⟨_, _, _, _, q1⟩, v, hv, hb'⟩
  | s n => exact hc.elim
  | h => exact hc.elim
 have hneb : ∀ c b, owns (X.zz k cs s) L c b → b ≠ blk := by
  rintro c b hc rfl
  obtain ⟨h1, h2⟩ := hown c _ hc
  exact h1 (h.disj c (.b k) _ h2 hmine)
 obtain ⟨H0, gH, hokH, hmayH⟩ := h.heap
 have hfb : ∀ c, aa G H0 w c → c ≠ blk := fun c hc e => h.hdisj _ _ hmine H0 gH (e ▸ hc)
 have hst := hokH.stay (w' := w) hle rfl (fun c hc o => (hkn2 c o (hfb c hc)).trans ((hokH.aa hc).2 o)) (fun c hc => rfl) (Nat.le_refl _)
 have hgh : ∀ H2, get (X.zz k cs s) .h = some (.hp H2) → get s .h = some (.hp H2) := by
  intro H2 g2
  rw [hg] at g2
  obtain ⟨v, q1, q2⟩ := Option.map_eq_some_iff.1 g2
  simp only [reduceCtorEq, if_false] at q2
  have hv2 : v = .hp H2 := by cases v <;> simp [o5] at q2; exact congrArg _ q2
  rw [hv2] at q1; exact q1
 refine ⟨G', h.size, h.defs, h.ge, ?_, ?_, h.obs, h.obn, h.fr, ?_, ?_, ?_, fun c d b hc hd => h.disj c d b (hown _ _ hc).2 (hown _ _ hd).2, ⟨H0, by rw [hg]; simp [gH, o5], hst.1, fun b hb => hmayH b ((hst.2 b).1 hb)⟩, fun c b hc H2 g2 e2 => ?_, ?_, ?_⟩
 ·intro b j v e
  by_cases eb : b = blk
  ·subst eb
   rw [pq] at e
   rw [cell_of_row w b j arr el (0, 0) hh]
   simpa using e
  ·rw [hkn2 b j eb] at e; exact h.kn b j v e
 ·intro b j hlt hm
  rw [hkn2 b j (fun e => by
   subst e
   rcases hbase with e | e
   ·omega
   ·exact hm e)]
  exact h.old b j hlt hm
 ·intro n x g
  rw [hg] at g
  obtain ⟨v, q1, q2⟩ := Option.map_eq_some_iff.1 g
  simp only [reduceCtorEq, if_false] at q2
  cases v <;> simp [o5] at q2
  subst q2
  exact hsv _ _ (h.slot n _ q1)
 ·intro j cv g hl
  rw [hg] at g
  obtain ⟨v, q1, q2⟩ := Option.map_eq_some_iff.1 g
  split at q2
  ·subst q2; cases hl
  ·rename_i e
   subst q2
   rw [hlive] at hl
   have hne : ∀ b2, L.box j = some b2 → b2 ≠ blk := by
    rintro b2 p1 rfl
    exact e (h.disj (.b j) (.b k) _ ⟨⟨v, q1, hl⟩, p1⟩ hmine)
   have e1 : o5 k cs v = v := by cases v <;> first | rfl | cases hl
   rw [e1]
   exact (h.box j v q1 hl).stay hle (fun _ _ e => .inl ⟨_, e⟩) (fun _ _ => rfl) (fun b2 p1 o => hkn2 b2 o (hne b2 p1))
 ·intro j m el' esz' ys g
  rw [hg] at g
  obtain ⟨v2, q1, q2⟩ := Option.map_eq_some_iff.1 g
  simp only [reduceCtorEq, if_false] at q2
  have hv2 : v2 = .tk m el' esz' ys := by cases v2 <;> simp [o5] at q2 <;> first | exact q2 | (obtain ⟨rfl, rfl, rfl, rfl⟩ := q2; rfl)
  subst hv2
  refine (h.tok j m el' esz' ys q1).stay hle (fun _ _ e => .inl ⟨_, e⟩) (fun _ _ _ _ => rfl) (fun v b2 hv hb2 o => hkn2 b2 o ?_)
  rintro rfl
  have := h.disj (.t j) (.b k) _ ⟨⟨_, _, _, _, q1⟩, v, hv, hb2⟩ hmine
  cases this
 ·have := hgh H2 g2
  rw [gH] at this; cases this
  have e3 := (hst.2 b).1 e2
  exact h.hdisj c b (hown _ _ hc).2 _ gH e3
 ·intro j g
  rw [hg] at g
  exact h.nobox j (by simpa using g)
 ·intro j g
  rw [hg] at g
  exact h.notok j (by simpa using g)
theorem Kept.zz {Q : St → Prop} (k : Nat) {l : List Sv} {cs : List AV} (hk : get s (.b k) = some (.bx l)) (hcs : nu l = some cs) (h : Kept (X.zz k cs s) Q) : Kept s Q := fun E N a w ⟨G, L, hr⟩ => by
 obtain ⟨G', hr'⟩ := hr.zz hk hcs
 exact h E N a w ⟨G', L, hr'⟩
end
section
variable {P : Program} {N : Nat} {s : St} {d : Nat} {ty : TypeId} {pos : String} {af : Array Edge} {g : Option (Nat × Bool)}
def Nt (P : Program) (t : TypeId) : Option (Nat × TypeId × Nat) :=
 match P.underlying t with
 | some (.array n e) => (P.info? e).map fun i => (n, e, i.size)
 | _ => none
theorem Iw {t1 : TypeId} {ps : List (Nat × Operand)} {n sz : Nat} {e : TypeId} {zs : List AV} {qs : List (Nat × AV)} {r : List AV} (hN : d < N) (ht : Nt P t1 = some (n, e, sz)) (hz : cE P t1 = some zs) (hq : ld ps s = some qs) (hf : j8 (fun i => some (i * sz, sz)) zs qs = some r) :
  aW P N ⟨some d, .build t1 ps.toArray, ty, pos, af, g⟩ s (nO (ps.map (·.2))) [(.s d, .sv (.v (.agg r)))] :=
 aW.val rfl hN fun E G L a w t hr hR => by
  have hparts := lF hr hR hq
  obtain ⟨i, z, hi, hzz, hrow0⟩ := tx hz
  have bw := hrow0 G
  obtain ⟨arr', hfill, hrow'⟩ := tF hparts bw hf
  unfold Nt at ht
  split at ht
  ·rename_i n' e' hu
   obtain ⟨ie, hie, e2⟩ := Option.map_eq_some_iff.1 ht
   cases e2
   refine ⟨.agg arr', ?_, V.agg _ _ hrow'.1 (fun j c e => (hrow'.2 j c e).1) (fun j c e => (hrow'.2 j c e).2)⟩
   have hfill' : Instr.fill (fun i => some (i * ie.size, ie.size)) z.cells (List.map (fun (x : Nat × Operand) => (x.1, a.eval x.2)) ps) = some arr' := by
    simpa using hfill
   simp only [execOp, Instr.build, Sem.run_bind, zeroValue, sizeOf, typeInfo, run_program, Result.andThen_ok, hi, hie, Sem.run_pure, hzz, run_underlying hu, List.map_toArray]
   rw [hfill']
   rfl
  ·cases ht
theorem Ly {t1 : TypeId} {x i : Operand} {n : Nat} {e : TypeId} {cs : List AV} {k : IntKind} {j : Int} {c : AV} (hN : d < N) (ht : Nt P t1 = some (n, e, 1)) (hl : lk P e = some (false, 1)) (hx : cV x s = some (.agg cs)) (hi : cV i s = some (.int k j)) (h0 : 0 ≤ j) (h1 : j < n) (hc : cs[j.toNat]? = some c) :
  aW P N ⟨some d, .index t1 x i, ty, pos, af, g⟩ s (rd x ++ rd i) [(.s d, .sv (.v c))] :=
 aW.val rfl hN fun E G L a w t hr hR => by
  have hv := aT hr hR.left hx
  have hn := lb (aT hr hR.right hi)
  unfold Nt at ht
  split at ht
  ·rename_i n' e' hu
   obtain ⟨ie, hie, e2⟩ := Option.map_eq_some_iff.1 ht
   simp only [Prod.mk.injEq] at e2
   obtain ⟨rfl, rfl, h1s⟩ := e2
   generalize hav : a.eval x = u at hv
   cases hv with
   | agg vs _ hsz hf hvv =>
    have hlt : j.toNat < vs.size := by rw [hsz]; exact (List.getElem?_eq_some_iff.1 hc).1
    refine ⟨vs.getD j.toNat undef, ?_, hvv _ c hc⟩
    obtain ⟨ha, _⟩ := pV hl w
    have hp : (part e' vs (j.toNat * ie.size)).run P w = .ok (vs.getD j.toNat undef) w := by
     unfold part
     simp only [Sem.run_bind, ha, Result.andThen_ok, h1s, Nat.mul_one, Array.getElem?_eq_getElem hlt, Array.getD_eq_getD_getElem?]
     rfl
    simp [execOp, hav, hn, Instr.index, asIntOf, run_underlying hu, h0, h1, sizeOf, typeInfo, hie, hp]
  ·cases ht
end
section
open Go.Maps Go.MapKept
open Go.WideElems (Fit rd rg pl rd_val elemAt)
open Go.ChangeMaps (notKey putKey setBlock heap_setBlock_same heap_setBlock_other)
def j9 (P : Program) (kt et : TypeId) (n : Nat) (f : List UInt8 → Int) (o : Obj) : Prop :=
 ∃ es clock, o = .map es clock ∧ Fit P kt (plainElem (H := Unit) P et) es clock ∧ es.size ≤ n ∧ ∀ key : List UInt8, (DataW.map ((es.toList.map (rg P kt (plainElem (H := Unit) P et))).foldr DataW.insert [])).atKey (.string key) (.lit (.int .i64 0)) = .lit (.int .i64 (f key))
theorem j9.owns {P : Program} {kt et : TypeId} {n : Nat} {f : List UInt8 → Int} {o : Obj} {w : World} {b : Nat} (h : j9 P kt et n f o) (hb : w.heap[b]? = some o) :
  ∃ D : DataW Unit, w.ownsMap P kt (plainElem P et) b n D ∧ ∀ key : List UInt8, D.atKey (.string key) (.lit (.int .i64 0)) = .lit (.int .i64 (f key)) := by
 obtain ⟨es, clock, rfl, F, hs, hf⟩ := h
 exact ⟨_, ⟨es, clock, hb, F, hs, rfl⟩, hf⟩
theorem Dz {P : Program} {kt : TypeId} (hk : P.underlying kt = some .string) {key : List UInt8} (hl : key.length ≤ 9223372036854775807) : keyOf P kt (.string ⟨key.toArray⟩) = some (.string key) := by
 have hm : (⟨key.toArray⟩ : ByteArray).size ≤ maxLen := by simp [ByteArray.size, maxLen]; omega
 unfold keyOf
 rw [hk]
 simp only [mapKey, hk, hm, if_true]
section
variable {P : Program} {N : Nat} {s : St} {d : Nat} {ty : TypeId} {pos : String} {af : Array Edge} {g : Option (Nat × Bool)}
theorem Lt {t1 kt et : TypeId} (hN : d < N) (hk : get s (.b d) = none) :
  aW P N ⟨some d, .makeMap t1 none, ty, pos, af, g⟩ s [.b d] [(.s d, .sv (.mp d)), (.b d, .raw (j9 P kt et 0 fun _ => 0))] := by
 intro t hR E G L a w hr K Q hK
 have hk' : get t (.b d) = none := by rw [hR (.b d) (by simp)]; exact hk
 have hm : j9 P kt et 0 (fun _ => 0) (.map #[] 0) := by
  refine ⟨#[], 0, rfl, ⟨by simp, stamped_empty 0, by simp⟩, Nat.le_refl _, fun key => rfl⟩
 have hr1 := hr.alloc d hk' (.map #[] 0) (.raw (j9 P kt et 0 fun _ => 0)) rfl rfl hm
 unfold Oper.wp
 have he : (execOp a.eval ⟨some d, .makeMap t1 none, ty, pos, af, g⟩).run P w = .ok (.value (.map (some w.heap.size))) (w.alloc (.map #[] 0)) := by
  simp [execOp, Go.RowKit.run_makeMap, Option.map]
 rw [he]
 exact hK _ _ G _ (hr1.put d hN _ (.mp d) ⟨w.heap.size, by simp [Loc.cM], rfl⟩)
theorem Ey {t1 kt et : TypeId} {m x : Operand} {k n : Nat} {f : List UInt8 → Int} {key : List UInt8} (hN : d < N) (ht : P.underlying t1 = some (.map kt et)) (hkt : P.underlying kt = some .string) (he : P.underlying et = some (.int .i64)) (hz : ∀ w, (zeroValue et).run P w = .ok (.int .i64 0) w)
  (hx : gS m s = some (.mp k)) (hk : get s (.b k) = some (.raw (j9 P kt et n f))) (hi : cV x s = some (.str key)) (hl : key.length ≤ 9223372036854775807) :
  aW P N ⟨some d, .lookup t1 m x false, ty, pos, af, g⟩ s (rd m ++ (rd x ++ [.b k])) [(.s d, .sv (.v (.int .i64 (f key))))] := by
 intro t hR E G L a w hr K Q hK
 obtain ⟨blk, hb, hv⟩ := bj hr hR.left hx
 have hi' := (aT hr hR.right.left hi).yp
 have hk' : get t (.b k) = some (.raw (j9 P kt et n f)) := by rw [hR (.b k) (by simp)]; exact hk
 obtain ⟨blk', o, hb', hbase, hh, ho, hno⟩ := hr.box k _ hk' rfl
 rw [hb] at hb'; cases hb'
 have ho' : j9 P kt et n f o := ho
 obtain ⟨D, hown, hD⟩ := ho'.owns hh
 obtain ⟨c, hrun, hat, _⟩ := hown.lookup_int (string_keyed hkt) ht he (hz w) (Dz hkt hl)
 rw [hD] at hat
 obtain rfl : f key = c := by injection hat with h; injection h
 unfold Oper.wp
 have hex : (execOp a.eval ⟨some d, .lookup t1 m x false, ty, pos, af, g⟩).run P w = .ok (.value (.int .i64 (f key))) w := by
  simp [execOp, hv, hi', hrun, Result.andThen]
 rw [hex]
 exact hK _ _ G L (hr.put d hN _ (.v (.int .i64 (f key))) (.int _ _))
theorem Ls {t1 kt et : TypeId} {m x y : Operand} {k n : Nat} {f : List UInt8 → Int} {key : List UInt8} {v : Int} (ht : P.underlying t1 = some (.map kt et)) (hkt : P.underlying kt = some .string) (he : P.underlying et = some (.int .i64))
  (hx : gS m s = some (.mp k)) (hk : get s (.b k) = some (.raw (j9 P kt et n f))) (hi : cV x s = some (.str key)) (hy : cV y s = some (.int .i64 v)) (hl : key.length ≤ 9223372036854775807) (hn : n < 9223372036854775807) (hw : (Lit.int .i64 v).wf = true) :
  aW P N ⟨none, .mapUpdate t1 m x y, ty, pos, af, g⟩ s (rd m ++ (rd x ++ (rd y ++ [.b k]))) [(.b k, .raw (j9 P kt et (n + 1) fun l => if l = key then v else f l))] := by
 intro t hR E G L a w hr K Q hK
 obtain ⟨blk, hb, hv⟩ := bj hr hR.left hx
 have hi' := (aT hr hR.right.left hi).yp
 have hy' := (aT hr hR.right.right.left hy).int_eq
 have hk' : get t (.b k) = some (.raw (j9 P kt et n f)) := by rw [hR (.b k) (by simp)]; exact hk
 obtain ⟨blk', o, hb', hbase, hh, ho, hno⟩ := hr.box k _ hk' rfl
 rw [hb] at hb'; cases hb'
 have ho' : j9 P kt et n f o := ho
 obtain ⟨es, clock, rfl, F, hs, hD⟩ := ho'
 have hroom : es.size < maxLen := by unfold maxLen; omega
 have hkey := Dz hkt hl
 have hR1 : plainElem (H := Unit) P et (.int .i64 v) = some (.lit (.int .i64 v), []) := plainElem_int he hw
 obtain ⟨es', clock', hrun, F', hput, _⟩ := Maps.fit_store (R' := plainElem (H := Unit) P et) (string_keyed hkt) ht hh F hroom (fun _ _ _ _ hz => hz) hkey hR1
 have hsz : es'.size ≤ n + 1 := by
  have e1 : es'.size = ((es'.toList.map (rg P kt (plainElem (H := Unit) P et))).foldr DataW.insert []).length := by rw [length_sorted]; simp
  rw [e1, hput]
  unfold putKey
  rw [length_insert]
  have e2 := List.length_filter_le (notKey (.string key)) ((es.toList.map (rg P kt (plainElem (H := Unit) P et))).foldr DataW.insert [])
  rw [length_sorted] at e2
  simp at e2
  omega
 have hm : j9 P kt et (n + 1) (fun l => if l = key then v else f l) (.map es' clock') := by
  refine ⟨es', clock', rfl, F', hsz, fun l => ?_⟩
  rw [hput, ← DataW.put_eq]
  by_cases hlk : l = key
  ·subst hlk
   rw [atKey_put_same (k := .string l) ⟨_, rfl⟩ (by simp [WideAt.IsKeyLit])]
   simp
  ·rw [atKey_put_other (by intro e; injection e with e; exact hlk e), hD]
   simp [hlk]
 have hlt := (Array.getElem?_eq_some_iff.1 hh).1
 have hr1 := hr.My (w' := setBlock w blk (.map es' clock')) (cv := .raw (j9 P kt et (n + 1) fun l => if l = key then v else f l)) hk' rfl rfl rfl hb (o := .map es' clock') hm rfl rfl rfl (by simp [setBlock]) (fun j hj => heap_setBlock_other hh _ hj) (heap_setBlock_same hh _)
 unfold Oper.wp
 have hex : (execOp a.eval ⟨none, .mapUpdate t1 m x y, ty, pos, af, g⟩).run P w = .ok .skip (setBlock w blk (.map es' clock')) := by
  simp [execOp, hv, hi', hy', hrun, Result.andThen]
 rw [hex]
 exact hK _ _ G L hr1
end
end
inductive bH (D : Nat → Prop) : AV → Prop where
 | bool (b : Bool) : bH D (.bool b)
 | int (k : IntKind) (n : Int) : bH D (.int k n)
 | str (s : List UInt8) : bH D (.str s)
 | sl (xs : List AV) (h : ∀ x ∈ xs, bH D x) : bH D (.sl xs)
 | agg (xs : List AV) (h : ∀ x ∈ xs, bH D x) : bH D (.agg xs)
 | tup (xs : List AV) (h : ∀ x ∈ xs, bH D x) : bH D (.tup xs)
 | nilp : bH D .nilp
 | nsl : bH D .nsl
 | sll (n : Nat) : bH D (.sll n)
 | kp (xs : List AV) (h : ∀ x ∈ xs, bH D x) : bH D (.kp xs)
 | op (id off : Nat) (h : D id) : bH D (.op id off)
 | os (id n c : Nat) (h : D id) : bH D (.os id n c)
 | fn (f : FuncId) (xs : List AV) (h : ∀ x ∈ xs, bH D x) : bH D (.fn f xs)
 | nilf : bH D .nilf
 | yf (l : Nat) : bH D (.yf l)
 | ifc (t : TypeId) (v : AV) (h : bH D v) : bH D (.ifc t v)
 | nili : bH D .nili
 | junk : bH D .junk
theorem jB {α : Type} {l : List α} {x : α} (h : x ∈ l) : ∃ i : Nat, l[i]? = some x := List.mem_iff_getElem?.1 h
theorem bH.BJ {D : Nat → Prop} {e : AV} (h : ∀ c ∈ e.cells, bH D c) : bH D e := by
 by_cases hf : e.flat = true
 ·rw [AV.gm hf] at h
  exact h e (by simp)
 ·cases e with
  | agg cs => exact .agg cs h
  | tup vs => exact h _ (by simp [AV.cells])
  | _ => exact absurd rfl hf
theorem bH.A6 {D : Nat → Prop} {e : AV} (h : bH D e) : ∀ c ∈ e.cells, bH D c := by
 intro c hc
 cases h with
 | agg cs hh => exact hh c hc
 | _ => simp [AV.cells] at hc; subst hc; constructor <;> assumption
theorem V.ops {G : Gh} {v : Value} {a : AV} (h : V G v a) : bH (fun id => ∃ b, G.ob id = some b) a := by
 induction h with
 | bool b => exact .bool b
 | int k n => exact .int k n
 | str s => exact .str s
 | junk v h => exact .junk
 | nilp => exact .nilp
 | nsl => exact .nsl
 | sll a n cap => exact .sll n
 | kp b off cs vs hk hf _ ih => exact .kp cs fun x hx => by obtain ⟨j, hj⟩ := jB hx; exact ih j x hj
 | op id off b e => exact .op id off ⟨b, e⟩
 | os id n s b c e hn hz => exact .os id n s ⟨b, e⟩
 | slE a cap => exact .sl [] (by simp)
 | slN b off cap esz xs vs hc he hk hf _ ih =>
  refine .sl xs fun x hx => ?_
  obtain ⟨i, hi⟩ := jB hx
  refine bH.BJ fun c hc => ?_
  obtain ⟨j, hj⟩ := jB hc
  exact ih i x j c hi hj
 | agg vs cs hl hf _ ih => exact .agg cs fun x hx => by obtain ⟨j, hj⟩ := jB hx; exact ih j x hj
 | tup vs cs hl _ ih => exact .tup cs fun x hx => by obtain ⟨j, hj⟩ := jB hx; exact ih j x hj
 | fn f vs cs hl _ ih => exact .fn f cs fun x hx => by obtain ⟨j, hj⟩ := jB hx; exact ih j x hj
 | nilf => exact .nilf
 | yf l => exact .yf l
 | ifc t v a _ ih => exact .ifc t a ih
 | nili => exact .nili
theorem bH.mono {D D' : Nat → Prop} (hd : ∀ i, D i → D' i) {a : AV} (h : bH D a) : bH D' a := by
 induction h with
 | bool b => exact .bool b
 | int k n => exact .int k n
 | str s => exact .str s
 | sl xs _ ih => exact .sl xs ih
 | agg xs _ ih => exact .agg xs ih
 | tup xs _ ih => exact .tup xs ih
 | nilp => exact .nilp
 | nsl => exact .nsl
 | sll n => exact .sll n
 | kp xs _ ih => exact .kp xs ih
 | op id off h => exact .op id off (hd _ h)
 | os id n c h => exact .os id n c (hd _ h)
 | fn f xs _ ih => exact .fn f xs ih
 | nilf => exact .nilf
 | yf l => exact .yf l
 | ifc t v _ ih => exact .ifc t v ih
 | nili => exact .nili
 | junk => exact .junk
def Gh.res (G : Gh) (n : Nat) : Gh := ⟨G.kn, fun id => if id < n then G.ob id else none, G.sz⟩
theorem V.res {G : Gh} {n : Nat} {v : Value} {a : AV} (h : V G v a) (ho : bH (fun id => id < n) a) : V (G.res n) v a := by
 induction h with
 | bool b => exact .bool b
 | int k m => exact .int k m
 | str s => exact .str s
 | junk v h => exact .junk v h
 | nilp => exact .nilp
 | nsl => exact .nsl
 | sll a m cap => exact .sll a m cap
 | kp b off cs vs hk hf _ ih =>
  cases ho with
  | kp _ hh => exact .kp b off cs vs hk hf fun j c hj => ih j c hj (hh c (List.mem_of_getElem? hj))
 | op id off b e =>
  cases ho with
  | op _ _ hh => exact .op id off b (by simp [Gh.res, hh, e])
 | os id n s b c e hn hz =>
  cases ho with
  | os _ _ _ hh => exact .os id n s b c (by simp [Gh.res, hh, e]) hn hz
 | slE a cap => exact .slE a cap
 | slN b off cap esz xs vs hc he hk hf _ ih =>
  cases ho with
  | sl _ hh => exact .slN b off cap esz xs vs hc he hk hf fun i e j c hi hj => ih i e j c hi hj ((hh e (List.mem_of_getElem? hi)).A6 c (List.mem_of_getElem? hj))
 | agg vs cs hl hf _ ih =>
  cases ho with
  | agg _ hh => exact .agg vs cs hl hf fun j c hj => ih j c hj (hh c (List.mem_of_getElem? hj))
 | tup vs cs hl _ ih =>
  cases ho with
  | tup _ hh => exact .tup vs cs hl fun j c hj => ih j c hj (hh c (List.mem_of_getElem? hj))
 | fn f vs cs hl _ ih =>
  cases ho with
  | fn _ _ hh => exact .fn f vs cs hl fun j c hj => ih j c hj (hh c (List.mem_of_getElem? hj))
 | nilf => exact .nilf
 | yf l => exact .yf l
 | ifc t v a _ ih =>
  cases ho with
  | ifc _ _ hh => exact .ifc t v a (ih hh)
 | nili => exact .nili
theorem cB.jA {P : Program} {f : FuncId} {fn : Func} {c : Code} {N : Nat} {args : List AV} {H : Hp} {r : AV} (hf : P.funcs[f]? = some fn) (hb : fn.body = some c) (hN : fn.ntmps = N) (hle : args.length ≤ N) (hro : bH (fun id => id < H.next) r)
  (h : aK P N c ((.h, .hp H) :: fF args 0) fun e s' => (e = .normal ∨ e = .ret) ∧ aM P fn s' r ∧ ∃ H', get s' .h = some (.hp H') ∧ H.next ≤ H'.next ∧ ∀ i, i < H.next → H'.obj i = H.obj i) : cB P f args H r H := by
 intro G w cargs hg hk hH hV
 refine calls_of_wp hf hb ?_
 have h0 := uf hN hle hg hk hH hV
 refine wp_mono (h ⟨G, w, aa G H w, []⟩ _ w h0) ?_
 rintro e a' w' ⟨s', ⟨G', L', hr⟩, he, hres, H', hh, hnx, hobj⟩
 obtain ⟨v, hv, hV'⟩ := hres _ _ _ _ _ _ hr
 obtain ⟨H2, g, hok, hmay⟩ := hr.heap
 rw [hh] at g; cases g
 have hlt : ∀ id b, G.ob id = some b → id < H.next := fun id b e => (hH.lt id b e).1
 have hres1 : ∀ id, id < H.next → (G'.res H.next).ob id = G'.ob id := fun id h => by simp [Gh.res, h]
 have hres2 : ∀ id b, (G'.res H.next).ob id = some b → id < H.next ∧ G'.ob id = some b := fun id b h => by
  simp only [Gh.res] at h
  split at h
  ·exact ⟨by assumption, h⟩
  ·cases h
 have hop : ∀ {u : Value} {a : AV}, V G u a → bH (fun id => id < H.next) a := fun hu => hu.ops.mono fun id ⟨b, e⟩ => hlt id b e
 have hidl : ∀ id cs, H.obj id = some cs → id < H.next := fun id cs e => by
  obtain ⟨blk, _, _, q1, _⟩ := hH.obj id cs e
  exact hlt id blk q1
 have bw : ∀ id j b, bw (G'.res H.next) H w' id j b → bw G' H' w' id j b := by
  rintro id j b ⟨cs, el, esz, xs, b0, arr, t, fr, h1, h2, h3, h4, h5⟩
  exact ⟨cs, el, esz, xs, b0, arr, t, fr, by rw [hobj id (hidl id cs h1)]; exact h1, h2, (hres2 _ _ h3).2, h4, h5⟩
 have hfoot : ∀ b, aa (G'.res H.next) H w' b → aa G' H' w' b := by
  rintro b (⟨id, ⟨cs, h1⟩, h2⟩ | ⟨id, j, h1⟩)
  ·exact .inl ⟨id, ⟨cs, by rw [hobj id (hidl id cs h1)]; exact h1⟩, (hres2 _ _ h2).2⟩
  ·exact .inr ⟨id, j, bw _ _ _ h1⟩
 have hHp : dz (G'.res H.next) w' H := by
  refine ⟨fun id b e => ⟨(hres2 id b e).1, (hok.lt id b (hres2 id b e).2).2⟩, fun id id' b e e' ⟨c, k⟩ ⟨c', k'⟩ => hok.inj id id' b (hres2 _ _ e).2 (hres2 _ _ e').2 ⟨c, by rw [hobj id (hidl id c k)]; exact k⟩ ⟨c', by rw [hobj id' (hidl id' c' k')]; exact k'⟩, fun id cs e => ?_, fun id j blk hh' => ?_⟩
  ·obtain ⟨blk, arr, el, q1, q2, q3, q4, q5⟩ := hok.obj id cs (by rw [hobj id (hidl id cs e)]; exact e)
   obtain ⟨blk0, arr0, el0, p1, p2, p3, p4, p5⟩ := hH.obj id cs e
   refine ⟨blk, arr, el, by rw [hres1 id (hidl id cs e)]; exact q1, q2, q3, fun j x hx => ?_, q5⟩
   have hq := q4 j x hx
   have hp := p4 j x hx
   cases x with
   | v a => exact ⟨hq.1, hq.2.res (hop hp.2)⟩
   | row el2 esz xs =>
    have hq' : fG G' w' true el2 esz (arr.getD j undef) xs := hq
    have hp' : fG G w true el2 esz (arr0.getD j undef) xs := hp
    obtain ⟨cells, k1, k2, k3, k4, k5⟩ := hq'
    obtain ⟨cells0, _, _, _, l4, _⟩ := hp'
    exact ⟨cells, (fun e => by cases e), k2, k3, ⟨k4.1, fun i e j c a b => ⟨(k4.2 i e j c a b).1, (k4.2 i e j c a b).2.res (hop (l4.2 i e j c a b).2)⟩⟩, k5⟩
  ·obtain ⟨q1, q2⟩ := hok.apart id j blk (bw _ _ _ hh')
   exact ⟨fun id' e => q1 id' (hres2 _ _ e).2, fun id' j' h2 => q2 id' j' (bw _ _ _ h2)⟩
 have hpost : ∃ v2 G'', Ending.returned v = .returned v2 ∧ V G'' v2 r ∧ nf (aa G H w) G G'' w ∧ fx G'' w' ∧ dz G'' w' H ∧ Fr (aa G H w) w w' ∧ ∀ b, aa G'' H w' b → w.heap.size ≤ b ∨ aa G H w b :=
  ⟨v, G'.res H.next, rfl, hV'.res hro, ⟨hr.old, fun id b e => ⟨by rw [hres1 id (hlt id b e)]; exact (hr.obs id b e).1, (hr.obs id b e).2⟩, fun id b e => hr.obn id b (hres2 id b e).2⟩, hr.kn, hHp, hr.fr, fun b hb => hmay b (hfoot b hb)⟩
 rcases he with rfl | rfl
 ·exact ⟨hr.defs, v, hv, hpost⟩
 ·exact ⟨hr.defs, v, hv, hpost⟩
section
variable {P : Program} {N : Nat} {s : St} {d : Nat} {ty : TypeId} {pos : String} {af : Array Edge} {g : Option (Nat × Bool)}
theorem pQ {x : Operand} {f : FuncId} {xs : Array Operand} {tys : Array TypeId} {«as» caps : List AV} {r : AV} {H H' : Hp} (hN : d < N) (hf : gj P f = true) (hx : cV x s = some (.fn f caps)) (hH : get s .h = some (.hp H)) (ha : kY xs.toList s = some «as») (hp : cB P f («as» ++ caps) H r H') :
  aW P N ⟨some d, .call { callee := .value x, args := xs, argTypes := tys }, ty, pos, af, g⟩ s ((rd x ++ nO xs.toList) ++ [.h]) [(.s d, .sv (.v r)), (.h, .hp H')] :=
 yL hp rfl hN hH (pj hf hx ha)
end
section
variable {P : Program} {N : Nat} {ops : Array Oper} {l : List Oper} {s : St} {Q : Exit → St → Prop} {o : Oper} {R : List aI}
variable {d : Nat} {ty : TypeId} {pos : String} {af : Array Edge} {dst : Option Tmp}
end
section
variable {P : Program} {N : Nat} {ops : Array Oper} {l : List Oper} {s : St} {Q : FuncId → List AV → St → Prop} {o : Oper} {R : List aI}
variable {ty : TypeId} {pos : String} {af : Array Edge}
end
def rA (E : eB) (r : AV) (H' : Hp) : Ending → World → Prop := fun e w' =>
 ∃ v G', e = .returned v ∧ V G' v r ∧ nf E.M E.G0 G' E.w0 ∧ fx G' w' ∧ dz G' w' H' ∧ Fr E.M E.w0 w' ∧ ∀ b, aa G' H' w' b → E.w0.heap.size ≤ b ∨ E.M b
section
variable {P : Program} {N : Nat} {fn : Func} {s : St} {r : AV} {H' : Hp}
end
section
variable {P : Program} {N : Nat} {ops : Array Oper} {l : List Oper} {s : St} {u : FrameMode} {Q : FrameMode → St → Prop} {o : Oper} {R : List aI} {d : Nat} {ty : TypeId} {pos : String} {af : Array Edge}
end
inductive PR (α : Type) where
 | ok (a : α) (i : Nat)
 | bad (i : Nat)
section
variable {α : Type} {P : Program} {f : FuncId} {args : List AV} {Hat : Nat → Hp} {av : α → AV} {pv : Nat → Value} {i j : Nat} {r : PR α} {a : α}
end
section
variable {P : Program} {N : Nat} {ops : Array Oper} {l : List Oper} {s : St} {Q : Exit → St → Prop}
variable {o : Oper} {R : List aI}
end
section
variable {P : Program} {N : Nat} {s : St} {Q : Exit → St → Prop} {d : Nat} {ty : TypeId} {pos : String} {af : Array Edge} {g : Option (Nat × Bool)}
end
def OB (D : Nat → Prop) : Hc → Prop
 | .v a => bH D a
 | .row _ _ xs => ∀ x ∈ xs, bH D x
structure Mp (H H1 : Hp) : Prop where
 n : H1.next = H.next
 o : ∀ i cs, H1.obj i = some cs → H.obj i = some cs ∨ ((∃ x, H.obj i = some x) ∧ ∀ x ∈ cs, OB (fun id => id < H.next) x)
theorem Mp.refl (H : Hp) : Mp H H := ⟨rfl, fun _ _ e => .inl e⟩
theorem DV {G G' : Gh} {w w' : World} {H H' H1 : Hp} (hH : dz G w H) (hok : dz G' w' H') (hx : nf (aa G H w) G G' w) (hk : Mp H H1) (hobj : ∀ i, i < H.next → H'.obj i = H1.obj i) :
  dz (G'.res H.next) w' H1 ∧ nf (aa G H w) G (G'.res H.next) w ∧ ∀ b, aa (G'.res H.next) H1 w' b → aa G' H' w' b := by
 have hlt : ∀ id b, G.ob id = some b → id < H.next := fun id b e => (hH.lt id b e).1
 have hres1 : ∀ id, id < H.next → (G'.res H.next).ob id = G'.ob id := fun id h => by simp [Gh.res, h]
 have hres2 : ∀ id b, (G'.res H.next).ob id = some b → id < H.next ∧ G'.ob id = some b := fun id b h => by
  simp only [Gh.res] at h
  split at h
  ·exact ⟨by assumption, h⟩
  ·cases h
 have hop : ∀ {u : Value} {a : AV}, V G u a → bH (fun id => id < H.next) a := fun hu => hu.ops.mono fun id ⟨b, e⟩ => hlt id b e
 have hidl0 : ∀ id cs, H.obj id = some cs → id < H.next := fun id cs e => by
  obtain ⟨blk, _, _, q1, _⟩ := hH.obj id cs e
  exact hlt id blk q1
 have hidl : ∀ id cs, H1.obj id = some cs → id < H.next := fun id cs e => by
  rcases hk.o id cs e with h | ⟨⟨x, h⟩, _⟩
  ·exact hidl0 _ _ h
  ·exact hidl0 _ _ h
 have hcin : ∀ id cs, H1.obj id = some cs → ∀ x ∈ cs, OB (fun id => id < H.next) x := fun id cs e x hxm => by
  rcases hk.o id cs e with h | ⟨_, h⟩
  ·obtain ⟨blk0, arr0, el0, p1, p2, p3, p4, p5⟩ := hH.obj id cs h
   obtain ⟨j, hj⟩ := jB hxm
   have hp := p4 j x hj
   cases x with
   | v a => exact hop hp.2
   | row el2 esz xs =>
    have hp' : fG G w true el2 esz (arr0.getD j undef) xs := hp
    obtain ⟨cells0, _, _, _, l4, _⟩ := hp'
    intro y hy
    obtain ⟨i, hi⟩ := jB hy
    refine bH.BJ fun c hc => ?_
    obtain ⟨k, hk'⟩ := jB hc
    exact hop (l4.2 i y k c hi hk').2
  ·exact h x hxm
 have bw : ∀ id j b, bw (G'.res H.next) H1 w' id j b → X.bw G' H' w' id j b := by
  rintro id j b ⟨cs, el, esz, xs, b0, arr, t, fr, h1, h2, h3, h4, h5⟩
  exact ⟨cs, el, esz, xs, b0, arr, t, fr, by rw [hobj id (hidl id cs h1)]; exact h1, h2, (hres2 _ _ h3).2, h4, h5⟩
 have hfoot : ∀ b, aa (G'.res H.next) H1 w' b → aa G' H' w' b := by
  rintro b (⟨id, ⟨cs, h1⟩, h2⟩ | ⟨id, j, h1⟩)
  ·exact .inl ⟨id, ⟨cs, by rw [hobj id (hidl id cs h1)]; exact h1⟩, (hres2 _ _ h2).2⟩
  ·exact .inr ⟨id, j, bw _ _ _ h1⟩
 refine ⟨⟨fun id b e => ⟨by rw [hk.n]; exact (hres2 id b e).1, (hok.lt id b (hres2 id b e).2).2⟩, fun id id' b e e' ⟨c, k⟩ ⟨c', k'⟩ => hok.inj id id' b (hres2 _ _ e).2 (hres2 _ _ e').2 ⟨c, by rw [hobj id (hidl id c k)]; exact k⟩ ⟨c', by rw [hobj id' (hidl id' c' k')]; exact k'⟩, fun id cs e => ?_, fun id j blk hh' => ?_⟩, ⟨hx.kn, fun id b e => ⟨by rw [hres1 id (hlt id b e)]; exact (hx.ob id b e).1, (hx.ob id b e).2⟩, fun id b e => hx.obn id b (hres2 id b e).2⟩, hfoot⟩
 ·obtain ⟨blk, arr, el, q1, q2, q3, q4, q5⟩ := hok.obj id cs (by rw [hobj id (hidl id cs e)]; exact e)
  refine ⟨blk, arr, el, by rw [hres1 id (hidl id cs e)]; exact q1, q2, q3, fun j x hx => ?_, q5⟩
  have hq := q4 j x hx
  have hp := hcin id cs e x (List.mem_of_getElem? hx)
  cases x with
  | v a => exact ⟨hq.1, hq.2.res hp⟩
  | row el2 esz xs =>
   have hq' : fG G' w' true el2 esz (arr.getD j undef) xs := hq
   obtain ⟨cells, k1, k2, k3, k4, k5⟩ := hq'
   exact ⟨cells, (fun e => by cases e), k2, k3, ⟨k4.1, fun i e j c a b => ⟨(k4.2 i e j c a b).1, (k4.2 i e j c a b).2.res ((hp e (List.mem_of_getElem? a)).A6 c (List.mem_of_getElem? b))⟩⟩, k5⟩
 ·obtain ⟨q1, q2⟩ := hok.apart id j blk (bw _ _ _ hh')
  exact ⟨fun id' e => q1 id' (hres2 _ _ e).2, fun id' j' h2 => q2 id' j' (bw _ _ _ h2)⟩
theorem cB.drop {P : Program} {f : FuncId} {args : List AV} {H H' H1 : Hp} {r : AV} (h : cB P f args H r H') (hk : Mp H H1) (hobj : ∀ i, i < H.next → H'.obj i = H1.obj i) (hro : bH (fun id => id < H.next) r) : cB P f args H r H1 := by
 intro G w cargs hg hkn hH hV
 refine (h G w cargs hg hkn hH hV).mono ?_
 rintro e w' ⟨v, G', he, hv, hx, hkn', hok, hfr, hft⟩
 obtain ⟨h1, h2, h3⟩ := DV hH hok hx hk hobj
 exact ⟨v, G'.res H.next, he, hv.res hro, h2, hkn', h1, hfr, fun b hb => hft b (h3 b hb)⟩
section
variable {P : Program} {N : Nat} {ops : Array Oper} {l : List Oper} {s : St} {Q : Exit → St → Prop} {o : Oper} {R : List aI}
variable {d : Nat} {ty : TypeId} {pos : String} {af : Array Edge} {dst : Option Tmp} {g : Option (Nat × Bool)}
def Oo : Hc → Bool
 | .v _ => true
 | _ => false
def qL (cs : List Hc) (off : Nat) (ys : List AV) : List Hc := cs.take off ++ ys.map .v ++ cs.drop (off + ys.length)
theorem vd {t1 : TypeId} {x y : Operand} {id off n : Nat} {b : Bool} {cs : List Hc} {av : AV} {H : Hp} (hl : lk P t1 = some (b, n)) (hx : cV x s = some (.op id off)) (hH : get s .h = some (.hp H)) (ho : H.obj id = some cs) (hy : cV y s = some av) (ht : (Sv.v av).l8 = false)
  (hn : av.cells.length = n) (hf : off + n ≤ cs.length) (hold : ((cs.drop off).take n).all Oo = true) :
  aW P N ⟨none, .store t1 x y, ty, pos, af, g⟩ s (rd x ++ (rd y ++ [.h])) [(.h, .hp (H.set id (qL cs off av.cells)))] := by
 intro t hR E G L a w hr K Q hK
 have hv := aT hr hR.left hx
 have hz := aT hr hR.right.left hy
 generalize hav : a.eval x = u at hv
 cases hv
 rename_i blk hb
 obtain ⟨H0, gH, hok, hmay⟩ := hr.heap
 have hHt : get t .h = some (.hp H) := by rw [hR .h (by simp)]; exact hH
 rw [hHt] at gH; cases gH
 obtain ⟨blk0, arr, el1, p1, p2, p3, p4, p5⟩ := hok.obj id cs ho
 rw [hb] at p1; cases p1
 obtain ⟨h1, h2⟩ := V.cells hz (fun vs e => by subst e; cases ht)
 have hlen : (a.eval y).cells.toList.length = n := by rw [Array.length_toList, h1, hn]
 have hone : ∀ u ∈ (a.eval y).cells.toList, u.oneCell' = true := by
  intro u hu
  obtain ⟨j, hj, rfl⟩ := List.mem_iff_getElem.1 hu
  have hj' : j < av.cells.length := by omega
  obtain ⟨q1, q2⟩ := h2 j av.cells[j] (by simp [hj'])
  have : (a.eval y).cells.getD j undef = (a.eval y).cells.toList[j] := by
   rw [Array.getD_eq_getD_getElem?, ← Array.getElem?_toList, List.getElem?_eq_getElem hj]; rfl
  rw [← this]
  exact q2.fX q1
 have hst := run_storeCells_at P blk off el1 (a.eval y).cells.toList 0 arr w p2 (by have := p3.1; rw [hlen]; omega) hone
 obtain ⟨_, hs⟩ := pV hl w
 simp only [Nat.add_zero] at hst
 let arr' : Array Value := (arr.toList.take off ++ (a.eval y).cells.toList ++ arr.toList.drop (off + (a.eval y).cells.toList.length)).toArray
 have hrun : (execOp a.eval ⟨none, .store t1 x y, ty, pos, af, g⟩).run P w = .ok .skip (w.setRow blk arr') := by
  have hne : ¬ ((a.eval y).cells.size ≠ n) := by rw [h1, hn]; simp
  simp only [execOp, Sem.run_bind, hav, Instr.storeAt, Instr.sureAddr, Sem.run_pure, Result.andThen_ok, storeVar, hs]
  rw [if_neg hne]
  simp only [hst, Result.andThen_ok]
  rfl
 have hl1 : (arr.toList.take off).length = off := by rw [List.length_take, Array.length_toList]; omega
 have hl2 : (cs.take off).length = off := by rw [List.length_take]; omega
 have key : ∀ j, arr'.getD j undef = if j < off then arr.getD j undef else if j < off + n then (a.eval y).cells.getD (j - off) undef else arr.getD j undef := by
  intro j
  simp only [arr', Array.getD_eq_getD_getElem?, List.getElem?_toArray]
  rw [List.append_assoc]
  split
  ·rename_i hj
   rw [List.getElem?_append_left (by omega), List.getElem?_take, if_pos hj, Array.getElem?_toList]
  ·rename_i hj
   rw [List.getElem?_append_right (by omega), hl1]
   split
   ·rename_i hj2
    rw [List.getElem?_append_left (by omega), Array.getElem?_toList]
   ·rename_i hj2
    rw [List.getElem?_append_right (by omega), hlen, List.getElem?_drop, Array.getElem?_toList]
    congr 2
    omega
 have hset : ∀ (j : Nat) x, (qL cs off av.cells)[j]? = some x → (off ≤ j ∧ j < off + n ∧ ∃ c, av.cells[j - off]? = some c ∧ x = .v c) ∨ (¬ (off ≤ j ∧ j < off + n) ∧ cs[j]? = some x) := by
  intro j x e
  simp only [qL] at e
  rw [List.append_assoc] at e
  by_cases hj : j < off
  ·rw [List.getElem?_append_left (by omega), List.getElem?_take, if_pos hj] at e
   exact .inr ⟨by omega, e⟩
  ·rw [List.getElem?_append_right (by omega), hl2] at e
   by_cases hj2 : j < off + n
   ·rw [List.getElem?_append_left (by simp; omega), List.getElem?_map] at e
    obtain ⟨c, hc, rfl⟩ := Option.map_eq_some_iff.1 e
    exact .inl ⟨by omega, hj2, c, hc, rfl⟩
   ·rw [List.getElem?_append_right (by simp; omega), List.getElem?_drop] at e
    have he : off + av.cells.length + (j - off - (av.cells.map Hc.v).length) = j := by simp; omega
    rw [he] at e
    exact .inr ⟨by omega, e⟩
 have hr2 := hr.nr (cs' := qL cs off av.cells) (arr' := arr') (w' := w.setRow blk arr') hHt ho hb p2 rfl rfl rfl (size_setRow w blk arr') (fun j hj => setRow_other w blk j arr' hj) (setRow_heap w blk arr arr' el1 (0, 0) p2)
  (by constructor <;> simp only [arr', qL, List.size_toArray, List.length_append, hl1, hl2, hlen, hn, List.length_drop, Array.length_toList, List.length_map] <;> omega)
  (fun j x e => by
   rw [key j]
   rcases hset j x e with ⟨q1, q2, c, hc, rfl⟩ | ⟨q1, q2⟩
   ·rw [if_neg (by omega), if_pos q2]
    exact h2 _ c hc
   ·by_cases hj : j < off
    ·rw [if_pos hj]; exact p4 j x q2
    ·rw [if_neg hj, if_neg (by omega)]; exact p4 j x q2)
  (fun j el esz xs e => by
   rcases hset j _ e with ⟨_, _, c, _, q⟩ | ⟨q1, q2⟩
   ·cases q
   ·refine ⟨q2, ?_⟩
    rw [key j]
    by_cases hj : j < off
    ·rw [if_pos hj]
    ·rw [if_neg hj, if_neg (by omega)])
 unfold Oper.wp
 rw [hrun]
 exact hK undef _ G L hr2
end
def Hp.new (H : Hp) (cs : List Hc) : Hp := (⟨H.next + 1, H.obj⟩ : Hp).set H.next cs
theorem Hp.dd (H : Hp) (cs : List Hc) : (H.new cs).obj H.next = some cs := Hp.bN
theorem Hp.cr (H : Hp) (cs : List Hc) {i : Nat} (h : i < H.next) : (H.new cs).obj i = H.obj i := by
 simp only [Hp.new, Hp.set]; rw [if_neg (by omega)]
theorem Hp.JI (H : Hp) (cs ds : List Hc) : (H.new cs).set H.next ds = H.new ds := Hp.set_set
section
variable {α : Type} {P : Program} {f : FuncId} {fn : Func} {args : List AV} {Hat : Nat → Hp} {av : α → AV} {pv : Nat → Value} {i j n : Nat} {r : PR α} {a : α}
end
theorem Rel.JG {E : eB} {N : Nat} {G : Gh} {L : Loc} {a : Act} {w : World} {s : St} (h : Rel E N G L a w s) {t el esz : Nat} (ht : get s (.t t) = none) (hz : 0 < esz) : Rel E N G (L.dG t (.slice none 0 0)) a w ((.t t, .tk false el esz []) :: s) := by
 obtain ⟨G', _, hle, hr⟩ := h.vm false (xs := []) (v1 := .slice none 0 0) (row := none) (el := el) (esz := esz) (cells := []) ht hz (w1 := w) ⟨rfl, rfl, rfl, Nat.le_refl _, fun _ _ _ => rfl⟩ (by simp) (fun b hb => by simp [Value.ownBlock] at hb) (World.ownsRow_nil w 0 el esz) ⟨fun i e h => by simp at h, fun i e j c h => by simp at h⟩ (fun b hb => by simp [Value.ownBlock] at hb)
 have htok0 := h.notok t ht
 have htl := Loc.uN (v := Value.slice none 0 0) htok0
 have hown : ∀ c b, owns ((.t t, .tk false el esz []) :: s) (L.dG t (.slice none 0 0)) c b → owns s L c b := by
  intro c b hc
  by_cases e : c = .t t
  ·subst e
   obtain ⟨_, v, hv, hb⟩ := hc
   simp [Loc.dG] at hv
   subst hv; cases hb
  ·have h2 := dM e hc
   cases c with
   | b j => exact h2
   | t j =>
    obtain ⟨h3, v, hv, h4⟩ := h2
    have hj : j ≠ t := fun e' => e (by rw [e'])
    exact ⟨h3, v, by simpa [Loc.dG, hj] using hv, h4⟩
   | s n => exact h2
   | h => exact h2
 refine ⟨h.size, h.defs, h.ge, h.kn, h.old, h.obs, h.obn, h.fr, fun n x g => (h.slot n x (by simpa [get] using g)).loc (L := L) (L' := L.dG t (.slice none 0 0)) (fun _ _ e => e) htl, fun k cv g hl => (h.box k cv (by simpa [get] using g) hl).loc (L := L) (L' := L.dG t (.slice none 0 0)) (fun _ _ e => e) htl, ?_,
  fun c d b hc hd => h.disj c d b (hown _ _ hc) (hown _ _ hd), by simpa [get] using h.heap, fun c b hc H g => h.hdisj c b (hown _ _ hc) H (by simpa [get] using g), fun k g => h.nobox k (by simpa [get] using g), ?_⟩
 ·intro j m el2 esz2 xs2 g
  by_cases e : j = t
  ·subst e
   simp [get] at g
   obtain ⟨rfl, rfl, rfl, rfl⟩ := g
   exact ⟨.slice none 0 0, by simp [Loc.dG], ⟨[], fun _ => V.slE none 0, World.ownsRow_nil w 0 el esz, hz, ⟨fun i e h => by simp at h, fun i e j c h => by simp at h⟩, fun b e => (by cases e)⟩, fun b e => (by cases e)⟩
  ·obtain ⟨v, hv, rest⟩ := h.tok j m el2 esz2 xs2 (by simpa [get, Ne.symm e] using g)
   exact ⟨v, htl _ _ hv, rest⟩
 ·intro j g
  by_cases e : j = t
  ·subst e; simp [get] at g
  ·have := h.notok j (by simpa [get, Ne.symm e] using g)
   simpa [Loc.dG, e] using this

theorem Kept.sT {s : St} {Q : St → Prop} (k i t el esz : Nat) {cv : CV} {cs : List Sv} (hk : get s (.b k) = some cv) (hcv : cv.AP = some cs) (hi : cs[i]? = some (.v .nsl)) (ht : get s (.t t) = none) (hz : 0 < esz)
  (h : Kept ((.b k, cv.cM (cs.set i (.ow t []))) :: (.t t, .tk false el esz []) :: s) Q) : Kept s Q := fun E N a w ⟨G, L, hr⟩ => by
 have h1 := hr.JG (el := el) ht hz
 refine h E N a w ⟨G, _, h1.NG (cs := cs) (by simpa [get] using hk) hcv (by simp) fun j x y v hx hy hf hv => ?_⟩
 rw [List.getElem?_set] at hy
 split at hy
 ·rename_i e
  subst e
  rw [hi] at hx; cases hx
  split at hy
  ·cases hy
   have hV : V G v .nsl := hv
   cases hV
   exact ⟨rfl, V.slE none 0, by simp [Loc.dG]⟩
  ·cases hy
 ·rw [hx] at hy; cases hy
  exact ⟨hf, hv⟩
section
variable {P : Program} {N : Nat} {s : St} {d : Nat} {ty : TypeId} {pos : String} {af : Array Edge} {g : Option (Nat × Bool)}
end
section
variable {P : Program} {N : Nat} {s : St} {d : Option Tmp} {ty : TypeId} {pos : String} {af : Array Edge} {g : Option (Nat × Bool)}
end
section
variable {P : Program} {N : Nat}
end
end Go.Proofs.YtgmdapgedlachaaGreatDoor.X
