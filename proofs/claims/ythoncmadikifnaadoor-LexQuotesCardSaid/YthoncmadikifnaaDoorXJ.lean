/- The program logic's rules: a shared object read, and written, where it lies. No condition. -/
import Derived.Test.YthoncmadikifnaaDoorXI
set_option linter.unusedVariables false
set_option linter.unusedSimpArgs false
namespace Go.Proofs.YthoncmadikifnaaDoor.X
open Go Go.RowKit

theorem TriL.ofKept {P : Program} {N : Nat} {ops : Array Oper} {l : List Oper} {s : St} {Q : St → Prop} (h : Kept s fun s' => TriL P N ops l s' Q) : TriL P N ops l s Q := by
  intro E a w hf
  obtain ⟨s', h1, h2⟩ := h E N a w hf
  exact h2 E a w h1
/-- The object id gets other cells; its rows stay. -/
theorem Rel.turnobj {E : Ent} {N : Nat} {G : Gh} {L : Loc} {a : Act} {w w' : World} {s : St} (h : Rel E N G L a w s) {H : Hp} {id blk : Nat} {cs cs' : List Hc} {arr arr' : Array Value} {el0 : TypeId} (hH : get s .h = some (.hp H)) (ho : H.obj id = some cs) (hb : G.ob id = some blk)
    (hh : w.heap[blk]? = some (.cells arr el0 (0, 0))) (h1 : w'.os = w.os) (h2 : w'.tape = w.tape) (h3 : w'.output = w.output) (h4 : w'.heap.size = w.heap.size) (h5 : ∀ j, j ≠ blk → w'.heap[j]? = w.heap[j]?) (h6 : w'.heap[blk]? = some (.cells arr' el0 (0, 0)))
    (hsz : arr'.size = cs'.length) (hc : ∀ (j : Nat) x, cs'[j]? = some x → HcOK G w (arr'.getD j undef) x) (hrw : ∀ (j : Nat) el esz xs, cs'[j]? = some (.row el esz xs) → cs[j]? = some (.row el esz xs) ∧ arr'.getD j undef = arr.getD j undef) :
    Rel E N G L a w' ((.h, .hp (H.set id cs')) :: s) := by
  obtain ⟨H0, gH, hok, hmay⟩ := h.heap
  rw [hH] at gH; cases gH
  obtain ⟨blk0, arr0, el1, p1, p2, p3, p4, p5⟩ := hok.obj id cs ho
  rw [hb] at p1; cases p1
  rw [hh] at p2; cases p2
  have hmine : foot G H w blk := .inl ⟨id, ⟨cs, ho⟩, hb⟩
  have hobj : ∀ i hs2, (H.set id cs').obj i = some hs2 → (i = id ∧ hs2 = cs') ∨ (i ≠ id ∧ H.obj i = some hs2) := by
    intro i hs2 e
    by_cases e2 : i = id
    · have e3 : (if i = id then some cs' else H.obj i) = some hs2 := e
      rw [if_pos e2] at e3; cases e3; exact .inl ⟨e2, rfl⟩
    · have e3 : (if i = id then some cs' else H.obj i) = some hs2 := e
      rw [if_neg e2] at e3; exact .inr ⟨e2, e3⟩
  have hhr : ∀ i j b, hrow G (H.set id cs') w' i j b → hrow G H w i j b := by
    rintro i j b ⟨cs2, el, esz, xs, b0, arr2, t2, fr, q1, q2, q3, q4, q5⟩
    rcases hobj _ _ q1 with ⟨rfl, rfl⟩ | ⟨e1, e2⟩
    · rw [hb] at q3; cases q3
      rw [h6] at q4; cases q4
      obtain ⟨r1, r2⟩ := hrw j el esz xs q2
      rw [r2] at q5
      exact ⟨cs, el, esz, xs, blk, arr, _, _, ho, r1, hb, hh, q5⟩
    · have hne : b0 ≠ blk := fun e => e1 (hok.inj _ _ _ (e ▸ q3) hb)
      rw [h5 b0 hne] at q4
      exact ⟨cs2, el, esz, xs, b0, arr2, t2, fr, e2, q2, q3, q4, q5⟩
  have hft : ∀ b, foot G (H.set id cs') w' b → foot G H w b := by
    rintro b (⟨i, ⟨hs2, q1⟩, q2⟩ | ⟨i, j, q1⟩)
    · rcases hobj _ _ q1 with ⟨rfl, rfl⟩ | ⟨e1, e2⟩
      · rw [hb] at q2; cases q2; exact hmine
      · exact .inl ⟨i, ⟨hs2, e2⟩, q2⟩
    · exact .inr ⟨i, j, hhr _ _ _ q1⟩
  have hown : ∀ c b, owns ((.h, .hp (H.set id cs')) :: s) L c b → owns s L c b := by
    intro c b hc
    cases c <;> simp only [owns, get, reduceCtorEq, if_false] at hc ⊢ <;> exact hc
  have hne : ∀ c b, owns s L c b → b ≠ blk := fun c b hc e => h.hdisj c b hc H hH (e ▸ hmine)
  have hcell : ∀ p v, w.cell? p = some v → p.block ≠ blk → w'.cell? p = some v := by
    intro p v hc hne
    rw [World.cell?_of_block (w := w) (h5 p.block hne)]; exact hc
  have hrow2 : ∀ (v : Value) (i j : Nat) el esz xs, RowOK G w true el esz v xs → (∀ b, v.ownBlock = some b → hrow G H w i j b) → RowOK G w' true el esz v xs := fun v i j el esz xs hr hv =>
    hr.stay (Gh.le.refl G) (fun b e => h5 b (fun e2 => (hok.apart i j b (hv b e)).1 id (e2 ▸ hb))) (fun _ _ _ => rfl)
  refine ⟨h.size, h.defs, h.ge, fun b j v e => hcell _ _ (h.kn b j v e) (fun e' => ?_), h.old, h.obs, h.obn, ⟨h1.trans h.fr.os, h2.trans h.fr.tape, h3.trans h.fr.output, by rw [h4]; exact h.fr.size, fun j hj hno => ?_⟩, ?_, ?_, ?_,
    fun c d b hc hd => h.disj c d b (hown _ _ hc) (hown _ _ hd), ⟨_, rfl, ⟨fun i b e => ⟨(hok.lt i b e).1, by rw [h4]; exact (hok.lt i b e).2⟩, hok.inj, ?_, ?_⟩, fun b hb2 => hmay b (hft b hb2)⟩, ?_, fun k g => h.nobox k (by simpa [get] using g), fun k g => h.notok k (by simpa [get] using g)⟩
  · simp at e'; subst e'; rw [p5 j] at e; cases e
  · rw [h5 j (fun e => by
      subst e
      rcases hmay j hmine with e | e
      · omega
      · exact hno e)]
    exact h.fr.block j hj hno
  · intro n x g; exact h.slot n x (by simpa [get] using g)
  · intro j cv g hl
    have g' : get s (.b j) = some cv := by simpa [get] using g
    exact (h.box j cv g' hl).stay (Gh.le.refl G) (fun _ _ e => .inl e) (fun b hb' => h5 b (hne (.b j) b ⟨⟨cv, g', hl⟩, hb'⟩)) (fun _ _ _ => rfl)
  · intro j m el esz xs g
    have g' : get s (.t j) = some (.tk m el esz xs) := by simpa [get] using g
    exact (h.tok j m el esz xs g').stay (Gh.le.refl G) (fun _ _ e => .inl e) (fun v b hv hb' => h5 b (hne (.t j) b ⟨⟨m, el, esz, xs, g'⟩, v, hv, hb'⟩)) (fun _ _ _ _ _ => rfl)
  · intro i hs2 e
    rcases hobj _ _ e with ⟨rfl, rfl⟩ | ⟨e1, e2⟩
    · refine ⟨blk, arr', el0, hb, h6, hsz, fun j x hx => ?_, p5⟩
      have := hc j x hx
      cases x with
      | v b => exact this
      | row el esz xs =>
        obtain ⟨r1, r2⟩ := hrw j el esz xs hx
        exact hrow2 _ i j el esz xs this (fun b e => ⟨cs, el, esz, xs, blk, arr, _, _, ho, r1, hb, hh, by rw [← r2]; exact e⟩)
    · obtain ⟨b2, arr2, el2, q1, q2, q3, q4, q5⟩ := hok.obj i hs2 e2
      have hne2 : b2 ≠ blk := fun e => e1 (hok.inj _ _ _ (e ▸ q1) hb)
      refine ⟨b2, arr2, el2, q1, by rw [h5 b2 hne2]; exact q2, q3, fun j x hx => ?_, q5⟩
      have := q4 j x hx
      cases x with
      | v b => exact this
      | row el esz xs => exact hrow2 _ i j el esz xs this (fun b e => ⟨hs2, el, esz, xs, b2, arr2, _, _, e2, hx, q1, q2, e⟩)
  · intro i j b hr
    obtain ⟨q1, q2⟩ := hok.apart i j b (hhr _ _ _ hr)
    exact ⟨q1, fun i' j' hr' => q2 i' j' (hhr _ _ _ hr')⟩
  · intro c b hc H2 g2 hf2
    simp [get] at g2
    subst g2
    exact h.hdisj c b (hown _ _ hc) H hH (hft b hf2)
/-- What is read of a cell of an object: of a row only how long it is. -/
def hcAv : Hc → AV
  | .v a => a
  | .row _ _ xs => .sll xs.length
theorem hc_read {G : Gh} {w : World} {v : Value} {x : Hc} (h : HcOK G w v x) : (hcAv x).flat = true ∧ V G v (hcAv x) := by
  cases x with
  | v a => exact h
  | row el esz xs =>
    have hr : RowOK G w true el esz v xs := h
    obtain ⟨cells, _, ho, _⟩ := hr
    refine ⟨rfl, ?_⟩
    show V G v (.sll xs.length)
    generalize xs.length = n at ho
    rcases ho.2 with hn | ⟨g, cap, cur, rfl, _⟩
    · have h1 := hn.1
      have h2 := hn.2
      subst h1; subst h2
      exact V.sll none 0 0
    · exact .sll _ _ _
section
variable {P : Program} {N : Nat} {s : St} {d : Nat} {ty : TypeId} {pos : String} {af : Array Edge} {g : Option (Nat × Bool)}
theorem op_lensl {t1 e : TypeId} {x : Operand} {n : Nat} (hN : d < N) (h1 : P.underlying t1 = some (.slice e)) (hx : opv x s = some (.sll n)) :
    OpOK P N ⟨some d, .call { callee := .builtin .len, args := #[x], argTypes := #[t1] }, ty, pos, af, g⟩ s (rd x) [(.s d, .sv (.v (.int .i64 n)))] :=
  OpOK.val rfl hN fun E G L a w t hr hR => by
    have hv := opv_sound hr hR hx
    generalize hav : a.eval x = u at hv
    cases hv
    refine ⟨.int .i64 n, ?_, .int _ _⟩
    simp [execOp, resolve, invoke, builtin, hav, Builtin.len_, run_underlying h1, goInt]
theorem op_nckc {x : Operand} {id off : Nat} (hN : d < N) (hx : opv x s = some (.op id off)) : OpOK P N ⟨some d, .nilCheck x, ty, pos, af, g⟩ s (rd x) [(.s d, .sv (.v (.op id off)))] :=
  OpOK.val rfl hN fun E G L a w t hr hR => by
    have hv := opv_sound hr hR hx
    generalize hav : a.eval x = u at hv
    cases hv
    rename_i blk hb
    exact ⟨.pointer (some ⟨blk, off, none⟩), by simp [execOp, hav], V.op id off blk hb⟩
theorem op_fac {t1 : TypeId} {x : Operand} {i id off o : Nat} (hN : d < N) (hf : fo P t1 i = some o) (hx : opv x s = some (.op id off)) :
    OpOK P N ⟨some d, .fieldAddr t1 x i, ty, pos, af, g⟩ s (rd x) [(.s d, .sv (.v (.op id (off + o))))] :=
  OpOK.val rfl hN fun E G L a w t hr hR => by
    have hv := opv_sound hr hR hx
    generalize hav : a.eval x = u at hv
    cases hv
    rename_i blk hb
    exact ⟨.pointer (some ⟨blk, off + o, none⟩), by simp [execOp, hav, fo_run hf, Addr.add_lit], V.op id (off + o) blk hb⟩
/-- load out of an object -/
theorem op_ldc {t1 : TypeId} {x : Operand} {id off n : Nat} {b : Bool} {cs : List Hc} {z : Sv} {H : Hp} (hN : d < N) (hl : lk P t1 = some (b, n)) (hx : opv x s = some (.op id off)) (hH : get s .h = some (.hp H)) (ho : H.obj id = some cs) (hz : ldc b n ((cs.map fun c => Sv.v (hcAv c)).drop off) = some z) :
    OpOK P N ⟨some d, .load t1 x, ty, pos, af, g⟩ s (rd x ++ [.h]) [(.s d, .sv z)] :=
  OpOK.val rfl hN fun E G L a w t hr hR => by
    have hv := opv_sound hr hR.left hx
    generalize hav : a.eval x = u at hv
    cases hv
    rename_i blk hb
    obtain ⟨H0, gH, hok, hmay⟩ := hr.heap
    rw [hR .h (by simp), hH] at gH; cases gH
    obtain ⟨blk0, arr, el1, p1, p2, p3, p4, p5⟩ := hok.obj id cs ho
    rw [hb] at p1; cases p1
    have hcell : ∀ (j : Nat) y, ((cs.map fun c => Sv.v (hcAv c)).drop off)[j]? = some y → w.cell? ((⟨blk, off, none⟩ : Addr).add j) = some (arr.getD (off + j) undef) ∧ y.flat = true ∧ SV G L (arr.getD (off + j) undef) y := by
      intro j y e
      rw [List.getElem?_drop, List.getElem?_map] at e
      cases hc : cs[off + j]? with
      | none => rw [hc] at e; cases e
      | some c =>
        rw [hc] at e; cases e
        have hlt : off + j < arr.size := by have := (List.getElem?_eq_some_iff.1 hc).1; omega
        refine ⟨?_, hc_read (p4 _ c hc)⟩
        rw [Addr.add_lit, cell_of_row w blk (off + j) arr el1 (0, 0) p2, Array.getD_eq_getD_getElem?, Array.getElem?_eq_getElem hlt]
        rfl
    obtain ⟨v, hrun, hV⟩ := run_load_of (P := P) hl hz hcell
    refine ⟨v, ?_, hV⟩
    simp [execOp, hav, Instr.loadAt, Instr.sureAddr, hrun]
/-- store into a cell of an object -/
theorem op_stc {t1 : TypeId} {x y : Operand} {id off : Nat} {b : Bool} {cs : List Hc} {av old : AV} {H : Hp} (hl : lk P t1 = some (b, 1)) (hx : opv x s = some (.op id off)) (hH : get s .h = some (.hp H)) (ho : H.obj id = some cs) (hy : opv y s = some av) (hfl : av.flat = true) (hold : cs[off]? = some (.v old)) :
    OpOK P N ⟨none, .store t1 x y, ty, pos, af, g⟩ s (rd x ++ (rd y ++ [.h])) [(.h, .hp (H.set id (cs.set off (.v av))))] := by
  intro t hR E G L a w hr K Q hK
  have hv := opv_sound hr hR.left hx
  have hz := opv_sound hr hR.right.left hy
  generalize hav : a.eval x = u at hv
  cases hv
  rename_i blk hb
  obtain ⟨H0, gH, hok, hmay⟩ := hr.heap
  have hHt : get t .h = some (.hp H) := by rw [hR .h (by simp)]; exact hH
  rw [hHt] at gH; cases gH
  obtain ⟨blk0, arr, el1, p1, p2, p3, p4, p5⟩ := hok.obj id cs ho
  rw [hb] at p1; cases p1
  have hone := hz.oneCell hfl
  have hcl : (a.eval y).cells = #[a.eval y] := vcells_one hone
  have hlt : off < cs.length := (List.getElem?_eq_some_iff.1 hold).1
  have hst := run_storeCells_at P blk off el1 [a.eval y] 0 arr w p2 (by simp; omega) (fun u hu => by simp at hu; subst hu; exact hone)
  obtain ⟨_, hs⟩ := lk_run hl w
  simp only [Nat.add_zero] at hst
  let arr' : Array Value := (arr.toList.take off ++ [a.eval y] ++ arr.toList.drop (off + [a.eval y].length)).toArray
  have hrun : (execOp a.eval ⟨none, .store t1 x y, ty, pos, af, g⟩).run P w = .ok .skip (w.setRow blk arr') := by
    have hne : ¬ ((a.eval y).cells.size ≠ 1) := by rw [hcl]; simp
    simp only [execOp, Sem.run_bind, hav, Instr.storeAt, Instr.sureAddr, Sem.run_pure, Result.andThen_ok, storeVar, hs]
    rw [if_neg hne, hcl]
    simp only [hst, Result.andThen_ok]
    rfl
  have hl1 : (arr.toList.take off).length = off := by rw [List.length_take, Array.length_toList]; omega
  have key : ∀ j, arr'.getD j undef = if j = off then a.eval y else arr.getD j undef := by
    intro j
    simp only [arr', Array.getD_eq_getD_getElem?, List.getElem?_toArray]
    rw [List.append_assoc]
    by_cases hj : j < off
    · rw [List.getElem?_append_left (by omega), List.getElem?_take, if_pos hj, Array.getElem?_toList, if_neg (by omega)]
    · rw [List.getElem?_append_right (by omega), hl1]
      by_cases hj2 : j = off
      · subst hj2; simp
      · rw [if_neg hj2, List.getElem?_append_right (by simp; omega), List.getElem?_drop, Array.getElem?_toList]
        congr 2
        simp; omega
  have hset : ∀ (j : Nat) x, (cs.set off (.v av))[j]? = some x → (j = off ∧ x = .v av) ∨ (j ≠ off ∧ cs[j]? = some x) := by
    intro j x e
    by_cases hj : j = off
    · subst hj
      rw [List.getElem?_set_self hlt] at e; cases e; exact .inl ⟨rfl, rfl⟩
    · rw [List.getElem?_set_ne (by omega)] at e; exact .inr ⟨hj, e⟩
  have hr2 := hr.turnobj (cs' := cs.set off (.v av)) (arr' := arr') (w' := w.setRow blk arr') hHt ho hb p2 rfl rfl rfl (size_setRow w blk arr') (fun j hj => setRow_other w blk j arr' hj) (setRow_heap w blk arr arr' el1 (0, 0) p2)
    (by simp only [arr', List.size_toArray, List.length_append, hl1, List.length_drop, Array.length_toList, List.length_set, List.length_cons, List.length_nil]; omega)
    (fun j x e => by
      rw [key j]
      rcases hset j x e with ⟨rfl, rfl⟩ | ⟨h1, h2⟩
      · rw [if_pos rfl]; exact ⟨hfl, hz⟩
      · rw [if_neg h1]; exact p4 j x h2)
    (fun j el esz xs e => by
      rcases hset j _ e with ⟨rfl, h2⟩ | ⟨h1, h2⟩
      · cases h2
      · exact ⟨h2, by rw [key j, if_neg h1]⟩)
  unfold Oper.wp
  rw [hrun]
  exact hK undef _ G L hr2
end
end Go.Proofs.YthoncmadikifnaaDoor.X
