/- The program logic's rules: local boxes, memory that is known, calls. No condition. -/
import Derived.Test.YthoncmadikifnaaDoorX3
set_option linter.unusedVariables false
namespace Go.Proofs.YthoncmadikifnaaDoor.X
open Go Go.RowKit

/-! ### A new block of the frame's own -/
def Loc.setBox (L : Loc) (k b : Nat) : Loc := ⟨fun j => if j = k then some b else L.box j, L.tok⟩
theorem Loc.setBox_le {L : Loc} {k b : Nat} (h : L.box k = none) : ∀ j c, L.box j = some c → (L.setBox k b).box j = some c := by
  intro j c e
  simp only [Loc.setBox]
  split
  · rename_i hj; subst hj; rw [h] at e; cases e
  · exact e
theorem alloc_old (w : World) (o : Obj) {i : Nat} {x : Obj} (h : w.heap[i]? = some x) : (w.alloc o).heap[i]? = some x := by
  rw [Below.heap_alloc w o i (Array.getElem?_eq_some_iff.1 h).1]; exact h
theorem ownsRow_alloc {w : World} {base e size n : Nat} {v : Value} {xs : List Value} (h : w.ownsRow base e size v n xs) (o : Obj) : (w.alloc o).ownsRow base e size v n xs := h.alloc o
theorem cell_alloc {w : World} {a : Addr} {v : Value} (h : w.cell? a = some v) (o : Obj) : (w.alloc o).cell? a = some v := by
  rw [World.cell?_alloc_lt w o a (World.block_lt_of_cell? w a h)]; exact h
theorem Fr.alloc {M : Nat → Prop} {w w' : World} (h : Fr M w w') (o : Obj) : Fr M w (w'.alloc o) :=
  ⟨h.os, h.tape, h.output, by have := h.size; simp; omega, fun k hk hn => by rw [Below.heap_alloc w' o k (Nat.lt_of_lt_of_le hk h.size)]; exact h.block k hk hn⟩
theorem HpOK.alloc {G : Gh} {w : World} {H : Hp} (h : HpOK G w H) (o : Obj) : HpOK G (w.alloc o) H ∧ ∀ b, X.foot G H (w.alloc o) b ↔ X.foot G H w b :=
  h.stay (Gh.le.refl G) rfl (fun b hb => (h.foot hb).2) (fun b hb => Below.heap_alloc w o b (h.foot hb).1) (by simp)

/-- A new block. -/
theorem Rel.alloc {E : Ent} {N : Nat} {G : Gh} {L : Loc} {a : Act} {w : World} {s : St} (h : Rel E N G L a w s) (k : Nat) (hk : get s (.b k) = none) (o : Obj) (cv : CV) (hl : cv.live = true) (hlk : cv.link = none)
    (ho : ObjOK G (L.setBox k w.heap.size) o cv) : Rel E N G (L.setBox k w.heap.size) a (w.alloc o) ((.b k, cv) :: s) := by
  have hb0 := h.nobox k hk
  have hbl := Loc.setBox_le (b := w.heap.size) hb0
  have htl : ∀ j u, L.tok j = some u → (L.setBox k w.heap.size).tok j = some u := fun _ _ e => e
  have hown : ∀ c blk, owns ((.b k, cv) :: s) (L.setBox k w.heap.size) c blk → (c = .b k ∧ blk = w.heap.size) ∨ owns s L c blk := by
    intro c blk hc
    by_cases e : c = .b k
    · subst e
      refine .inl ⟨rfl, ?_⟩
      have := hc.2
      simp [Loc.setBox] at this
      omega
    · have h2 := owns_cons e hc
      refine .inr ?_
      cases c with
      | b j =>
        obtain ⟨h3, h4⟩ := h2
        refine ⟨h3, ?_⟩
        have hj : j ≠ k := fun e' => e (by rw [e'])
        simpa [Loc.setBox, hj] using h4
      | t j => exact h2
      | s n => exact h2
      | h => exact h2
  refine ⟨h.size, h.defs, h.ge, fun b o' v e => cell_alloc (h.kn b o' v e) _, h.old, h.obs, h.obn, h.fr.alloc o, ?_, ?_, ?_, ?_, ?_, ?_, ?_, ?_⟩
  · intro n x g
    exact (h.slot n x (by simpa [get] using g)).loc hbl htl
  · intro j cv' g hl'
    by_cases e : j = k
    · subst e
      simp [get] at g
      subst g
      obtain ⟨H, gH, hokH, _⟩ := h.heap
      refine ⟨w.heap.size, o, by simp [Loc.setBox], .inl h.base_le, heap_alloc_new w o, ho, fun j' => ?_, by rw [hlk]; exact ⟨h.base_le, fun id e => by have := (hokH.lt id _ e).2; omega⟩⟩
      cases hkn : G.kn w.heap.size j' with
      | none => rfl
      | some v => have := h.knlt hkn; omega
    · obtain ⟨blk, o', hb, hb2, hh, hok, hn⟩ := h.box j cv' (by simpa [get, Ne.symm e] using g) hl'
      exact ⟨blk, o', hbl j blk hb, hb2, alloc_old w o hh, hok.loc hbl htl, hn⟩
  · intro j m el esz xs g
    have g' : get s (.t j) = some (.tk m el esz xs) := by simpa [get] using g
    exact (h.tok j m el esz xs g').stay (L := L) (Gh.le.refl G) (fun _ _ e => .inl e) (fun v b hv hb => Below.heap_alloc w o b (owns_lt h (c := .t j) ⟨⟨_, _, _, _, g'⟩, v, hv, hb⟩).1) (fun _ _ _ _ _ => rfl)
  · intro c d blk hc hd
    rcases hown c blk hc with ⟨rfl, rfl⟩ | hc' <;> rcases hown d _ hd with ⟨rfl, h2⟩ | hd'
    · rfl
    · have := (owns_lt h hd').1; omega
    · have := (owns_lt h hc').1; omega
    · exact h.disj c d blk hc' hd'
  · obtain ⟨H, g, hok, hmay⟩ := h.heap
    exact ⟨H, by simpa [get] using g, (hok.alloc o).1, fun b hb => hmay b (((hok.alloc o).2 b).1 hb)⟩
  · intro c blk hc H2 g2 e
    obtain ⟨H, g, hok, hmay⟩ := h.heap
    have g3 : get s .h = some (.hp H2) := by simpa [get] using g2
    rw [g3] at g; cases g
    have e2 := ((hok.alloc o).2 blk).1 e
    rcases hown c blk hc with ⟨rfl, rfl⟩ | hc'
    · have := (hok.foot e2).1; omega
    · exact h.hdisj c blk hc' _ g3 e2
  · intro j g
    by_cases e : j = k
    · subst e; simp [get] at g
    · have := h.nobox j (by simpa [get, Ne.symm e] using g)
      simpa [Loc.setBox, e] using this
  · intro j g
    exact h.notok j (by simpa [get] using g)

/-! ### What a type says -/
/-- Is it a struct or an array; how many cells. -/
def lk (P : Program) (t : TypeId) : Option (Bool × Nat) :=
  match P.underlying t, P.info? t with
  | some d, some i => some ((match d with | .struct _ => true | .array _ _ => true | _ => false), i.size)
  | _, _ => none
theorem lk_run {P : Program} {t : TypeId} {b : Bool} {n : Nat} (h : lk P t = some (b, n)) (w : World) : (isAgg t).run P w = .ok b w ∧ (sizeOf t).run P w = .ok n w := by
  unfold lk at h
  split at h
  · rename_i d i hd hi
    simp only [Option.some.injEq, Prod.mk.injEq] at h
    obtain ⟨rfl, rfl⟩ := h
    constructor
    · simp only [isAgg, Sem.run_bind, run_underlying hd, Result.andThen_ok]
      cases d <;> rfl
    · simp [sizeOf, typeInfo, hi]
  · cases h
/-- Where a field begins. -/
def fo (P : Program) (t : TypeId) (i : Nat) : Option Nat :=
  match P.underlying t with
  | some (.struct fs) => match fs[i]? with
    | some f => match P.info? f.type with
      | some j => if j.size = 0 then none else some f.offset
      | none => none
    | none => none
  | _ => none
theorem fo_run {P : Program} {t : TypeId} {i o : Nat} (h : fo P t i = some o) (w : World) (a : Addr) : (Instr.fieldAt t (.pointer (some a)) i).run P w = .ok (.pointer (some (a.add o))) w := by
  unfold fo at h
  split at h
  · rename_i fs hfs
    split at h
    · rename_i f hf
      split at h
      · rename_i j hj
        split at h
        · cases h
        · rename_i hz
          cases h
          simp [Instr.fieldAt, run_underlying hfs, hf, Instr.sureAddr, fieldPlace, sizeOf, typeInfo, hj, hz]
      · cases h
    · cases h
  · cases h
/-- A slice type's elements: how many cells. -/
def ie (P : Program) (t : TypeId) : Option Nat :=
  match P.underlying t with
  | some (.slice e) => (P.info? e).map (·.size)
  | _ => none
theorem ie_run {P : Program} {t : TypeId} {n : Nat} (h : ie P t = some n) : ∃ e i, P.underlying t = some (.slice e) ∧ P.info? e = some i ∧ i.size = n := by
  unfold ie at h
  split at h
  · rename_i e he
    cases hi : P.info? e with
    | none => rw [hi] at h; cases h
    | some i => rw [hi] at h; exact ⟨e, i, he, hi, by simpa using h⟩
  · cases h
/-- A type's zero value, cell by cell. -/
def cavs : List Value → Option (List AV)
  | [] => some []
  | v :: l => match cav v, cavs l with
    | some a, some r => some (a :: r)
    | _, _ => none
def zeroA (P : Program) (t : TypeId) : Option (List AV) :=
  match P.info? t with
  | some i => match i.zero with
    | some z => cavs z.cells.toList
    | none => none
  | none => none
theorem cav_flat {v : Value} {a : AV} (h : cav v = some a) : a.flat = true := by
  unfold cav at h
  split at h <;> first | (cases h; done) | (cases h; rfl)
theorem cavs_sound (G : Gh) {l : List Value} {r : List AV} (h : cavs l = some r) : l.length = r.length ∧ ∀ (j : Nat) x, r[j]? = some x → x.flat = true ∧ V G (l.getD j undef) x := by
  induction l generalizing r with
  | nil => simp [cavs] at h; subst h; exact ⟨rfl, fun j x e => by simp at e⟩
  | cons v l ih =>
    simp only [cavs] at h
    split at h
    · rename_i a r' ha hr
      cases h
      obtain ⟨h1, h2⟩ := ih hr
      refine ⟨by simp [h1], fun j x e => ?_⟩
      cases j with
      | zero => simp at e; subst e; exact ⟨cav_flat ha, by simpa using cav_sound G ha⟩
      | succ j => simpa using h2 j x (by simpa using e)
    · cases h

/-! ### Boxes -/
def Sv.cells : Sv → List Sv
  | .v a => a.cells.map .v
  | x => [x]
def Sv.isTup : Sv → Bool
  | .v (.tup _) => true
  | .cd _ _ _ => true
  | _ => false
theorem isTup_ne {x : Sv} (h : x.isTup = false) : (∀ vs, x ≠ .v (.tup vs)) ∧ ∀ g b a, x ≠ .cd g b a := ⟨(by rintro vs rfl; cases h), (by rintro g b a rfl; cases h)⟩
theorem svcells {G : Gh} {L : Loc} {v : Value} {x : Sv} (hv : SV G L v x) (ht : (∀ vs, x ≠ .v (.tup vs)) ∧ ∀ g b a, x ≠ .cd g b a) : v.cells.size = x.cells.length ∧ ∀ (j : Nat) y, x.cells[j]? = some y → y.flat = true ∧ SV G L (v.cells.getD j undef) y := by
  by_cases hx : ∃ a, x = .v a
  · obtain ⟨a, rfl⟩ := hx
    have hV : V G v a := hv
    obtain ⟨h1, h2⟩ := hV.cells (fun vs e => ht.1 vs (by rw [e]))
    refine ⟨by simpa [Sv.cells] using h1, fun j y e => ?_⟩
    simp only [Sv.cells, List.getElem?_map] at e
    cases hc : a.cells[j]? with
    | none => rw [hc] at e; cases e
    | some c => rw [hc] at e; cases e; exact h2 j c hc
  · have hf : x.flat = true := by cases x <;> first | rfl | exact absurd ⟨_, rfl⟩ hx | exact absurd rfl (ht.2 _ _ _)
    have hc : x.cells = [x] := by cases x <;> first | rfl | exact absurd ⟨_, rfl⟩ hx
    rw [hc, vcells_one (hv.oneCell hf)]
    refine ⟨rfl, fun j y e => ?_⟩
    cases j with
    | zero => simp at e; subst e; exact ⟨hf, hv⟩
    | succ j => simp at e

section
variable {P : Program} {N : Nat} {s : St} {d : Nat} {ty : TypeId} {pos : String} {af : Array Edge} {g : Option (Nat × Bool)}
/-- box: a local of its own -/
theorem op_box {t1 : TypeId} {x : Operand} {y : Sv} (hN : d < N) (hx : opd x s = some y) (hk : get s (.b d) = none) (ht : y.isTup = false) :
    OpOK P N ⟨some d, .box t1 x, ty, pos, af, g⟩ s (rd x ++ [.b d]) [(.s d, .sv (.lp d 0)), (.b d, .bx y.cells)] := by
  intro t hR E G L a w hr K Q hK
  have hv := opd_sound hr hR.left hx
  have hk' : get t (.b d) = none := by rw [hR (.b d) (by simp)]; exact hk
  obtain ⟨h1, h2⟩ := svcells hv (isTup_ne ht)
  have hb0 := hr.nobox d hk'
  have hok : ObjOK G (L.setBox d w.heap.size) (.cells (a.eval x).cells t1) (.bx y.cells) :=
    ⟨_, _, rfl, h1, fun j z e => ⟨(h2 j z e).1, (h2 j z e).2.loc (Loc.setBox_le hb0) (fun _ _ e => e)⟩⟩
  have hr1 := hr.alloc d hk' (.cells (a.eval x).cells t1) (.bx y.cells) rfl rfl hok
  have he : (execOp a.eval ⟨some d, .box t1 x, ty, pos, af, g⟩).run P w = .ok (.value (.pointer (some ⟨w.heap.size, 0, none⟩))) (w.alloc (.cells (a.eval x).cells t1)) := by
    simp [execOp, Instr.box, newVar, newRow]
  unfold Oper.wp
  rw [he]
  refine hK _ _ G (L.setBox d w.heap.size) ?_
  exact hr1.put d hN _ (.lp d 0) ⟨w.heap.size, by simp [Loc.setBox], rfl⟩
/-- alloc: a local of its own, at its zero value -/
theorem op_all {t1 : TypeId} {zs : List AV} (hN : d < N) (hz : zeroA P t1 = some zs) (hk : get s (.b d) = none) :
    OpOK P N ⟨some d, .alloc t1, ty, pos, af, g⟩ s [.b d] [(.s d, .sv (.lp d 0)), (.b d, .bx (zs.map .v))] := by
  intro t hR E G L a w hr K Q hK
  have hk' : get t (.b d) = none := by rw [hR (.b d) (by simp)]; exact hk
  unfold zeroA at hz
  split at hz
  · rename_i i hi
    split at hz
    · rename_i z hzz
      obtain ⟨h1, h2⟩ := cavs_sound G hz
      have hok : ObjOK G (L.setBox d w.heap.size) (.cells z.cells t1) (.bx (zs.map .v)) := by
        refine ⟨_, _, rfl, by simpa using h1, fun j y e => ?_⟩
        simp only [List.getElem?_map] at e
        cases hc : zs[j]? with
        | none => rw [hc] at e; cases e
        | some c =>
          rw [hc] at e; cases e
          refine ⟨(h2 j c hc).1, ?_⟩
          have := (h2 j c hc).2
          show V G (z.cells.getD j undef) c
          rwa [Array.getD_eq_getD_getElem?, ← Array.getElem?_toList, ← List.getD_eq_getElem?_getD]
      have hr1 := hr.alloc d hk' (.cells z.cells t1) (.bx (zs.map .v)) rfl rfl hok
      have he : (execOp a.eval ⟨some d, .alloc t1, ty, pos, af, g⟩).run P w = .ok (.value (.pointer (some ⟨w.heap.size, 0, none⟩))) (w.alloc (.cells z.cells t1)) := by
        simp [execOp, Instr.alloc, zeroValue, typeInfo, hi, hzz, newVar, newRow]
      unfold Oper.wp
      rw [he]
      refine hK _ _ G (L.setBox d w.heap.size) ?_
      exact hr1.put d hN _ (.lp d 0) ⟨w.heap.size, by simp [Loc.setBox], rfl⟩
    · cases hz
  · cases hz
end
end Go.Proofs.YthoncmadikifnaaDoor.X
