/- The program logic's rules: a struct that is built and boxed at once, its parts kept as they are. No condition. -/
import Derived.Test.YthoncmadikifnaaDoorXK
set_option linter.unusedVariables false
set_option linter.unusedSimpArgs false
namespace Go.Proofs.YthoncmadikifnaaDoor.X
open Go Go.RowKit

def RowS (G : Gh) (L : Loc) (arr : Array Value) (cs : List Sv) : Prop := arr.size = cs.length ∧ ∀ (j : Nat) x, cs[j]? = some x → x.flat = true ∧ SV G L (arr.getD j undef) x
/-- Parts laid into a row, as they are. -/
def sfill (place : Nat → Option (Nat × Nat)) (cells : List Sv) : List (Nat × Sv) → Option (List Sv)
  | [] => some cells
  | (i, a) :: rest =>
    match place i with
    | none => none
    | some (off, size) => if a.cells.length = size ∧ off + size ≤ cells.length then (bif a.isTup then none else sfill place (cells.take off ++ a.cells ++ cells.drop (off + size)) rest) else none
inductive PartsS (G : Gh) (L : Loc) : List (Nat × Value) → List (Nat × Sv) → Prop where
  | nil : PartsS G L [] []
  | cons (i : Nat) (v : Value) (a : Sv) (l : List (Nat × Value)) (m : List (Nat × Sv)) : SV G L v a → PartsS G L l m → PartsS G L ((i, v) :: l) ((i, a) :: m)
theorem fill_rowS {G : Gh} {L : Loc} {place : Nat → Option (Nat × Nat)} {l : List (Nat × Value)} {m : List (Nat × Sv)} (hp : PartsS G L l m) : ∀ {arr : Array Value} {cs r : List Sv}, RowS G L arr cs → sfill place cs m = some r →
    ∃ arr', Instr.fill place arr l = some arr' ∧ RowS G L arr' r := by
  induction hp with
  | nil => intro arr cs r hr h; simp [sfill] at h; subst h; exact ⟨arr, rfl, hr⟩
  | cons i v a l m hV _ ih =>
    intro arr cs r hr h
    simp only [sfill] at h
    split at h
    · cases h
    · rename_i off size hpl
      split at h
      · rename_i hc
        cases hnt : a.isTup with
        | true => rw [hnt] at h; cases h
        | false =>
        rw [hnt] at h
        have h' : sfill place (cs.take off ++ a.cells ++ cs.drop (off + size)) m = some r := h
        obtain ⟨h1, h2⟩ := svcells hV (isTup_ne hnt)
        have hsz : v.cells.size = size := by rw [h1, hc.1]
        have hb : ¬ (v.cells.size ≠ size || decide (off + v.cells.size > arr.size)) = true := by
          simp [hsz]; have := hr.1; omega
        let arr1 : Array Value := v.cells.zipIdx.foldl (fun cs (c, j) => cs.setIfInBounds (off + j) c) arr
        have key : arr1.size = arr.size ∧ ∀ q, arr1[q]? = if off ≤ q ∧ q < off + size then v.cells[q - off]? else arr[q]? := by
          have := foldl_set off v.cells.toList 0 arr (by rw [Array.length_toList, hsz]; have := hr.1; omega)
          have e : arr1 = (v.cells.toList.zipIdx 0).foldl (fun (cs : Array Value) (p : Value × Nat) => cs.setIfInBounds (off + p.2) p.1) arr := by
            simp only [arr1]
            rw [← Array.foldl_toList, Array.toList_zipIdx]
          rw [e]
          refine ⟨this.1, fun q => ?_⟩
          rw [this.2 q]
          simp [hsz]
        have hl1 : (cs.take off).length = off := by rw [List.length_take]; omega
        have hr1 : RowS G L arr1 (cs.take off ++ a.cells ++ cs.drop (off + size)) := by
          refine ⟨?_, fun j x e => ?_⟩
          · rw [key.1, hr.1]; simp only [List.length_append, hl1, List.length_drop, hc.1]; omega
          · rw [Array.getD_eq_getD_getElem?, key.2 j]
            rw [List.append_assoc] at e
            by_cases hj : j < off
            · rw [List.getElem?_append_left (by omega), List.getElem?_take, if_pos hj] at e
              rw [if_neg (by omega), ← Array.getD_eq_getD_getElem?]
              exact hr.2 j x e
            · rw [List.getElem?_append_right (by omega), hl1] at e
              by_cases hj2 : j < off + size
              · rw [List.getElem?_append_left (by omega)] at e
                rw [if_pos (by omega), ← Array.getD_eq_getD_getElem?]
                exact h2 _ x e
              · rw [List.getElem?_append_right (by omega), List.getElem?_drop] at e
                have he : off + size + (j - off - a.cells.length) = j := by omega
                rw [he] at e
                rw [if_neg (by omega), ← Array.getD_eq_getD_getElem?]
                exact hr.2 j x e
        obtain ⟨arr', h3, h4⟩ := ih hr1 h'
        refine ⟨arr', ?_, h4⟩
        simp only [Instr.fill, hpl]
        rw [if_neg hb]
        exact h3
      · cases h
def sopps : List (Nat × Operand) → St → Option (List (Nat × Sv))
  | [], _ => some []
  | (i, x) :: l, s => match opd x s, sopps l s with
    | some a, some r => some ((i, a) :: r)
    | _, _ => none
theorem sopps_sound {E : Ent} {N : Nat} {G : Gh} {L : Loc} {a : Act} {w : World} {t : St} (hr : Rel E N G L a w t) : ∀ {l : List (Nat × Operand)} {m : List (Nat × Sv)}, sopps l t = some m → PartsS G L (l.map fun (i, x) => (i, a.eval x)) m
  | [], m, h => by simp [sopps] at h; subst h; exact .nil
  | (i, x) :: l, m, h => by
    simp only [sopps] at h
    split at h
    · rename_i b r hb hr'
      cases h
      exact .cons i _ _ _ _ (opd_sound hr (fun _ _ => rfl) hb) (sopps_sound hr hr')
    · cases h
/-- T{..}, boxed at once. -/
theorem TriL.bldbox {P : Program} {N : Nat} {ops : Array Oper} {l : List Oper} {s : St} {Q : St → Prop} {d1 d2 : Nat} {t1 t2 ty1 ty2 : TypeId} {pos1 pos2 : String} {af1 af2 : Array Edge} {ps : List (Nat × Operand)} {pl : List (Nat × Nat)} {zs : List AV} {qs : List (Nat × Sv)} {r : List Sv}
    (h1 : d1 < N) (h2 : d2 < N) (hpl : spl P t1 = some pl) (hz : zeroN P t1 = some zs) (hq : sopps ps s = some qs) (hf : sfill (fun i => pl[i]?) (zs.map .v) qs = some r) (hk : get s (.b d2) = none)
    (h : TriL P N ops l ((.s d2, .sv (.lp d2 0)) :: (.b d2, .bx r) :: (.s d1, .gone) :: s) Q) : TriL P N ops (⟨some d1, .build t1 ps.toArray, ty1, pos1, af1, none⟩ :: ⟨some d2, .box t2 (.tmp d1), ty2, pos2, af2, none⟩ :: l) s Q := by
  intro E a w ⟨G, L, hr⟩ QQ hQ
  obtain ⟨i, z, hi, hzz, hrow0⟩ := zeroN_row hz
  have hrow : RowS G L z.cells (zs.map .v) := by
    refine ⟨by simpa using (hrow0 G).1, fun j x e => ?_⟩
    simp only [List.getElem?_map] at e
    cases hc : zs[j]? with
    | none => rw [hc] at e; cases e
    | some c => rw [hc] at e; cases e; exact (hrow0 G).2 j c hc
  obtain ⟨arr', hfill, hrow'⟩ := fill_rowS (sopps_sound hr hq) hrow hf
  have hrun : (execOp a.eval ⟨some d1, .build t1 ps.toArray, ty1, pos1, af1, none⟩).run P w = .ok (.value (.agg arr')) w := by
    unfold spl at hpl
    split at hpl
    · rename_i fs hfs
      have hm := mapM_sizes (P := P) w fs.toList pl hpl
      have hmm : (fs.mapM fun f => (do pure (f.offset, ← sizeOf f.type) : Sem (Nat × Nat))).run P w = .ok pl.toArray w := by
        rw [Array.mapM_eq_mapM_toList]
        simp only [Sem.run_map, hm, Result.andThen_ok]
      have hfill' : Instr.fill (fun x => pl.toArray[x]?) z.cells (List.map (fun (x : Nat × Operand) => (x.1, a.eval x.2)) ps) = some arr' := by
        simpa using hfill
      simp only [execOp, Instr.build, Sem.run_bind, zeroValue, typeInfo, run_program, Result.andThen_ok, hi, Sem.run_pure, hzz, run_underlying hfs, hmm, List.map_toArray]
      rw [hfill']
      rfl
    · cases hpl
  refine wpList_plain rfl fun K hK => ?_
  unfold Oper.wp
  rw [hrun]
  refine hK _ _ ?_
  have hr1 := hr.drop (some d1) (.agg arr')
  have hev : (a.put (some d1) (.agg arr')).eval (.tmp d1) = .agg arr' := by
    show ((a.put (some d1) (.agg arr')).tmps.getD d1 undef) = _
    have hsz := hr.size
    simp only [Act.put, Array.getD_eq_getD_getElem?]
    rw [Array.getElem?_setIfInBounds_self_of_lt (by omega)]; rfl
  refine wpList_plain rfl fun K hK => ?_
  have hk' : get ((.s d1, .gone) :: s) (.b d2) = none := by simpa [get] using hk
  have hb0 := hr1.nobox d2 hk'
  have hok : ObjOK G (L.setBox d2 w.heap.size) (.cells (Value.agg arr').cells t2) (.bx r) :=
    ⟨_, _, rfl, hrow'.1, fun j y e => ⟨(hrow'.2 j y e).1, (hrow'.2 j y e).2.loc (Loc.setBox_le hb0) (fun _ _ e => e)⟩⟩
  have hr2 := hr1.alloc d2 hk' (.cells (Value.agg arr').cells t2) (.bx r) rfl rfl hok
  have he : (execOp (a.put (some d1) (.agg arr')).eval ⟨some d2, .box t2 (.tmp d1), ty2, pos2, af2, none⟩).run P w = .ok (.value (.pointer (some ⟨w.heap.size, 0, none⟩))) (w.alloc (.cells (Value.agg arr').cells t2)) := by
    simp [execOp, Instr.box, newVar, newRow, hev]
  unfold Oper.wp
  rw [he]
  refine hK _ _ (h E _ _ ⟨G, L.setBox d2 w.heap.size, ?_⟩ QQ hQ)
  exact hr2.put d2 h2 _ (.lp d2 0) ⟨w.heap.size, by simp [Loc.setBox], rfl⟩
end Go.Proofs.YthoncmadikifnaaDoor.X
