/- The program logic's rules: structs and slices that are built; calls; closures. No condition. -/
import Derived.Test.YthoncmadikifnaaDoorX5
set_option linter.unusedVariables false
namespace Go.Proofs.YthoncmadikifnaaDoor.X
open Go Go.RowKit

/-! ### Rows of cells -/
def Row (G : Gh) (arr : Array Value) (cs : List AV) : Prop := arr.size = cs.length ∧ ∀ (j : Nat) x, cs[j]? = some x → x.flat = true ∧ V G (arr.getD j undef) x
theorem Row.mono {G G' : Gh} (h : G.le G') {arr : Array Value} {cs : List AV} (k : Row G arr cs) : Row G' arr cs := ⟨k.1, fun j x e => ⟨(k.2 j x e).1, (k.2 j x e).2.mono h⟩⟩
theorem foldl_set (off : Nat) : ∀ (vs : List Value) (j0 : Nat) (arr : Array Value), off + j0 + vs.length ≤ arr.size →
    ((vs.zipIdx j0).foldl (fun (cs : Array Value) (p : Value × Nat) => cs.setIfInBounds (off + p.2) p.1) arr).size = arr.size ∧
    ∀ q, ((vs.zipIdx j0).foldl (fun (cs : Array Value) (p : Value × Nat) => cs.setIfInBounds (off + p.2) p.1) arr)[q]? = if off + j0 ≤ q ∧ q < off + j0 + vs.length then vs[q - (off + j0)]? else arr[q]?
  | [], j0, arr, h => ⟨rfl, fun q => by
    rw [if_neg (fun hq => by simp at hq; omega)]
    rfl⟩
  | v :: vs, j0, arr, h => by
    have h' : off + (j0 + 1) + vs.length ≤ (arr.setIfInBounds (off + j0) v).size := by simp at h ⊢; omega
    obtain ⟨h1, h2⟩ := foldl_set off vs (j0 + 1) (arr.setIfInBounds (off + j0) v) h'
    simp only [List.zipIdx_cons, List.foldl_cons]
    refine ⟨by rw [h1]; simp, fun q => ?_⟩
    rw [h2 q]
    simp only [List.length_cons] at h ⊢
    by_cases e : q = off + j0
    · subst e
      rw [if_neg (by omega), if_pos (by omega), Array.getElem?_setIfInBounds_self_of_lt (by omega)]
      simp
    · by_cases hr : off + j0 ≤ q ∧ q < off + j0 + (vs.length + 1)
      · rw [if_pos (by omega), if_pos hr]
        have : q - (off + j0) = (q - (off + (j0 + 1))) + 1 := by omega
        rw [this]; simp
      · rw [if_neg (by omega), if_neg hr, Array.getElem?_setIfInBounds_ne (by omega)]
/-- Parts laid into a row. -/
def afill (place : Nat → Option (Nat × Nat)) (cells : List AV) : List (Nat × AV) → Option (List AV)
  | [] => some cells
  | (i, a) :: rest =>
    match place i with
    | none => none
    | some (off, size) => if a.cells.length = size ∧ off + size ≤ cells.length then (match a with | .tup _ => none | _ => afill place (cells.take off ++ a.cells ++ cells.drop (off + size)) rest) else none
inductive Parts (G : Gh) : List (Nat × Value) → List (Nat × AV) → Prop where
  | nil : Parts G [] []
  | cons (i : Nat) (v : Value) (a : AV) (l : List (Nat × Value)) (m : List (Nat × AV)) : V G v a → Parts G l m → Parts G ((i, v) :: l) ((i, a) :: m)
theorem fill_row {G : Gh} {place : Nat → Option (Nat × Nat)} {l : List (Nat × Value)} {m : List (Nat × AV)} (hp : Parts G l m) : ∀ {arr : Array Value} {cs r : List AV}, Row G arr cs → afill place cs m = some r →
    ∃ arr', Instr.fill place arr l = some arr' ∧ Row G arr' r := by
  induction hp with
  | nil => intro arr cs r hr h; simp [afill] at h; subst h; exact ⟨arr, rfl, hr⟩
  | cons i v a l m hV _ ih =>
    intro arr cs r hr h
    simp only [afill] at h
    split at h
    · cases h
    · rename_i off size hpl
      split at h
      · rename_i hc
        have hnt : ∀ vs, a ≠ .tup vs := by rintro vs rfl; cases h
        have h' : afill place (cs.take off ++ a.cells ++ cs.drop (off + size)) m = some r := by
          cases a <;> first | exact h | cases h
        obtain ⟨h1, h2⟩ := hV.cells hnt
        have hsz : v.cells.size = size := by rw [h1, hc.1]
        have hb : ¬ (v.cells.size ≠ size || decide (off + v.cells.size > arr.size)) = true := by
          simp [hsz]; have := hr.1; omega
        let arr1 : Array Value := v.cells.zipIdx.foldl (fun cs (c, j) => cs.setIfInBounds (off + j) c) arr
        have key : arr1.size = arr.size ∧ ∀ q, arr1[q]? = if off ≤ q ∧ q < off + size then v.cells[q - off]? else arr[q]? := by
          have := foldl_set off v.cells.toList 0 arr (by rw [Array.length_toList, hsz]; have := hr.1; omega)
          have e : arr1 = (v.cells.toList.zipIdx 0).foldl (fun (cs : Array Value) (p : Value × Nat) => cs.setIfInBounds (off + p.2) p.1) arr := by
            simp only [arr1]
            rw [← Array.foldl_toList, Array.toList_zipIdx]
          rw [e]
          refine ⟨this.1, fun q => ?_⟩
          rw [this.2 q]
          simp [hsz]
        have hl1 : (cs.take off).length = off := by rw [List.length_take]; omega
        have hr1 : Row G arr1 (cs.take off ++ a.cells ++ cs.drop (off + size)) := by
          refine ⟨?_, fun j x e => ?_⟩
          · rw [key.1, hr.1]; simp only [List.length_append, hl1, List.length_drop, hc.1]; omega
          · rw [Array.getD_eq_getD_getElem?, key.2 j]
            rw [List.append_assoc] at e
            by_cases hj : j < off
            · rw [List.getElem?_append_left (by omega), List.getElem?_take, if_pos hj] at e
              rw [if_neg (by omega), ← Array.getD_eq_getD_getElem?]
              exact hr.2 j x e
            · rw [List.getElem?_append_right (by omega), hl1] at e
              by_cases hj2 : j < off + size
              · rw [List.getElem?_append_left (by omega)] at e
                rw [if_pos (by omega), ← Array.getD_eq_getD_getElem?]
                exact h2 _ x e
              · rw [List.getElem?_append_right (by omega), List.getElem?_drop] at e
                have he : off + size + (j - off - a.cells.length) = j := by omega
                rw [he] at e
                rw [if_neg (by omega), ← Array.getD_eq_getD_getElem?]
                exact hr.2 j x e
        obtain ⟨arr', h3, h4⟩ := ih hr1 h'
        refine ⟨arr', ?_, h4⟩
        simp only [Instr.fill, hpl]
        rw [if_neg hb]
        exact h3
      · cases h
/-- Operands as parts. -/
def opps : List (Nat × Operand) → St → Option (List (Nat × AV))
  | [], _ => some []
  | (i, x) :: l, s => match opv x s, opps l s with
    | some a, some r => some ((i, a) :: r)
    | _, _ => none
def rds : List Operand → List Comp
  | [] => []
  | x :: l => rd x ++ rds l
theorem opps_sound {E : Ent} {N : Nat} {G : Gh} {L : Loc} {a : Act} {w : World} {s t : St} (hr : Rel E N G L a w t) : ∀ {l : List (Nat × Operand)} {m : List (Nat × AV)}, Reads (rds (l.map (·.2))) s t → opps l s = some m → Parts G (l.map fun (i, x) => (i, a.eval x)) m
  | [], m, _, h => by simp [opps] at h; subst h; exact .nil
  | (i, x) :: l, m, hR, h => by
    simp only [opps] at h
    split at h
    · rename_i b r hb hr'
      cases h
      have hR' : Reads (rd x ++ rds (l.map (·.2))) s t := hR
      exact .cons i _ _ _ _ (opv_sound hr hR'.left hb) (opps_sound hr hR'.right hr')
    · cases h

/-! ### Structs -/
/-- A struct type's fields: where each lies, and how many cells. -/
def spl (P : Program) (t : TypeId) : Option (List (Nat × Nat)) :=
  match P.underlying t with
  | some (.struct fs) => fs.toList.mapM fun f => (P.info? f.type).map fun i => (f.offset, i.size)
  | _ => none
theorem mapM_sizes {P : Program} (w : World) : ∀ (fs : List Field) (pl : List (Nat × Nat)), fs.mapM (fun f => (P.info? f.type).map fun i => (f.offset, i.size)) = some pl →
    (fs.mapM fun f => (do pure (f.offset, ← sizeOf f.type) : Sem (Nat × Nat))).run P w = .ok pl w
  | [], pl, h => by simp at h; subst h; rfl
  | f :: fs, pl, h => by
    simp only [List.mapM_cons, Option.bind_eq_bind, Option.bind_eq_some_iff] at h
    obtain ⟨p, hp, l, hl, e⟩ := h
    cases hi : P.info? f.type with
    | none => rw [hi] at hp; cases hp
    | some i =>
      rw [hi] at hp
      cases hp
      simp at e
      subst e
      have ih := mapM_sizes w fs l hl
      simp only [List.mapM_cons, Sem.run_bind, sizeOf, typeInfo, run_program, Result.andThen_ok, hi, Sem.run_pure]
      simp only [sizeOf, typeInfo] at ih
      rw [ih]
      rfl
section
variable {P : Program} {N : Nat} {s : St} {d : Nat} {ty : TypeId} {pos : String} {af : Array Edge} {g : Option (Nat × Bool)}
/-- T{..} -/
theorem op_bldq {t1 : TypeId} {ps : List (Nat × Operand)} {pl : List (Nat × Nat)} {zs : List AV} {qs : List (Nat × AV)} {r : List AV} (hN : d < N) (hpl : spl P t1 = some pl) (hz : ∃ i z, P.info? t1 = some i ∧ i.zero = some z ∧ ∀ G, Row G z.cells zs) (hq : opps ps s = some qs) (hf : afill (fun i => pl[i]?) zs qs = some r) :
    OpOK P N ⟨some d, .build t1 ps.toArray, ty, pos, af, g⟩ s (rds (ps.map (·.2))) [(.s d, .sv (.v (.agg r)))] :=
  OpOK.val rfl hN fun E G L a w t hr hR => by
    have hparts := opps_sound hr hR hq
    obtain ⟨i, z, hi, hzz, hrow0⟩ := hz
    have hrow := hrow0 G
    obtain ⟨arr', hfill, hrow'⟩ := fill_row hparts hrow hf
    unfold spl at hpl
    split at hpl
    · rename_i fs hfs
      have hm := mapM_sizes (P := P) w fs.toList pl hpl
      refine ⟨.agg arr', ?_, V.agg _ _ hrow'.1 (fun j c e => (hrow'.2 j c e).1) (fun j c e => (hrow'.2 j c e).2)⟩
      have hmm : (fs.mapM fun f => (do pure (f.offset, ← sizeOf f.type) : Sem (Nat × Nat))).run P w = .ok pl.toArray w := by
        rw [Array.mapM_eq_mapM_toList]
        simp only [Sem.run_map, hm, Result.andThen_ok]
      have hfill' : Instr.fill (fun x => pl.toArray[x]?) z.cells (List.map (fun (x : Nat × Operand) => (x.1, a.eval x.2)) ps) = some arr' := by
        simpa using hfill
      simp only [execOp, Instr.build, Sem.run_bind, zeroValue, typeInfo, run_program, Result.andThen_ok, hi, Sem.run_pure, hzz, run_underlying hfs, hmm, List.map_toArray]
      rw [hfill']
      rfl
    · cases hpl
theorem zeroA_row {t1 : TypeId} {zs : List AV} (hz : zeroA P t1 = some zs) : ∃ i z, P.info? t1 = some i ∧ i.zero = some z ∧ ∀ G, Row G z.cells zs := by
  unfold zeroA at hz
  split at hz
  · rename_i i hi
    split at hz
    · rename_i z hzz
      refine ⟨i, z, hi, hzz, fun G => ?_⟩
      obtain ⟨h1, h2⟩ := cavs_sound G hz
      exact ⟨by simpa using h1, fun j x e => ⟨(h2 j x e).1, by
        have := (h2 j x e).2
        rwa [Array.getD_eq_getD_getElem?, ← Array.getElem?_toList, ← List.getD_eq_getElem?_getD]⟩⟩
    · cases hz
  · cases hz
theorem op_bld {t1 : TypeId} {ps : List (Nat × Operand)} {pl : List (Nat × Nat)} {zs : List AV} {qs : List (Nat × AV)} {r : List AV} (hN : d < N) (hpl : spl P t1 = some pl) (hz : zeroA P t1 = some zs) (hq : opps ps s = some qs) (hf : afill (fun i => pl[i]?) zs qs = some r) :
    OpOK P N ⟨some d, .build t1 ps.toArray, ty, pos, af, g⟩ s (rds (ps.map (·.2))) [(.s d, .sv (.v (.agg r)))] := op_bldq hN hpl (zeroA_row hz) hq hf
/-! nil slices that are known to be nil -/
def cavn (v : Value) : Option AV := match v with
  | .slice none 0 0 => some .nsl
  | v => cav v
def cavns : List Value → Option (List AV)
  | [] => some []
  | v :: l => match cavn v, cavns l with
    | some a, some r => some (a :: r)
    | _, _ => none
def zeroN (P : Program) (t : TypeId) : Option (List AV) :=
  match P.info? t with
  | some i => match i.zero with
    | some z => cavns z.cells.toList
    | none => none
  | none => none
theorem cavn_sound (G : Gh) {v : Value} {a : AV} (h : cavn v = some a) : a.flat = true ∧ V G v a := by
  unfold cavn at h
  split at h
  · cases h; exact ⟨rfl, .nsl⟩
  · exact ⟨cav_flat h, cav_sound G h⟩
theorem cavns_sound (G : Gh) {l : List Value} {r : List AV} (h : cavns l = some r) : l.length = r.length ∧ ∀ (j : Nat) x, r[j]? = some x → x.flat = true ∧ V G (l.getD j undef) x := by
  induction l generalizing r with
  | nil => simp [cavns] at h; subst h; exact ⟨rfl, fun j x e => by simp at e⟩
  | cons v l ih =>
    simp only [cavns] at h
    split at h
    · rename_i a r' ha hr
      cases h
      obtain ⟨h1, h2⟩ := ih hr
      refine ⟨by simp [h1], fun j x e => ?_⟩
      cases j with
      | zero => simp at e; subst e; simpa using cavn_sound G ha
      | succ j => simpa using h2 j x (by simpa using e)
    · cases h
theorem zeroN_row {t1 : TypeId} {zs : List AV} (hz : zeroN P t1 = some zs) : ∃ i z, P.info? t1 = some i ∧ i.zero = some z ∧ ∀ G, Row G z.cells zs := by
  unfold zeroN at hz
  split at hz
  · rename_i i hi
    split at hz
    · rename_i z hzz
      refine ⟨i, z, hi, hzz, fun G => ?_⟩
      obtain ⟨h1, h2⟩ := cavns_sound G hz
      exact ⟨by simpa using h1, fun j x e => ⟨(h2 j x e).1, by
        have := (h2 j x e).2
        rwa [Array.getD_eq_getD_getElem?, ← Array.getElem?_toList, ← List.getD_eq_getElem?_getD]⟩⟩
    · cases hz
  · cases hz
theorem op_bldn {t1 : TypeId} {ps : List (Nat × Operand)} {pl : List (Nat × Nat)} {zs : List AV} {qs : List (Nat × AV)} {r : List AV} (hN : d < N) (hpl : spl P t1 = some pl) (hz : zeroN P t1 = some zs) (hq : opps ps s = some qs) (hf : afill (fun i => pl[i]?) zs qs = some r) :
    OpOK P N ⟨some d, .build t1 ps.toArray, ty, pos, af, g⟩ s (rds (ps.map (·.2))) [(.s d, .sv (.v (.agg r)))] := op_bldq hN hpl (zeroN_row hz) hq hf
/-- a field of a struct value -/
def fof (P : Program) (t : TypeId) (i : Nat) : Option (Nat × Bool × Nat) :=
  match P.underlying t with
  | some (.struct fs) => match fs[i]? with
    | some f => (lk P f.type).map fun (b, n) => (f.offset, b, n)
    | none => none
  | _ => none
theorem op_fld {t1 : TypeId} {x : Operand} {i off n : Nat} {b : Bool} {cs : List AV} {z : Sv} (hN : d < N) (hf : fof P t1 i = some (off, b, n)) (hx : opv x s = some (.agg cs)) (hz : ldc b n ((cs.drop off).map .v) = some z) (hn : b = true → off + n ≤ cs.length) :
    OpOK P N ⟨some d, .field t1 x i, ty, pos, af, g⟩ s (rd x) [(.s d, .sv z)] :=
  OpOK.val rfl hN fun E G L a w t hr hR => by
    have hv := opv_sound hr hR hx
    generalize hav : a.eval x = u at hv
    cases hv
    rename_i vs hl hff hvv
    unfold fof at hf
    split at hf
    · rename_i fs hfs
      split at hf
      · rename_i f hfi
        cases hlk : lk P f.type with
        | none => rw [hlk] at hf; cases hf
        | some p =>
          rw [hlk] at hf
          cases hf
          obtain ⟨ha, hs⟩ := lk_run hlk w
          cases hb : p.1 with
          | false =>
            rw [hb] at hz ha
            simp only [ldc, List.getElem?_map, List.getElem?_drop, Nat.add_zero] at hz
            cases hc : cs[f.offset]? with
            | none => rw [hc] at hz; cases hz
            | some c =>
              rw [hc] at hz; cases hz
              have hlt : f.offset < vs.size := by rw [hl]; exact (List.getElem?_eq_some_iff.1 hc).1
              refine ⟨vs[f.offset], ?_, ?_⟩
              · simp [execOp, hav, Instr.field, run_underlying hfs, hfi, asAgg, part, ha, Array.getElem?_eq_getElem hlt]
              · have := hvv _ c hc
                show V G vs[f.offset] c
                simpa [Array.getD_eq_getD_getElem?, Array.getElem?_eq_getElem hlt] using this
          | true =>
            rw [hb] at hz ha hn
            simp only [ldc] at hz
            split at hz
            · rename_i r hr'
              split at hz
              · rename_i hlen
                cases hz
                have hn' := hn rfl
                obtain ⟨q1, q2⟩ := svavs_get hr'
                have hrc : ∀ (j : Nat) c, r[j]? = some c → j < p.2 ∧ cs[f.offset + j]? = some c := by
                  intro j c e
                  have hj : j < p.2 := by have := (List.getElem?_eq_some_iff.1 e).1; omega
                  obtain ⟨y, hy, hyv⟩ := q2 j c e
                  rw [List.getElem?_take, if_pos hj, List.getElem?_map, List.getElem?_drop] at hy
                  cases hc : cs[f.offset + j]? with
                  | none => rw [hc] at hy; cases hy
                  | some c' =>
                    rw [hc] at hy; cases hy
                    simp [Sv.av] at hyv
                    exact ⟨hj, by rw [hyv]⟩
                refine ⟨.agg (vs.extract f.offset (f.offset + p.2)), ?_, ?_⟩
                · simp [execOp, hav, Instr.field, run_underlying hfs, hfi, asAgg, part, ha, hs]
                · refine V.agg _ _ (by simp [hlen]; omega) (fun j c e => hff _ c (hrc j c e).2) (fun j c e => ?_)
                  have := hvv _ c (hrc j c e).2
                  have hj := (hrc j c e).1
                  rw [Array.getD_eq_getD_getElem?] at this ⊢
                  rw [Array.getElem?_extract, if_pos (by omega)]
                  exact this
              · cases hz
            · cases hz
      · cases hf
    · cases hf

/-! ### Calls -/
def isFn (P : Program) (f : FuncId) : Bool :=
  match P.funcs[f]? with
  | some fn => !(fn.name == "runtime.NumGoroutine") && fn.body.isSome
  | none => false
theorem run_callFunc {P : Program} {f : FuncId} (h : isFn P f = true) (args : Array Value) (w : World) : (callFunc f args).run P w = .ok (.enter f args) w := by
  unfold isFn at h
  split at h
  · rename_i fn hfn
    simp only [Bool.and_eq_true, Bool.not_eq_true'] at h
    have hb : fn.body.isNone = false := by simpa using h.2
    simp only [callFunc, Sem.run_bind, run_program, Result.andThen_ok, hfn, h.1, Bool.false_eq_true, if_false, hb, Sem.run_pure]
  · cases h
def opvs : List Operand → St → Option (List AV)
  | [], _ => some []
  | x :: l, s => match opv x s, opvs l s with
    | some a, some r => some (a :: r)
    | _, _ => none
theorem opvs_sound {E : Ent} {N : Nat} {G : Gh} {L : Loc} {a : Act} {w : World} {s t : St} (hr : Rel E N G L a w t) : ∀ {l : List Operand} {m : List AV}, Reads (rds l) s t → opvs l s = some m → l.length = m.length ∧ ∀ (j : Nat) x, m[j]? = some x → V G ((l.map a.eval).getD j undef) x
  | [], m, _, h => by simp [opvs] at h; subst h; exact ⟨rfl, fun j x e => by simp at e⟩
  | x :: l, m, hR, h => by
    simp only [opvs] at h
    split at h
    · rename_i b r hb hr'
      cases h
      have h1 := opv_sound hr (Reads.left (R := rd x) (R' := rds l) hR) hb
      obtain ⟨h2, h3⟩ := opvs_sound hr (Reads.right (R := rd x) (R' := rds l) hR) hr'
      refine ⟨by simp [h2], fun j y e => ?_⟩
      cases j with
      | zero => simp at e; subst e; exact h1
      | succ j => simpa using h3 j y (by simpa using e)
    · cases h
theorem VL_of {G : Gh} {l : List Value} {m : List AV} (h1 : l.length = m.length) (h2 : ∀ (j : Nat) x, m[j]? = some x → V G (l.getD j undef) x) : VL G l.toArray m := by
  refine ⟨by simpa using h1, fun j x e => ?_⟩
  have := h2 j x e
  simpa [Array.getD_eq_getD_getElem?, List.getD_eq_getElem?_getD] using this
/-- A call that leaves the objects alone. -/
theorem call_pure {o : Oper} {f : FuncId} {R : List Comp} {«as» : List AV} {r : AV} (hp : Pure P f «as» r) (hd : o.dst = some d) (hN : d < N)
    (h : ∀ E G L a w t, Rel E N G L a w t → Reads R s t → ∃ cargs, (execOp a.eval o).run P w = .ok (.enter f cargs) w ∧ VL G cargs «as») : OpOK P N o s R [(.s d, .sv (.v r))] := by
  intro t hR E G L a w hr K Q hK
  obtain ⟨cargs, he, hV⟩ := h E G L a w t hr hR
  obtain ⟨H, hH, hok, hmay⟩ := hr.heap
  unfold Oper.wp
  rw [he]
  refine (hp H G w cargs (hr.geAt (by assumption)) hr.kn hok hV).mono ?_
  rintro e w' ⟨v, G', rfl, hv, hx, hkn, hok', hf, hft⟩
  refine hK v w' G' L ?_
  rw [hd]
  have h1 := (hr.called (by assumption) hx hkn hok' hf hft).put d hN v (.v r) hv
  refine h1.ext fun c => ?_
  simp only [List.cons_append, List.nil_append, get]
  split
  · rfl
  · split
    · rename_i h2; subst h2; exact hH
    · rfl
/-- A call that may turn the objects. -/
theorem call_run {o : Oper} {f : FuncId} {R : List Comp} {«as» : List AV} {H : Hp} {r : AV} {H' : Hp} (hp : Run P f «as» H r H') (hd : o.dst = some d) (hN : d < N) (hH : get s .h = some (.hp H))
    (h : ∀ E G L a w t, Rel E N G L a w t → Reads R s t → ∃ cargs, (execOp a.eval o).run P w = .ok (.enter f cargs) w ∧ VL G cargs «as») : OpOK P N o s (R ++ [.h]) [(.s d, .sv (.v r)), (.h, .hp H')] := by
  intro t hR E G L a w hr K Q hK
  obtain ⟨cargs, he, hV⟩ := h E G L a w t hr hR.left
  obtain ⟨H2, hH2, hok, hmay⟩ := hr.heap
  have hHt : get t .h = some (.hp H) := by rw [hR .h (by simp)]; exact hH
  rw [hHt] at hH2; cases hH2
  unfold Oper.wp
  rw [he]
  refine (hp G w cargs (hr.geAt (by assumption)) hr.kn hok hV).mono ?_
  rintro e w' ⟨v, G', rfl, hv, hx, hkn, hok', hf, hft⟩
  refine hK v w' G' L ?_
  rw [hd]
  exact (hr.called (by assumption) hx hkn hok' hf hft).put d hN v (.v r) hv
theorem enter_func {f : FuncId} {xs : Array Operand} {tys : Array TypeId} {«as» : List AV} (hf : isFn P f = true) (ha : opvs xs.toList s = some «as») {dst : Option Tmp} : ∀ E G L a w t, Rel E N G L a w t → Reads (rds xs.toList) s t →
    ∃ cargs, (execOp a.eval ⟨dst, .call { callee := .value (.func f), args := xs, argTypes := tys }, ty, pos, af, g⟩).run P w = .ok (.enter f cargs) w ∧ VL G cargs «as» := by
  intro E G L a w t hr hR
  obtain ⟨h1, h2⟩ := opvs_sound hr hR ha
  refine ⟨(xs.toList.map a.eval).toArray, ?_, VL_of (by simpa using h1) h2⟩
  have e : #[] ++ Array.map a.eval xs ++ #[] = (xs.toList.map a.eval).toArray := by apply Array.ext'; simp
  have he : a.eval (.func f) = .func (.func f) #[] #[] := rfl
  simp only [execOp, resolve, he, Deferred.ofValue, Sem.run_bind, Sem.run_pure, Result.andThen_ok, invoke, run_callFunc hf, e]
theorem op_call {f : FuncId} {xs : Array Operand} {tys : Array TypeId} {«as» : List AV} {r : AV} (hN : d < N) (hf : isFn P f = true) (ha : opvs xs.toList s = some «as») (hp : Pure P f «as» r) :
    OpOK P N ⟨some d, .call { callee := .value (.func f), args := xs, argTypes := tys }, ty, pos, af, g⟩ s (rds xs.toList) [(.s d, .sv (.v r))] :=
  call_pure hp rfl hN (enter_func hf ha)
theorem op_callh {f : FuncId} {xs : Array Operand} {tys : Array TypeId} {«as» : List AV} {r : AV} {H H' : Hp} (hN : d < N) (hf : isFn P f = true) (hH : get s .h = some (.hp H)) (ha : opvs xs.toList s = some «as») (hp : Run P f «as» H r H') :
    OpOK P N ⟨some d, .call { callee := .value (.func f), args := xs, argTypes := tys }, ty, pos, af, g⟩ s (rds xs.toList ++ [.h]) [(.s d, .sv (.v r)), (.h, .hp H')] :=
  call_run hp rfl hN hH (enter_func hf ha)
/-- a call of a closure -/
theorem enter_clo {x : Operand} {f : FuncId} {xs : Array Operand} {tys : Array TypeId} {«as» caps : List AV} (hf : isFn P f = true) (hx : opv x s = some (.fn f caps)) (ha : opvs xs.toList s = some «as») {dst : Option Tmp} : ∀ E G L a w t, Rel E N G L a w t → Reads (rd x ++ rds xs.toList) s t →
    ∃ cargs, (execOp a.eval ⟨dst, .call { callee := .value x, args := xs, argTypes := tys }, ty, pos, af, g⟩).run P w = .ok (.enter f cargs) w ∧ VL G cargs («as» ++ caps) := by
  intro E G L a w t hr hR
  obtain ⟨h1, h2⟩ := opvs_sound hr hR.right ha
  have hv := opv_sound hr hR.left hx
  generalize hav : a.eval x = u at hv
  cases hv
  rename_i vs hl hvv
  refine ⟨(xs.toList.map a.eval).toArray ++ vs, ?_, ?_⟩
  · have e : #[] ++ Array.map a.eval xs ++ vs = (xs.toList.map a.eval).toArray ++ vs := by apply Array.ext'; simp
    simp only [execOp, resolve, hav, Deferred.ofValue, Sem.run_bind, Sem.run_pure, Result.andThen_ok, invoke, run_callFunc hf, e]
  · refine ⟨by simp [← h1, hl], fun j y e => ?_⟩
    simp only [Array.getD_eq_getD_getElem?, Array.getElem?_append]
    by_cases hj : j < «as».length
    · rw [List.getElem?_append_left hj] at e
      have := h2 j y e
      have hj' : j < (xs.toList.map a.eval).toArray.size := by simp; have := h1; simp at this; omega
      rw [if_pos hj']
      simpa [List.getD_eq_getElem?_getD] using this
    · rw [List.getElem?_append_right (by omega)] at e
      have hsz : (xs.toList.map a.eval).toArray.size = «as».length := by simp; simpa using h1
      rw [if_neg (by omega), hsz, ← Array.getD_eq_getD_getElem?]
      exact hvv _ y e
theorem op_callc {x : Operand} {f : FuncId} {xs : Array Operand} {tys : Array TypeId} {«as» caps : List AV} {r : AV} (hN : d < N) (hf : isFn P f = true) (hx : opv x s = some (.fn f caps)) (ha : opvs xs.toList s = some «as») (hp : Pure P f («as» ++ caps) r) :
    OpOK P N ⟨some d, .call { callee := .value x, args := xs, argTypes := tys }, ty, pos, af, g⟩ s (rd x ++ rds xs.toList) [(.s d, .sv (.v r))] :=
  call_pure hp rfl hN (enter_clo hf hx ha)
/-- a closure is made -/
theorem op_mkf {f : FuncId} {caps : Array Operand} {cs : List AV} (hN : d < N) (hc : opvs caps.toList s = some cs) :
    OpOK P N ⟨some d, .makeFunc (.func f) #[] caps, ty, pos, af, g⟩ s (rds caps.toList) [(.s d, .sv (.v (.fn f cs)))] :=
  OpOK.val rfl hN fun E G L a w t hr hR => by
    obtain ⟨h1, h2⟩ := opvs_sound hr hR hc
    refine ⟨.func (.func f) #[] (caps.map a.eval), by simp [execOp, Instr.makeFunc], ?_⟩
    have hV := VL_of (l := caps.toList.map a.eval) (by simpa using h1) h2
    have e : caps.map a.eval = (caps.toList.map a.eval).toArray := by apply Array.ext'; simp
    rw [e]
    exact V.fn f _ _ hV.1 hV.2
/-- an interface value is made -/
theorem op_mki {t1 : TypeId} {x : Operand} {y : AV} (hN : d < N) (hc : P.concrete t1 = true) (hx : opv x s = some y) :
    OpOK P N ⟨some d, .makeInterface t1 x, ty, pos, af, g⟩ s (rd x) [(.s d, .sv (.v (.ifc t1 y)))] :=
  OpOK.val rfl hN fun E G L a w t hr hR => ⟨.iface t1 (a.eval x), by simp [execOp, run_makeInterface w t1 _ hc], V.ifc _ _ _ (opv_sound hr hR hx)⟩
end
end Go.Proofs.YthoncmadikifnaaDoor.X
