/- The program logic's rules: slices that are built, made and appended to. No condition. -/
import Derived.Test.YthoncmadikifnaaDoorX7
set_option linter.unusedVariables false
set_option linter.unusedSimpArgs false
namespace Go.Proofs.YthoncmadikifnaaDoor.X
open Go Go.RowKit

theorem add_kn {G : Gh} {b o : Nat} {cells : List Value} : (G.add b cells).kn b o = cells[o]? := by simp [Gh.add]

/-- New memory that is known from the first. -/
theorem Rel.known {E : Ent} {N : Nat} {G : Gh} {L : Loc} {a : Act} {w : World} {s : St} (h : Rel E N G L a w s) {w1 : World} (hg : w.grownBy w1 none) {b : Nat} (hb : w.heap.size ≤ b) {cells : List Value} (hc : ∀ o v, cells[o]? = some v → w1.cell? ⟨b, o, none⟩ = some v) :
    G.le (G.add b cells) ∧ Rel E N (G.add b cells) L a w1 s := by
  have hnone : ∀ o, G.kn b o = none := fun o => by
    cases e : G.kn b o with
    | none => rfl
    | some v => have := h.knlt e; omega
  have hle : G.le (G.add b cells) := Gh.add_le (fun o v e => by rw [hnone o] at e; cases e)
  have hkn2 : ∀ c o, c ≠ b → (G.add b cells).kn c o = G.kn c o := fun c o e => by simp [Gh.add, e]
  have hother : ∀ c blk, owns s L c blk → w1.heap[blk]? = w.heap[blk]? ∧ blk ≠ b := fun c blk hc' => by
    obtain ⟨hlt, _⟩ := owns_lt h hc'
    exact ⟨hg.block blk hlt (by simp), by omega⟩
  obtain ⟨H0, gH, hokH, hmayH⟩ := h.heap
  have hfb : ∀ c, foot G H0 w c → c ≠ b := fun c hc => by have := (hokH.foot hc).1; omega
  have hst := hokH.stay (w' := w1) hle rfl (fun c hc o => (hkn2 c o (hfb c hc)).trans ((hokH.foot hc).2 o)) (fun c hc => hg.block c (hokH.foot hc).1 (by simp)) hg.size
  refine ⟨hle, h.size, h.defs, h.ge, ?_, ?_, h.obs, h.obn, ?_, fun n x g => (h.slot n x g).mono hle, ?_, ?_, h.disj, ⟨H0, gH, hst.1, fun c hc => hmayH c ((hst.2 c).1 hc)⟩, ?_, h.nobox, h.notok⟩
  · intro c o v e
    by_cases hcb : c = b
    · subst hcb; rw [add_kn] at e; exact hc o v e
    · rw [hkn2 c o hcb] at e
      rw [World.cell?_of_block (w := w) (hg.block c (h.knlt e) (by simp))]
      exact h.kn c o v e
  · intro c o hlt hm
    rw [hkn2 c o (by have := h.base_le; omega)]
    exact h.old c o hlt hm
  · exact ⟨hg.os.trans h.fr.os, hg.tape.trans h.fr.tape, hg.output.trans h.fr.output, Nat.le_trans h.fr.size hg.size, fun k hk hno => by
      rw [hg.block k (Nat.lt_of_lt_of_le hk h.base_le) (by simp)]; exact h.fr.block k hk hno⟩
  · intro k cv g hl
    have how : ∀ b, L.box k = some b → owns s L (.b k) b := fun b hb => ⟨⟨cv, g, hl⟩, hb⟩
    exact (h.box k cv g hl).stay hle (fun _ _ e => .inl e) (fun b hb => (hother _ b (how b hb)).1) (fun b hb o => hkn2 b o (hother _ b (how b hb)).2)
  · intro k m el esz xs g
    have how : ∀ v b, L.tok k = some v → v.ownBlock = some b → owns s L (.t k) b := fun v b hv hb => ⟨⟨_, _, _, _, g⟩, v, hv, hb⟩
    exact (h.tok k m el esz xs g).stay hle (fun _ _ e => .inl e) (fun v b hv hb => (hother _ b (how v b hv hb)).1) (fun v b hv hb o => hkn2 b o (hother _ b (how v b hv hb)).2)
  · intro c blk hc' H2 g2 e2
    rw [gH] at g2; cases g2
    exact h.hdisj c blk hc' _ gH ((hst.2 blk).1 e2)
/-- The slice over a row of one's own. -/
def tokv (m : Bool) (k : Nat) (xs : List AV) : Sv := match m with | false => .ow k xs | true => .om k xs.length
theorem tokv_ok {G : Gh} {L : Loc} {m : Bool} {k el esz : Nat} {xs : List AV} {v : Value} {w : World} {cells : List Value} {base : Nat} (hV : m = false → V G v (.sl xs)) (hl : L.tok k = some v) (ho : w.ownsRow base el esz v xs.length cells) : SV G L v (tokv m k xs) := by
  cases m with
  | false => exact ⟨hV rfl, hl⟩
  | true =>
    refine ⟨hl, ?_⟩
    rcases ho.2 with ⟨rfl, h0⟩ | ⟨g, cap, cur, rfl, _⟩
    · exact ⟨none, 0, by rw [h0]⟩
    · exact ⟨_, _, rfl⟩

/-! ### Literals -/
def seqFrom : Nat → List AV → List (Nat × AV)
  | _, [] => []
  | k, a :: l => (k, a) :: seqFrom (k + 1) l
def okEls (esz : Nat) («as» : List AV) : Bool := «as».all fun a => a.cells.length == esz && (match a with | .tup _ => false | _ => true)
theorem okEls_mem {esz : Nat} {«as» : List AV} (h : okEls esz «as» = true) : ∀ a ∈ «as», a.cells.length = esz ∧ ∀ vs, a ≠ .tup vs := by
  intro a ha
  have := List.all_eq_true.1 h a ha
  simp only [Bool.and_eq_true, beq_iff_eq] at this
  refine ⟨this.1, ?_⟩
  rintro vs rfl
  simp at this
theorem afill_seq (esz : Nat) : ∀ («as» : List AV) (k : Nat) (pre zs : List AV), pre.length = k * esz → «as».length * esz ≤ zs.length → (∀ a ∈ «as», a.cells.length = esz ∧ ∀ vs, a ≠ .tup vs) →
    afill (fun i => some (i * esz, esz)) (pre ++ zs) (seqFrom k «as») = some (pre ++ «as».flatMap AV.cells ++ zs.drop («as».length * esz))
  | [], k, pre, zs, _, _, _ => by simp [seqFrom, afill]
  | a :: «as», k, pre, zs, hp, hz, ha => by
    obtain ⟨h1, h2⟩ := ha a (List.mem_cons_self ..)
    have hz' : esz + «as».length * esz ≤ zs.length := by simp only [List.length_cons, Nat.add_mul, Nat.one_mul] at hz; omega
    have hc : a.cells.length = esz ∧ k * esz + esz ≤ (pre ++ zs).length := ⟨h1, by rw [List.length_append, hp]; omega⟩
    have hstep : afill (fun i => some (i * esz, esz)) (pre ++ zs) (seqFrom k (a :: «as»)) = afill (fun i => some (i * esz, esz)) ((pre ++ a.cells) ++ zs.drop esz) (seqFrom (k + 1) «as») := by
      have e1 : (pre ++ zs).take (k * esz) = pre := by rw [← hp]; simp
      have e2 : (pre ++ zs).drop (k * esz + esz) = zs.drop esz := by
        rw [← hp, List.drop_append]
        have : pre.drop (pre.length + esz) = [] := List.drop_eq_nil_of_le (by omega)
        rw [this]; simp
      simp only [seqFrom, afill]
      rw [if_pos hc, e1, e2]
      all_goals (cases a <;> first | rfl | exact absurd rfl (h2 _))
    rw [hstep, afill_seq esz «as» (k + 1) (pre ++ a.cells) (zs.drop esz) (by rw [List.length_append, hp, h1, Nat.add_mul, Nat.one_mul]) (by rw [List.length_drop]; omega) (fun b hb => ha b (List.mem_cons_of_mem _ hb))]
    have e3 : esz + «as».length * esz = («as».length + 1) * esz := by rw [Nat.add_mul, Nat.one_mul, Nat.add_comm]
    simp only [List.flatMap_cons, List.append_assoc, List.drop_drop, List.length_cons, e3]
theorem flat_get {esz : Nat} : ∀ {«as» : List AV} (h : ∀ a ∈ «as», a.cells.length = esz) (i j : Nat) (e : AV), «as»[i]? = some e → j < esz → («as».flatMap AV.cells)[i * esz + j]? = e.cells[j]?
  | [], _, i, j, e, hi, _ => by simp at hi
  | a :: «as», h, 0, j, e, hi, hj => by
    simp at hi; subst hi
    have hl := h a (List.mem_cons_self ..)
    rw [List.flatMap_cons, List.getElem?_append_left (by omega), Nat.zero_mul, Nat.zero_add]
  | a :: «as», h, i + 1, j, e, hi, hj => by
    have := flat_get (fun b hb => h b (List.mem_cons_of_mem _ hb)) i j e (by simpa using hi) hj
    have hl := h a (List.mem_cons_self ..)
    rw [List.flatMap_cons, List.getElem?_append_right (by rw [hl, Nat.add_mul]; omega), hl]
    rw [← this]
    congr 1
    rw [Nat.add_mul]; omega
theorem flat_len {esz : Nat} : ∀ {«as» : List AV}, (∀ a ∈ «as», a.cells.length = esz) → («as».flatMap AV.cells).length = «as».length * esz
  | [], _ => by simp
  | a :: «as», h => by
    rw [List.flatMap_cons, List.length_append, h a (List.mem_cons_self ..), flat_len (fun b hb => h b (List.mem_cons_of_mem _ hb)), List.length_cons, Nat.add_mul]; omega
theorem Lay.of_row {G : Gh} {esz : Nat} {«as» : List AV} {arr : Array Value} (h : ∀ a ∈ «as», a.cells.length = esz) (hr : Row G arr («as».flatMap AV.cells)) : Lay G esz «as» arr.toList := by
  refine ⟨fun i e he => h e (List.mem_of_getElem? he), fun i e j c he hj => ?_⟩
  have hlen := h e (List.mem_of_getElem? he)
  have hj' := (List.getElem?_eq_some_iff.1 hj).1
  have := flat_get h i j e he (by omega)
  obtain ⟨h1, h2⟩ := hr.2 (i * esz + j) c (by rw [this]; exact hj)
  refine ⟨h1, ?_⟩
  rwa [List.getD_eq_getElem?_getD, Array.getElem?_toList, ← Array.getD_eq_getD_getElem?]

/-- A slice type: its elements' type, how many cells an element has, how many bytes, its zero value's cells. -/
def se (P : Program) (t : TypeId) : Option (Nat × Nat × Nat) :=
  match P.underlying t with
  | some (.slice e) => match P.info? e with
    | some i => match i.zero with
      | some z => if z.cells.size = i.size ∧ 0 < i.size then some (e, i.size, i.bytes) else none
      | none => none
    | none => none
  | _ => none
theorem se_run {P : Program} {t : TypeId} {e n b : Nat} (h : se P t = some (e, n, b)) : ∃ i z, P.underlying t = some (.slice e) ∧ P.info? e = some i ∧ i.zero = some z ∧ z.cells.size = n ∧ i.size = n ∧ i.bytes = b ∧ 0 < n := by
  unfold se at h
  split at h
  · rename_i e' he
    split at h
    · rename_i i hi
      split at h
      · rename_i z hz
        split at h
        · rename_i hc
          simp only [Option.some.injEq, Prod.mk.injEq] at h
          obtain ⟨rfl, rfl, rfl⟩ := h
          exact ⟨i, z, he, hi, hz, hc.1, rfl, rfl, hc.2⟩
        · cases h
      · cases h
    · cases h
  · cases h
section
variable {P : Program} {N : Nat} {s : St} {d : Nat} {ty : TypeId} {pos : String} {af : Array Edge} {g : Option (Nat × Bool)}
/-- What a literal makes. -/
theorem run_lit {E : Ent} {G : Gh} {L : Loc} {a : Act} {w : World} {t : St} (hr : Rel E N G L a w t) {t1 el esz by_ : Nat} {ps : List (Nat × Operand)} {«as» zs : List AV} (ht : se P t1 = some (el, esz, by_)) (hz : zeroA P el = some zs) (hR : Reads (rds (ps.map (·.2))) s t)
    (hq : opps ps s = some (seqFrom 0 «as»)) (hok : okEls esz «as» = true) (hlen : «as».length * esz ≤ 16777216) :
    ∃ arr : Array Value, (Instr.buildSlice t1 «as».length (ps.toArray.map fun (i, x) => (i, a.eval x))).run P w = .ok (.slice (some ⟨w.heap.size, 0, none⟩) «as».length «as».length) (w.alloc (.cells arr el)) ∧ arr.size = «as».length * esz ∧ Lay G esz «as» arr.toList := by
  obtain ⟨i, z, hu, hi, hzz, hzs, hsz, hby, hpos⟩ := se_run ht
  have hparts := opps_sound hr hR hq
  have hmem := okEls_mem hok
  unfold zeroA at hz
  rw [hi] at hz
  simp only [hzz] at hz
  obtain ⟨h1, h2⟩ := cavs_sound G hz
  have hzl : zs.length = esz := by rw [← h1]; simpa using hzs
  let cells0 : Array Value := (Array.range («as».length * esz)).map (z.cells[· % z.cells.size]!)
  let cs0 : List AV := (List.range («as».length * esz)).map fun q => zs.getD (q % esz) .junk
  have hrow : Row G cells0 cs0 := by
    refine ⟨by simp [cells0, cs0], fun j x e => ?_⟩
    have hj : j < «as».length * esz := by have := (List.getElem?_eq_some_iff.1 e).1; simpa [cs0] using this
    have hjm : j % esz < esz := Nat.mod_lt _ hpos
    have hx : zs[j % esz]? = some x := by
      simp only [cs0, List.getElem?_map, List.getElem?_range hj, Option.map_some, Option.some.injEq] at e
      rw [← e, List.getD_eq_getElem?_getD, List.getElem?_eq_getElem (by omega)]; rfl
    obtain ⟨q1, q2⟩ := h2 _ x hx
    refine ⟨q1, ?_⟩
    have : cells0.getD j undef = z.cells.toList.getD (j % esz) undef := by
      have hj2 : j % esz < z.cells.size := by omega
      have hj3 : j % z.cells.size < z.cells.size := by rw [hzs]; exact hjm
      have hj4 : j < cells0.size := by simpa [cells0] using hj
      have e1 : cells0[j] = z.cells[j % esz] := by
        simp only [cells0, Array.getElem_map, Array.getElem_range, hzs]
        exact getElem!_pos z.cells (j % esz) hj2
      rw [Array.getD_eq_getD_getElem?, List.getD_eq_getElem?_getD, Array.getElem?_eq_getElem hj4, e1, Array.getElem?_toList, Array.getElem?_eq_getElem hj2]
    rw [this]; exact q2
  have hfill := fill_row hparts (place := fun i => some (i * esz, esz)) hrow (r := «as».flatMap AV.cells) (by
    have := afill_seq esz «as» 0 [] cs0 (by simp) (by simp [cs0]) hmem
    simp only [List.nil_append] at this
    rw [this]
    simp [cs0])
  obtain ⟨arr, hf, hra⟩ := hfill
  have hall : ∀ a ∈ «as», a.cells.length = esz := fun a ha => (hmem a ha).1
  refine ⟨arr, ?_, by rw [hra.1, flat_len hall], Lay.of_row hall hra⟩
  have hle : ¬ («as».length * esz > 2 ^ 24) := by omega
  have hf2 : Instr.fill (fun i => some (i * esz, esz)) ((Array.range («as».length * esz)).map (z.cells[· % z.cells.size]!)) (List.map (fun (x : Nat × Operand) => (x.1, a.eval x.2)) ps) = some arr := by
    simpa [cells0] using hf
  by_cases h0 : «as».length * esz = 0
  · have hf3 : Instr.fill (fun i => some (i * esz, esz)) #[] (List.map (fun (x : Nat × Operand) => (x.1, a.eval x.2)) ps) = some arr := by
      have : (Array.range («as».length * esz)).map (z.cells[· % z.cells.size]!) = #[] := by simp [h0]
      rw [this] at hf2; exact hf2
    simp only [Instr.buildSlice, Sem.run_bind, run_underlying hu, Result.andThen_ok, sizeOf, typeInfo, run_program, hi, hsz, Sem.run_pure]
    rw [if_neg hle]
    simp only [h0, if_true, Sem.run_pure, Result.andThen_ok, List.map_toArray]
    simp only [Array.range_zero', Array.map_empty]
    rw [hf3]
    simp [newRow]
  · simp only [Instr.buildSlice, Sem.run_bind, run_underlying hu, Result.andThen_ok, sizeOf, typeInfo, run_program, hi, hsz, Sem.run_pure]
    rw [if_neg hle]
    simp only [h0, if_false, Sem.run_pure, Sem.run_bind, Result.andThen_ok, List.map_toArray, zeroValue, typeInfo, run_program, hi, hzz]
    rw [hf2]
    simp [newRow]
/-- []T{..}, known from the first -/
theorem op_lit {t1 el esz by_ n : Nat} {ps : List (Nat × Operand)} {«as» zs : List AV} (hN : d < N) (ht : se P t1 = some (el, esz, by_)) (hz : zeroA P el = some zs) (hq : opps ps s = some (seqFrom 0 «as»)) (hn : «as».length = n) (hok : okEls esz «as» = true) (hlen : «as».length * esz ≤ 16777216) :
    OpOK P N ⟨some d, .buildSlice t1 n ps.toArray, ty, pos, af, g⟩ s (rds (ps.map (·.2))) [(.s d, .sv (.v (.sl «as»)))] := by
  subst hn
  intro t hR E G L a w hr K Q hK
  obtain ⟨arr, hrun, hsz, hL⟩ := run_lit hr ht hz hR hq hok hlen
  obtain ⟨hle, hr1⟩ := hr.known (World.grownBy_alloc w (.cells arr el) none) (Nat.le_refl _) (cells := arr.toList) (fun o v e => by
    rw [cell_of_row (w.alloc (.cells arr el)) w.heap.size o arr el (0, 0) (heap_alloc_new w _)]; simpa using e)
  have hV : V (G.add w.heap.size arr.toList) (.slice (some ⟨w.heap.size, 0, none⟩) «as».length «as».length) (.sl «as») := by
    refine V.slN _ 0 _ esz «as» (fun i j => arr.toList.getD (i * esz + j) undef) (Nat.le_refl _) hL.1 ?_ (fun i e j c a b => (hL.2 i e j c a b).1) (fun i e j c a b => ((hL.mono hle).2 i e j c a b).2)
    intro i e j c he hj
    have hi := (List.getElem?_eq_some_iff.1 he).1
    have hj' := (List.getElem?_eq_some_iff.1 hj).1
    rw [hL.1 i e he] at hj'
    have hb := lay_bound (j := j) hi hj'
    have hl : i * esz + j < arr.toList.length := by rw [Array.length_toList, hsz]; exact hb
    rw [Nat.zero_add, add_kn, List.getElem?_eq_getElem hl]
    simp [List.getD_eq_getElem?_getD, List.getElem?_eq_getElem hl]
  unfold Oper.wp
  have he : (execOp a.eval ⟨some d, .buildSlice t1 «as».length ps.toArray, ty, pos, af, g⟩).run P w = .ok (.value (.slice (some ⟨w.heap.size, 0, none⟩) «as».length «as».length)) (w.alloc (.cells arr el)) := by
    simp only [execOp, Sem.run_bind, hrun, Result.andThen_ok, Sem.run_pure]
  rw [he]
  exact hK _ _ _ L (hr1.put d hN _ (.v (.sl «as»)) hV)
/-- []T{..}, to be appended to, or to be written -/
theorem op_litq (m : Bool) {t1 el esz by_ n : Nat} {ps : List (Nat × Operand)} {«as» zs : List AV} (hN : d < N) (ht : se P t1 = some (el, esz, by_)) (hz : zeroA P el = some zs) (hq : opps ps s = some (seqFrom 0 «as»)) (hn : «as».length = n) (hok : okEls esz «as» = true) (hlen : «as».length * esz ≤ 16777216) (hd : get s (.t d) = none) :
    OpOK P N ⟨some d, .buildSlice t1 n ps.toArray, ty, pos, af, g⟩ s (rds (ps.map (·.2)) ++ [.t d]) [(.s d, .sv (tokv m d «as»)), (.t d, .tk m el esz «as»)] := by
  subst hn
  intro t hR E G L a w hr K Q hK
  obtain ⟨arr, hrun, hsz, hL⟩ := run_lit hr ht hz hR.left hq hok hlen
  obtain ⟨_, _, _, _, _, _, _, _, hpos⟩ := se_run ht
  have hd' : get t (.t d) = none := by rw [hR (.t d) (by simp)]; exact hd
  have hm : «as».length ≤ maxLen := by
    have : «as».length ≤ «as».length * esz := Nat.le_mul_of_pos_right _ hpos
    simp only [maxLen]; omega
  have hown := World.ownsRow_lit (base := 0) (e := el) (size := esz) w arr «as».length (Nat.zero_le _) hm hsz
  obtain ⟨G', hV, hle, hr1⟩ := hr.newtok m (v1 := .slice (some ⟨w.heap.size, 0, none⟩) «as».length «as».length) (row := none) hd' hpos (World.grownBy_alloc w (.cells arr el) none) (by simp) (fun b hb => .inr (by simp [Value.ownBlock] at hb; omega)) hown hL (fun b hb o v e => by
    have : b = w.heap.size := by simpa [Value.ownBlock] using hb.symm
    have := hr.knlt e; omega)
  unfold Oper.wp
  have he : (execOp a.eval ⟨some d, .buildSlice t1 «as».length ps.toArray, ty, pos, af, g⟩).run P w = .ok (.value (.slice (some ⟨w.heap.size, 0, none⟩) «as».length «as».length)) (w.alloc (.cells arr el)) := by
    simp only [execOp, Sem.run_bind, hrun, Result.andThen_ok, Sem.run_pure]
  rw [he]
  exact hK _ _ G' _ (hr1.put d hN _ (tokv m d «as») (tokv_ok hV (by simp [Loc.setTok]) hown))
theorem op_litt {t1 el esz by_ n : Nat} {ps : List (Nat × Operand)} {«as» zs : List AV} (hN : d < N) (ht : se P t1 = some (el, esz, by_)) (hz : zeroA P el = some zs) (hq : opps ps s = some (seqFrom 0 «as»)) (hn : «as».length = n) (hok : okEls esz «as» = true) (hlen : «as».length * esz ≤ 16777216) (hd : get s (.t d) = none) :
    OpOK P N ⟨some d, .buildSlice t1 n ps.toArray, ty, pos, af, g⟩ s (rds (ps.map (·.2)) ++ [.t d]) [(.s d, .sv (.ow d «as»)), (.t d, .tk false el esz «as»)] := op_litq false hN ht hz hq hn hok hlen hd
theorem op_littm {t1 el esz by_ n : Nat} {ps : List (Nat × Operand)} {«as» zs : List AV} (hN : d < N) (ht : se P t1 = some (el, esz, by_)) (hz : zeroA P el = some zs) (hq : opps ps s = some (seqFrom 0 «as»)) (hn : «as».length = n) (hok : okEls esz «as» = true) (hlen : «as».length * esz ≤ 16777216) (hd : get s (.t d) = none) :
    OpOK P N ⟨some d, .buildSlice t1 n ps.toArray, ty, pos, af, g⟩ s (rds (ps.map (·.2)) ++ [.t d]) [(.s d, .sv (.om d «as».length)), (.t d, .tk true el esz «as»)] := op_litq true hN ht hz hq hn hok hlen hd
/-- nil, to be appended to: under whatever number k that is free -/
theorem op_nilt {k el esz c : Nat} (hN : d < N) (hk : get s (.t k) = none) (hpos : 0 < esz) :
    OpOK P N ⟨some d, .assign (.const (.slice none 0 0)), ty, pos, af, g⟩ s [.t k] [(.s d, .sv (.ow k [])), (.t k, .tk false el esz [])] := by
  intro t hR E G L a w hr K Q hK
  have hd' : get t (.t k) = none := by rw [hR (.t k) (by simp)]; exact hk
  have hown := World.ownsRow_nil w 0 el esz
  obtain ⟨G', hV, hle, hr1⟩ := hr.newtok false (xs := []) (v1 := .slice none 0 0) (row := none) (el := el) (esz := esz) (cells := []) hd' hpos (w1 := w) ⟨rfl, rfl, rfl, Nat.le_refl _, fun _ _ _ => rfl⟩ (by simp) (fun b hb => by simp [Value.ownBlock] at hb) hown ⟨fun i e h => by simp at h, fun i e j c h => by simp at h⟩ (fun b hb => by simp [Value.ownBlock] at hb)
  have hput := hr1.put d hN (.slice none 0 0) (.ow k []) ⟨hV rfl, by simp [Loc.setTok]⟩
  unfold Oper.wp
  exact hK (.slice none 0 0) w G' _ hput
/-- make([]T, 0, c) -/
theorem op_mk0 {t1 el esz by_ : Nat} {x y : Operand} {kl kc : IntKind} {c : Int} (hN : d < N) (ht : se P t1 = some (el, esz, by_)) (hx : opv x s = some (.int kl 0)) (hy : opv y s = some (.int kc c)) (h0 : 0 ≤ c) (hc : c.toNat * by_ ≤ 281474976710656) (hc2 : c.toNat ≤ maxLen) (hd : get s (.t d) = none) :
    OpOK P N ⟨some d, .makeSlice t1 x y, ty, pos, af, g⟩ s (rd x ++ (rd y ++ [.t d])) [(.s d, .sv (.ow d [])), (.t d, .tk false el esz [])] := by
  intro t hR E G L a w hr K Q hK
  obtain ⟨i, z, hu, hi, hzz, hzs, hsz, hby, hpos⟩ := se_run ht
  have hd' : get t (.t d) = none := by rw [hR (.t d) (by simp)]; exact hd
  have h1 := V_int (opv_sound hr hR.left hx)
  have h2 := V_int (opv_sound hr hR.right.left hy)
  have hcc : c = (c.toNat : Int) := by omega
  obtain ⟨w1, hrun, hown, hg⟩ := run_make_own (P := P) w 0 t1 el i z esz hu hi hzz hsz kl kc c.toNat (by rw [hby, Nat.mul_comm]; exact hc) hc2 (Nat.zero_le _)
  obtain ⟨G', hV, hle, hr1⟩ := hr.newtok false (xs := []) (v1 := .slice (some ⟨w.heap.size, 0, none⟩) 0 c.toNat) (row := none) hd' hpos hg (by simp) (fun b hb => .inr (by simp [Value.ownBlock] at hb; omega)) hown ⟨fun i e h => by simp at h, fun i e j c h => by simp at h⟩ (fun b hb o v e => by
    have : b = w.heap.size := by simpa [Value.ownBlock] using hb.symm
    have := hr.knlt e; omega)
  unfold Oper.wp
  have he : (execOp a.eval ⟨some d, .makeSlice t1 x y, ty, pos, af, g⟩).run P w = .ok (.value (.slice (some ⟨w.heap.size, 0, none⟩) 0 c.toNat)) w1 := by
    rw [hcc] at h2
    simp only [execOp, Sem.run_bind, h1, h2, hrun, Result.andThen_ok, Sem.run_pure]
  rw [he]
  exact hK _ _ G' _ (hr1.put d hN _ (.ow d []) ⟨hV rfl, by simp [Loc.setTok]⟩)

/-- The cells of a list that is read, if it has any. -/
theorem V_sl_news {G : Gh} {w : World} (hk : KnOK G w) {v : Value} {ys : List AV} (h : V G v (.sl ys)) {esz : Nat} (hok : okEls esz ys = true) (hpos : 0 < esz) :
    (ys = [] ∧ ∃ A c, v = .slice A 0 c) ∨ ∃ ad c news, v = .slice (some ad) ys.length c ∧ news.length = ys.length * esz ∧ (∀ (j : Nat) u, news[j]? = some u → w.cell? (ad.add j) = some u) ∧ (∀ u ∈ news, u.oneCell' = true) ∧ Lay G esz ys news := by
  cases h with
  | slE A cap => exact .inl ⟨rfl, A, cap, rfl⟩
  | slN b off cap esz' _ vs hc he hkk hf hv =>
    by_cases h0 : ys = []
    · subst h0; exact .inl ⟨rfl, _, _, rfl⟩
    · have hel : ∀ (i : Nat) (e : AV), ys[i]? = some e → e.cells.length = esz := fun i e h => ((okEls_mem hok) e (List.mem_of_getElem? h)).1
      have hes : esz = esz' := by
        cases ys with
        | nil => exact absurd rfl h0
        | cons y ys => exact (hel 0 y rfl).symm.trans (he 0 y rfl)
      subst hes
      refine .inr ⟨⟨b, off, none⟩, cap, (List.range (ys.length * esz)).map (fun q => vs (q / esz) (q % esz)), rfl, by simp, ?_, ?_, ?_⟩
      · intro j u e
        have hj : j < ys.length * esz := by have := (List.getElem?_eq_some_iff.1 e).1; simpa using this
        simp only [List.getElem?_map, List.getElem?_range hj, Option.map_some, Option.some.injEq] at e
        subst e
        have hi : j / esz < ys.length := Nat.div_lt_of_lt_mul (by rw [Nat.mul_comm]; exact hj)
        have hm : j % esz < esz := Nat.mod_lt _ hpos
        have hl := hel _ _ (List.getElem?_eq_getElem hi)
        have := hk _ _ _ (hkk _ _ (j % esz) _ (List.getElem?_eq_getElem hi) (List.getElem?_eq_getElem (by omega)))
        rw [Addr.add_lit]
        have e2 : off + j / esz * esz + j % esz = off + j := by
          have := Nat.div_add_mod' j esz
          omega
        rwa [e2] at this
      · intro u hu
        obtain ⟨q, hq, rfl⟩ := List.mem_map.1 hu
        have hj : q < ys.length * esz := by simpa using hq
        have hi : q / esz < ys.length := Nat.div_lt_of_lt_mul (by rw [Nat.mul_comm]; exact hj)
        have hm : q % esz < esz := Nat.mod_lt _ hpos
        have hl := hel _ _ (List.getElem?_eq_getElem hi)
        exact (hv _ _ (q % esz) _ (List.getElem?_eq_getElem hi) (List.getElem?_eq_getElem (by omega))).oneCell (hf _ _ (q % esz) _ (List.getElem?_eq_getElem hi) (List.getElem?_eq_getElem (by omega)))
      · refine ⟨hel, fun i e j c he' hj => ⟨hf i e j c he' hj, ?_⟩⟩
        have hi := (List.getElem?_eq_some_iff.1 he').1
        have hj' := (List.getElem?_eq_some_iff.1 hj).1
        rw [hel i e he'] at hj'
        have hb := lay_bound (j := j) hi hj'
        have : ((List.range (ys.length * esz)).map (fun q => vs (q / esz) (q % esz))).getD (i * esz + j) undef = vs i j := by
          rw [List.getD_eq_getElem?_getD, List.getElem?_map, List.getElem?_range hb]
          simp only [Option.map_some, Option.getD_some]
          have e1 : (i * esz + j) / esz = i := by rw [Nat.mul_comm, Nat.mul_add_div hpos, Nat.div_eq_of_lt hj', Nat.add_zero]
          have e2 : (i * esz + j) % esz = j := by rw [Nat.mul_comm, Nat.mul_add_mod, Nat.mod_eq_of_lt hj']
          rw [e1, e2]
        rw [this]
        exact hv i e j c he' hj
theorem run_append_empty {base t ty e : Nat} {i : TypeInfo} {size : Nat} (ht : P.underlying t = some (.slice e)) (hi : P.info? e = some i) {w : World} {v : Value} {n : Nat} {xs : List Value} (hown : w.ownsRow base e size v n xs) (A : Option Addr) (c : Nat) :
    (Builtin.append_ #[t, t] ty #[v, .slice A 0 c]).run P w = .ok v w := by
  have hfc : ∀ (sz : Nat), (Builtin.firstCells sz 0 (.slice A 0 c)).run P w = .ok #[] w := by
    intro sz
    cases A <;> simp [Builtin.firstCells, loadCells, loadCellsFrom]
  rcases hown.2 with ⟨rfl, rfl⟩ | ⟨g, cap, cur, rfl, _, _, hnc, _⟩
  · simp [Builtin.append_, run_underlying ht, sizeOf, typeInfo, hi, Builtin.lenOf, hfc]
  · simp [Builtin.append_, run_underlying ht, sizeOf, typeInfo, hi, Builtin.lenOf, hfc, hnc, storeCells]
/-- What an append leaves, whatever made the run. -/
theorem grow_tok {E : Ent} {G : Gh} {L : Loc} {a : Act} {w : World} {t : St} (hr : Rel E N G L a w t) {k d el esz : Nat} {m : Bool} {xs ys : List AV} {v v1 : Value} {w1 : World} {cells news : List Value} (hk : get t (.t k) = some (.tk m el esz xs)) (hd : get t (.t d) = none)
    (hv : L.tok k = some v) (hown : w.ownsRow 0 el esz v xs.length cells) (hL : Lay G esz xs cells) (hpos : 0 < esz) (hkn : ∀ blk, v.ownBlock = some blk → ∀ o u, G.kn blk o = some u → m = false ∧ cells[o]? = some u)
    (ho1 : w1.ownsRow 0 el esz v1 (xs.length + ys.length) (cells ++ news)) (hg : w.grownBy w1 v.ownBlock) (hat : v1.ownBlock = v.ownBlock ∨ v1.ownBlock = some w.heap.size) (hcell : ∀ b, v.ownBlock = some b → ∀ o u, cells[o]? = some u → w1.cell? ⟨b, o, none⟩ = some u) (hL2 : Lay G esz ys news) :
    ∃ G', (m = false → V G' v1 (.sl (xs ++ ys))) ∧ G.le G' ∧ Rel E N G' (L.setTok d v1) a w1 ((.t d, .tk m el esz (xs ++ ys)) :: (.t k, .gone) :: t) := by
  have hlen : cells.length = xs.length * esz := hown.1
  have hne : d ≠ k := by rintro rfl; rw [hk] at hd; cases hd
  have hr1 := hr.gonetok hk
  have hd1 : get ((.t k, .gone) :: t) (.t d) = none := by simp [get, Ne.symm hne]; exact hd
  have hmine : ∀ b, v.ownBlock = some b → owns t L (.t k) b := fun b hb => ⟨⟨m, el, esz, xs, hk⟩, v, hv, hb⟩
  refine hr1.newtok m (el := el) (esz := esz) (xs := xs ++ ys) (v1 := v1) (cells := cells ++ news) (row := v.ownBlock) hd1 hpos hg ?_ ?_ (by rw [List.length_append]; exact ho1) (hL.append hL2 hlen) ?_
  · intro b hb
    obtain ⟨q1, q2⟩ := owns_lt hr (hmine b hb)
    have hnob : ∀ id, G.ob id ≠ some b := by
      obtain ⟨v', hv', _, hm'⟩ := hr.tok k m el esz xs hk
      rw [hv] at hv'; cases hv'
      exact (hm' b hb).2
    refine ⟨q2, fun c hc => ?_, fun H g => hr.hdisj _ _ (hmine b hb) H (by simpa [get] using g), hnob, fun o u e => hcell b hb o u (hkn b hb o u e).2⟩
    by_cases e : c = .t k
    · subst e; obtain ⟨⟨m, el, esz, xs, g⟩, _⟩ := hc; simp [get] at g
    · exact e (hr.disj c (.t k) b (owns_cons e hc) (hmine b hb))
  · intro b hb
    rcases hat with h | h
    · exact .inl (by rw [← h]; exact hb)
    · rw [h] at hb; cases hb; exact .inr (Nat.le_refl _)
  · intro b hb o u e
    rcases hat with h | h
    · rw [h] at hb
      obtain ⟨q1, q2⟩ := hkn b hb o u e
      refine ⟨q1, ?_⟩
      rw [List.getElem?_append_left (List.getElem?_eq_some_iff.1 q2).1]; exact q2
    · rw [h] at hb; cases hb
      have := hr.knlt e; omega
/-- append, run: in place or in a new block. -/
theorem run_app {base t ty el : Nat} {inf : TypeInfo} {z : Value} (ht : P.underlying t = some (.slice el)) (hi : P.info? el = some inf) (hz : inf.zero = some z) (hzs : z.cells.size = inf.size) {w : World} {v : Value} {n : Nat} {cells : List Value} (hown : w.ownsRow base el inf.size v n cells)
    (ad : Addr) (m c : Nat) (news : List Value) (hl : news.length = m * inf.size) (hnews : ∀ (j : Nat) u, news[j]? = some u → w.cell? (ad.add j) = some u) (h1 : ∀ u ∈ news, u.oneCell' = true) (h0 : 0 < m) (hpos : 0 < inf.size)
    (h63 : n + m ≤ 9223372036854775807) (hb : (n + m) * inf.bytes ≤ 140737488355328) (hbase : base ≤ w.heap.size) :
    ∃ v1 w1, (Builtin.append_ #[t, t] ty #[v, .slice (some ad) m c]).run P w = .ok v1 w1 ∧ w1.ownsRow base el inf.size v1 (n + m) (cells ++ news) ∧ w.grownBy w1 v.ownBlock ∧ (v1.ownBlock = v.ownBlock ∨ v1.ownBlock = some w.heap.size) ∧
      (∀ b, v.ownBlock = some b → ∀ o u, cells[o]? = some u → w1.cell? ⟨b, o, none⟩ = some u) := by
  have hm63 : n + m ≤ maxLen := by simp only [maxLen]; omega
  have hlen : (cells ++ news).length = (n + m) * inf.size := by rw [List.length_append, hown.1, hl, Nat.add_mul]
  have fresh : ∀ cap0 row, (w.drew.alloc (.cells (cells.toArray ++ news.toArray ++ Builtin.zeroCells z.cells (grownCap w (n + m) cap0 el - (n + m))) el)).ownsRow base el inf.size (.slice (some ⟨w.heap.size, 0, none⟩) (n + m) (grownCap w (n + m) cap0 el)) (n + m) (cells ++ news) ∧
      w.grownBy (w.drew.alloc (.cells (cells.toArray ++ news.toArray ++ Builtin.zeroCells z.cells (grownCap w (n + m) cap0 el - (n + m))) el)) row := by
    intro cap0 row
    have hge := grownCap_ge w (n + m) cap0 el
    refine ⟨⟨hlen, .inr ⟨w.heap.size, _, _, rfl, hbase, heap_alloc_new w.drew _, hge, grownCap_le_maxLen w _ _ _ hm63, ?_, ?_⟩⟩, rfl, rfl, rfl, by simp, fun k hk _ => Below.heap_alloc w.drew _ k hk⟩
    · have hc := hown.1
      simp only [Array.size_append, List.size_toArray, size_zeroCells, hzs, hc, hl]
      rw [← Nat.add_mul, ← Nat.add_mul]
      congr 1; omega
    · rw [← hlen]
      simp only [Array.toList_append, List.toList_toArray]
      exact List.take_left
  rcases hown.2 with ⟨rfl, rfl⟩ | ⟨q, cap, cur, rfl, hq, hh, hnc, hcm, hcs, htake⟩
  · have hce : cells = [] := List.eq_nil_of_length_eq_zero (by simpa using hown.1)
    subst hce
    have hr := run_append_nil (P := P) w t ty el inf z ht hi hz ad m c news hl hnews h0 (by omega) (by simp only [Nat.zero_add] at hb; omega)
    have hf := fresh 0 (Value.ownBlock (.slice none 0 0))
    simp only [Nat.zero_add, List.nil_append] at hf hr ⊢
    have e0 : (#[] : Array Value) ++ news.toArray = news.toArray := by simp
    rw [e0] at hf
    exact ⟨_, _, hr, hf.1, hf.2, .inr rfl, fun b hb => by simp [Value.ownBlock] at hb⟩
  · by_cases hroom : n + m ≤ cap
    · have hfit : n * inf.size + news.length ≤ cur.size := by rw [hl, hcs, ← Nat.add_mul]; exact Nat.mul_le_mul_right _ hroom
      have hr := run_append_room (P := P) w t ty el inf ht hi q n cap cur hh ad m c news hl hnews h1 hroom hfit
      have ho1 : (w.setRow q (cur.toList.take (n * inf.size) ++ news ++ cur.toList.drop (n * inf.size + news.length)).toArray).ownsRow base el inf.size (.slice (some ⟨q, 0, none⟩) (n + m) cap) (n + m) (cells ++ news) := by
        refine ⟨hlen, .inr ⟨q, cap, _, rfl, hq, setRow_heap w q cur _ el _ hh, hroom, hcm, ?_, ?_⟩⟩
        · simp only [List.size_toArray, List.length_append, List.length_take, List.length_drop, Array.length_toList]; omega
        · have e : cur.toList.take (n * inf.size) ++ news = cells ++ news := by rw [htake]
          show List.take ((n + m) * inf.size) (cur.toList.take (n * inf.size) ++ news ++ cur.toList.drop (n * inf.size + news.length)) = cells ++ news
          rw [e, ← hlen]
          exact List.take_left
      refine ⟨_, _, hr, ho1, ⟨rfl, rfl, rfl, by simp, fun k _ hk => setRow_other w q k _ (fun e => hk (by simp [Value.ownBlock, e]))⟩, .inl rfl, fun b hb o u e => ?_⟩
      have := ho1.cells (g := b) hb o u (by rw [List.getElem?_append_left (List.getElem?_eq_some_iff.1 e).1]; exact e)
      rwa [Addr.add_lit, Nat.zero_add] at this
    · have hr := run_append_grow (P := P) w t ty el inf z ht hi hz ⟨q, 0, none⟩ n cap cells hown.1 (hown.cells (g := q) rfl) ad m c news hl hnews (by omega) (by omega) (growslice_fits (by omega) hb)
      have hf := fresh cap (Value.ownBlock (.slice (some ⟨q, 0, none⟩) n cap))
      refine ⟨_, _, hr, hf.1, hf.2, .inr rfl, fun b hb o u e => ?_⟩
      have h2 := hown.cells (g := b) hb o u e
      rw [Addr.add_lit, Nat.zero_add] at h2
      have hlt := World.block_lt_of_cell? w _ h2
      rw [World.cell?_of_block (w := w) (Below.heap_alloc w.drew _ b hlt)]
      exact h2
/-- What is known of a row of one's own. -/
theorem row_kn {G : Gh} {m : Bool} {esz : Nat} {xs : List AV} {cells : List Value} {blk : Nat} (hl : cells.length = xs.length * esz) (h : match m with
      | true => ∀ o, G.kn blk o = none
      | false => (∀ o, o < xs.length * esz → G.kn blk o = cells[o]?) ∧ ∀ o, xs.length * esz ≤ o → G.kn blk o = none) : ∀ o u, G.kn blk o = some u → m = false ∧ cells[o]? = some u := by
  intro o u e
  cases m with
  | true => rw [h o] at e; cases e
  | false =>
    refine ⟨rfl, ?_⟩
    by_cases hlt : o < xs.length * esz
    · rw [← h.1 o hlt]; exact e
    · rw [h.2 o (by omega)] at e; cases e
/-- append(x, y...) -/
theorem op_apq (m : Bool) {t1 el esz by_ : Nat} {x y : Operand} {k : Nat} {xs ys : List AV} (hN : d < N) (ht : se P t1 = some (el, esz, by_)) (hx : opd x s = some (tokv m k xs)) (hk : get s (.t k) = some (.tk m el esz xs)) (hy : opv y s = some (.sl ys)) (hok : okEls esz ys = true) (hd : get s (.t d) = none)
    (hb : (xs.length + ys.length) * by_ ≤ 140737488355328) (h63 : xs.length + ys.length ≤ 9223372036854775807) :
    OpOK P N ⟨some d, .call { callee := .builtin .append, args := #[x, y], argTypes := #[t1, t1] }, ty, pos, af, g⟩ s (rd x ++ (rd y ++ [.t k, .t d])) [(.s d, .sv (tokv m d (xs ++ ys))), (.t d, .tk m el esz (xs ++ ys)), (.t k, .gone)] := by
  intro t hR E G L a w hr K Q hK
  obtain ⟨i, z, hu, hi, hzz, hzs, hsz, hby, hpos⟩ := se_run ht
  subst hsz
  subst hby
  have hk' : get t (.t k) = some (.tk m el i.size xs) := by rw [hR (.t k) (by simp)]; exact hk
  have hd' : get t (.t d) = none := by rw [hR (.t d) (by simp)]; exact hd
  have hVx := opd_sound hr hR.left hx
  have hVy := opv_sound hr hR.right.left hy
  obtain ⟨v, hv, ⟨cells, hV, hown, _, hLx, hkn0⟩, hmay⟩ := hr.tok k m el i.size xs hk'
  have hkn : ∀ blk, v.ownBlock = some blk → ∀ o u, G.kn blk o = some u → m = false ∧ cells[o]? = some u := fun blk e => row_kn hown.1 (hkn0 blk e)
  have hav : a.eval x = v := by
    cases m with
    | false => have hvk := hVx.2; rw [hvk] at hv; cases hv; rfl
    | true => have hvk := hVx.1; rw [hvk] at hv; cases hv; rfl
  have hclen := hown.1
  unfold Oper.wp
  rcases V_sl_news hr.kn hVy hok hpos with ⟨rfl, A, c, hay⟩ | ⟨ad, c, news, hay, hnl, hnews, hone, hLy⟩
  · have he : (execOp a.eval ⟨some d, .call { callee := .builtin .append, args := #[x, y], argTypes := #[t1, t1] }, ty, pos, af, g⟩).run P w = .ok (.value v) w := by
      have := run_append_empty (P := P) (ty := ty) hu hi hown A c
      simp only [execOp, resolve, invoke, builtin, Sem.run_bind, Sem.run_pure, Result.andThen_ok, List.map_toArray, List.map_cons, List.map_nil, hav, hay, this]
    rw [he]
    obtain ⟨G', hV', hle, hr'⟩ := grow_tok hr (ys := []) (v1 := v) (w1 := w) (news := []) hk' hd' hv hown hLx hpos hkn (by simpa using hown) ⟨rfl, rfl, rfl, Nat.le_refl _, fun _ _ _ => rfl⟩ (.inl rfl) (fun b hb o u e => by
      have h2 := hown.cells (g := b) hb o u e
      rwa [Addr.add_lit, Nat.zero_add] at h2) ⟨fun i e h => by simp at h, fun i e j c h => by simp at h⟩
    exact hK _ _ G' _ (hr'.put d hN _ (tokv m d (xs ++ [])) (tokv_ok hV' (by simp [Loc.setTok]) (by simpa using hown)))
  · by_cases h0 : ys = []
    · subst h0
      have he : (execOp a.eval ⟨some d, .call { callee := .builtin .append, args := #[x, y], argTypes := #[t1, t1] }, ty, pos, af, g⟩).run P w = .ok (.value v) w := by
        have := run_append_empty (P := P) (ty := ty) hu hi hown (some ad) c
        simp only [List.length_nil] at hay
        simp only [execOp, resolve, invoke, builtin, Sem.run_bind, Sem.run_pure, Result.andThen_ok, List.map_toArray, List.map_cons, List.map_nil, hav, hay, this]
      rw [he]
      obtain ⟨G', hV', hle, hr'⟩ := grow_tok hr (ys := []) (v1 := v) (w1 := w) (news := []) hk' hd' hv hown hLx hpos hkn (by simpa using hown) ⟨rfl, rfl, rfl, Nat.le_refl _, fun _ _ _ => rfl⟩ (.inl rfl) (fun b hb o u e => by
        have h2 := hown.cells (g := b) hb o u e
        rwa [Addr.add_lit, Nat.zero_add] at h2) ⟨fun i e h => by simp at h, fun i e j c h => by simp at h⟩
      exact hK _ _ G' _ (hr'.put d hN _ (tokv m d (xs ++ [])) (tokv_ok hV' (by simp [Loc.setTok]) (by simpa using hown)))
    · have hm : 0 < ys.length := by cases ys with | nil => exact absurd rfl h0 | cons a l => simp
      obtain ⟨v1, w1, hrun, ho1, hg, hat, hcell⟩ := run_app (ty := ty) hu hi hzz hzs hown ad ys.length c news hnl hnews hone hm hpos h63 hb (Nat.zero_le _)
      have he : (execOp a.eval ⟨some d, .call { callee := .builtin .append, args := #[x, y], argTypes := #[t1, t1] }, ty, pos, af, g⟩).run P w = .ok (.value v1) w1 := by
        simp only [execOp, resolve, invoke, builtin, Sem.run_bind, Sem.run_pure, Result.andThen_ok, List.map_toArray, List.map_cons, List.map_nil, hav, hay, hrun]
      rw [he]
      obtain ⟨G', hV', hle, hr'⟩ := grow_tok hr hk' hd' hv hown hLx hpos hkn ho1 hg hat hcell hLy
      exact hK _ _ G' _ (hr'.put d hN _ (tokv m d (xs ++ ys)) (tokv_ok hV' (by simp [Loc.setTok]) (by rw [List.length_append]; exact ho1)))
theorem op_app {t1 el esz by_ : Nat} {x y : Operand} {k : Nat} {xs ys : List AV} (hN : d < N) (ht : se P t1 = some (el, esz, by_)) (hx : opd x s = some (.ow k xs)) (hk : get s (.t k) = some (.tk false el esz xs)) (hy : opv y s = some (.sl ys)) (hok : okEls esz ys = true) (hd : get s (.t d) = none)
    (hb : (xs.length + ys.length) * by_ ≤ 140737488355328) (h63 : xs.length + ys.length ≤ 9223372036854775807) :
    OpOK P N ⟨some d, .call { callee := .builtin .append, args := #[x, y], argTypes := #[t1, t1] }, ty, pos, af, g⟩ s (rd x ++ (rd y ++ [.t k, .t d])) [(.s d, .sv (.ow d (xs ++ ys))), (.t d, .tk false el esz (xs ++ ys)), (.t k, .gone)] := op_apq false hN ht hx hk hy hok hd hb h63
/-- append to a row that may be written -/
theorem op_apm {t1 el esz by_ : Nat} {x y : Operand} {k n : Nat} {xs ys : List AV} (hN : d < N) (ht : se P t1 = some (el, esz, by_)) (hx : opd x s = some (.om k n)) (hk : get s (.t k) = some (.tk true el esz xs)) (hn : n = xs.length) (hy : opv y s = some (.sl ys)) (hok : okEls esz ys = true) (hd : get s (.t d) = none)
    (hb : (xs.length + ys.length) * by_ ≤ 140737488355328) (h63 : xs.length + ys.length ≤ 9223372036854775807) :
    OpOK P N ⟨some d, .call { callee := .builtin .append, args := #[x, y], argTypes := #[t1, t1] }, ty, pos, af, g⟩ s (rd x ++ (rd y ++ [.t k, .t d])) [(.s d, .sv (.om d (xs ++ ys).length)), (.t d, .tk true el esz (xs ++ ys)), (.t k, .gone)] := by
  subst hn
  exact op_apq true hN ht hx hk hy hok hd hb h63
end
end Go.Proofs.YthoncmadikifnaaDoor.X
