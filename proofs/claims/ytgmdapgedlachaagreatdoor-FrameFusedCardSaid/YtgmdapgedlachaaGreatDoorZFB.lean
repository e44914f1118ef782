/- The program logic's rules: slices that are built, made and appended to. No condition. -/
import Derived.Test.YtgmdapgedlachaaGreatDoorZFA
import Derived.Laws.RangeString
import Derived.Laws.CopyRow
import Derived.Laws.IdiomCopy
import Derived.Laws.Cover3
set_option linter.unusedVariables false
set_option linter.unusedSimpArgs false
namespace Go.Proofs.YtgmdapgedlachaaGreatDoor.X
open Go Go.RowKit

theorem pq {G : Gh} {b o : Nat} {cells : List Value} : (G.add b cells).kn b o = cells[o]? := by simp [Gh.add]

theorem Rel.known {E : eB} {N : Nat} {G : Gh} {L : Loc} {a : Act} {w : World} {s : St} (h : Rel E N G L a w s) {w1 : World} (hg : w.grownBy w1 none) {b : Nat} (hb : w.heap.size ≤ b) {cells : List Value} (hc : ∀ o v, cells[o]? = some v → w1.cell? ⟨b, o, none⟩ = some v) :
  G.le (G.add b cells) ∧ Rel E N (G.add b cells) L a w1 s := by
 have hnone : ∀ o, G.kn b o = none := fun o => by
  cases e : G.kn b o with
  | none => rfl
  | some v => have := h.zo e; omega
 have hle : G.le (G.add b cells) := Gh.tY (fun o v e => by rw [hnone o] at e; cases e)
 have hkn2 : ∀ c o, c ≠ b → (G.add b cells).kn c o = G.kn c o := fun c o e => by simp [Gh.add, e]
 have hother : ∀ c blk, owns s L c blk → w1.heap[blk]? = w.heap[blk]? ∧ blk ≠ b := fun c blk hc' => by
  obtain ⟨hlt, _⟩ := iy h hc'
  exact ⟨hg.block blk hlt (by simp), by omega⟩
 obtain ⟨H0, gH, hokH, hmayH⟩ := h.heap
 have hfb : ∀ c, aa G H0 w c → c ≠ b := fun c hc => by have := (hokH.aa hc).1; omega
 have hst := hokH.stay (w' := w1) hle rfl (fun c hc o => (hkn2 c o (hfb c hc)).trans ((hokH.aa hc).2 o)) (fun c hc => hg.block c (hokH.aa hc).1 (by simp)) hg.size
 refine ⟨hle, h.size, h.defs, h.ge, ?_, ?_, h.obs, h.obn, ?_, fun n x g => (h.slot n x g).mono hle, ?_, ?_, h.disj, ⟨H0, gH, hst.1, fun c hc => hmayH c ((hst.2 c).1 hc)⟩, ?_, h.nobox, h.notok⟩
 ·intro c o v e
  by_cases hcb : c = b
  ·subst hcb; rw [pq] at e; exact hc o v e
  ·rw [hkn2 c o hcb] at e
   rw [World.cell?_of_block (w := w) (hg.block c (h.zo e) (by simp))]
   exact h.kn c o v e
 ·intro c o hlt hm
  rw [hkn2 c o (by have := h.iA; omega)]
  exact h.old c o hlt hm
 ·exact ⟨hg.os.trans h.fr.os, hg.tape.trans h.fr.tape, hg.output.trans h.fr.output, Nat.le_trans h.fr.size hg.size, fun k hk hno => by
   rw [hg.block k (Nat.lt_of_lt_of_le hk h.iA) (by simp)]; exact h.fr.block k hk hno⟩
 ·intro k cv g hl
  have how : ∀ b, L.box k = some b → owns s L (.b k) b := fun b hb => ⟨⟨cv, g, hl⟩, hb⟩
  exact (h.box k cv g hl).stay hle (fun _ _ e => .inl ⟨_, e⟩) (fun b hb => (hother _ b (how b hb)).1) (fun b hb o => hkn2 b o (hother _ b (how b hb)).2)
 ·intro k m el esz xs g
  have how : ∀ v b, L.tok k = some v → v.ownBlock = some b → owns s L (.t k) b := fun v b hv hb => ⟨⟨_, _, _, _, g⟩, v, hv, hb⟩
  exact (h.tok k m el esz xs g).stay hle (fun _ _ e => .inl ⟨_, e⟩) (fun v b hv hb => (hother _ b (how v b hv hb)).1) (fun v b hv hb o => hkn2 b o (hother _ b (how v b hv hb)).2)
 ·intro c blk hc' H2 g2 e2
  rw [gH] at g2; cases g2
  exact h.hdisj c blk hc' _ gH ((hst.2 blk).1 e2)
def w9 (m : Bool) (k : Nat) (xs : List AV) : Sv := match m with | false => .ow k xs | true => .om k xs.length
theorem ql {G : Gh} {L : Loc} {m : Bool} {k el esz : Nat} {xs : List AV} {v : Value} {w : World} {cells : List Value} {base : Nat} (hV : m = false → V G v (.sl xs)) (hl : L.tok k = some v) (ho : w.ownsRow base el esz v xs.length cells) : SV G L v (w9 m k xs) := by
 cases m with
 | false => exact ⟨hV rfl, hl⟩
 | true =>
  refine ⟨hl, ?_⟩
  rcases ho.2 with ⟨rfl, h0⟩ | ⟨g, cap, cur, rfl, _⟩
  ·exact ⟨none, 0, by rw [h0]⟩
  ·exact ⟨_, _, rfl⟩

def eT : Nat → List AV → List (Nat × AV)
 | _, [] => []
 | k, a :: l => (k, a) :: eT (k + 1) l
def cg (esz : Nat) («as» : List AV) : Bool := «as».all fun a => a.cells.length == esz && (match a with | .tup _ => false | _ => true)
theorem jF {esz : Nat} {«as» : List AV} (h : cg esz «as» = true) : ∀ a ∈ «as», a.cells.length = esz ∧ ∀ vs, a ≠ .tup vs := by
 intro a ha
 have := List.all_eq_true.1 h a ha
 simp only [Bool.and_eq_true, beq_iff_eq] at this
 refine ⟨this.1, ?_⟩
 rintro vs rfl
 simp at this
theorem uu (esz : Nat) : ∀ («as» : List AV) (k : Nat) (pre zs : List AV), pre.length = k * esz → «as».length * esz ≤ zs.length → (∀ a ∈ «as», a.cells.length = esz ∧ ∀ vs, a ≠ .tup vs) →
  j8 (fun i => some (i * esz, esz)) (pre ++ zs) (eT k «as») = some (pre ++ «as».flatMap AV.cells ++ zs.drop («as».length * esz))
 | [], k, pre, zs, _, _, _ => by simp [eT, j8]
 | a :: «as», k, pre, zs, hp, hz, ha => by
  obtain ⟨h1, h2⟩ := ha a (List.mem_cons_self ..)
  have hz' : esz + «as».length * esz ≤ zs.length := by simp only [List.length_cons, Nat.add_mul, Nat.one_mul] at hz; omega
  have hc : a.cells.length = esz ∧ k * esz + esz ≤ (pre ++ zs).length := ⟨h1, by rw [List.length_append, hp]; omega⟩
  have hstep : j8 (fun i => some (i * esz, esz)) (pre ++ zs) (eT k (a :: «as»)) = j8 (fun i => some (i * esz, esz)) ((pre ++ a.cells) ++ zs.drop esz) (eT (k + 1) «as») := by
   have e1 : (pre ++ zs).take (k * esz) = pre := by rw [← hp]; simp
   have e2 : (pre ++ zs).drop (k * esz + esz) = zs.drop esz := by
    rw [← hp, List.drop_append]
    have : pre.drop (pre.length + esz) = [] := List.drop_eq_nil_of_le (by omega)
    rw [this]; simp
   simp only [eT, j8]
   rw [if_pos hc, e1, e2]
   all_goals (cases a <;> first | rfl | exact absurd rfl (h2 _))
  rw [hstep, uu esz «as» (k + 1) (pre ++ a.cells) (zs.drop esz) (by rw [List.length_append, hp, h1, Nat.add_mul, Nat.one_mul]) (by rw [List.length_drop]; omega) (fun b hb => ha b (List.mem_cons_of_mem _ hb))]
  have e3 : esz + «as».length * esz = («as».length + 1) * esz := by rw [Nat.add_mul, Nat.one_mul, Nat.add_comm]
  simp only [List.flatMap_cons, List.append_assoc, List.drop_drop, List.length_cons, e3]
theorem jZ {esz : Nat} : ∀ {«as» : List AV} (h : ∀ a ∈ «as», a.cells.length = esz) (i j : Nat) (e : AV), «as»[i]? = some e → j < esz → («as».flatMap AV.cells)[i * esz + j]? = e.cells[j]?
 | [], _, i, j, e, hi, _ => by simp at hi
 | a :: «as», h, 0, j, e, hi, hj => by
  simp at hi; subst hi
  have hl := h a (List.mem_cons_self ..)
  rw [List.flatMap_cons, List.getElem?_append_left (by omega), Nat.zero_mul, Nat.zero_add]
 | a :: «as», h, i + 1, j, e, hi, hj => by
  have := jZ (fun b hb => h b (List.mem_cons_of_mem _ hb)) i j e (by simpa using hi) hj
  have hl := h a (List.mem_cons_self ..)
  rw [List.flatMap_cons, List.getElem?_append_right (by rw [hl, Nat.add_mul]; omega), hl]
  rw [← this]
  congr 1
  rw [Nat.add_mul]; omega
theorem dC {esz : Nat} : ∀ {«as» : List AV}, (∀ a ∈ «as», a.cells.length = esz) → («as».flatMap AV.cells).length = «as».length * esz
 | [], _ => by simp
 | a :: «as», h => by
  rw [List.flatMap_cons, List.length_append, h a (List.mem_cons_self ..), dC (fun b hb => h b (List.mem_cons_of_mem _ hb)), List.length_cons, Nat.add_mul]; omega
theorem Lay.MK {G : Gh} {esz : Nat} {«as» : List AV} {arr : Array Value} (h : ∀ a ∈ «as», a.cells.length = esz) (hr : Row G arr («as».flatMap AV.cells)) : Lay G esz «as» arr.toList := by
 refine ⟨fun i e he => h e (List.mem_of_getElem? he), fun i e j c he hj => ?_⟩
 have hlen := h e (List.mem_of_getElem? he)
 have hj' := (List.getElem?_eq_some_iff.1 hj).1
 have := jZ h i j e he (by omega)
 obtain ⟨h1, h2⟩ := hr.2 (i * esz + j) c (by rw [this]; exact hj)
 refine ⟨h1, ?_⟩
 rwa [List.getD_eq_getElem?_getD, Array.getElem?_toList, ← Array.getD_eq_getD_getElem?]

def se (P : Program) (t : TypeId) : Option (Nat × Nat × Nat) :=
 match P.underlying t with
 | some (.slice e) => match P.info? e with
  | some i => match i.zero with
   | some z => if z.cells.size = i.size ∧ 0 < i.size then some (e, i.size, i.bytes) else none
   | none => none
  | none => none
 | _ => none
theorem nM {P : Program} {t : TypeId} {e n b : Nat} (h : se P t = some (e, n, b)) : ∃ i z, P.underlying t = some (.slice e) ∧ P.info? e = some i ∧ i.zero = some z ∧ z.cells.size = n ∧ i.size = n ∧ i.bytes = b ∧ 0 < n := by
 unfold se at h
 split at h
 ·rename_i e' he
  split at h
  ·rename_i i hi
   split at h
   ·rename_i z hz
    split at h
    ·rename_i hc
     simp only [Option.some.injEq, Prod.mk.injEq] at h
     obtain ⟨rfl, rfl, rfl⟩ := h
     exact ⟨i, z, he, hi, hz, hc.1, rfl, rfl, hc.2⟩
    ·cases h
   ·cases h
  ·cases h
 ·cases h
section
variable {P : Program} {N : Nat} {s : St} {d : Nat} {ty : TypeId} {pos : String} {af : Array Edge} {g : Option (Nat × Bool)}
theorem vR {E : eB} {G : Gh} {L : Loc} {a : Act} {w : World} {t : St} (hr : Rel E N G L a w t) {t1 el esz by_ : Nat} {ps : List (Nat × Operand)} {«as» zs : List AV} (ht : se P t1 = some (el, esz, by_)) (hz : cE P el = some zs) (hR : Reads (nO (ps.map (·.2))) s t)
  (hq : ld ps s = some (eT 0 «as»)) (hok : cg esz «as» = true) (hlen : «as».length * esz ≤ 16777216) :
  ∃ arr : Array Value, (Instr.buildSlice t1 «as».length (ps.toArray.map fun (i, x) => (i, a.eval x))).run P w = .ok (.slice (some ⟨w.heap.size, 0, none⟩) «as».length «as».length) (w.alloc (.cells arr el)) ∧ arr.size = «as».length * esz ∧ Lay G esz «as» arr.toList := by
 obtain ⟨i, z, hu, hi, hzz, hzs, hsz, hby, hpos⟩ := nM ht
 have hparts := lF hr hR hq
 have hmem := jF hok
 unfold cE at hz
 rw [hi] at hz
 simp only [hzz] at hz
 obtain ⟨h1, h2⟩ := j6 G hz
 have hzl : zs.length = esz := by rw [← h1]; simpa using hzs
 let cells0 : Array Value := (Array.range («as».length * esz)).map (z.cells[· % z.cells.size]!)
 let cs0 : List AV := (List.range («as».length * esz)).map fun q => zs.getD (q % esz) .junk
 have bw : Row G cells0 cs0 := by
  refine ⟨by simp [cells0, cs0], fun j x e => ?_⟩
  have hj : j < «as».length * esz := by have := (List.getElem?_eq_some_iff.1 e).1; simpa [cs0] using this
  have hjm : j % esz < esz := Nat.mod_lt _ hpos
  have hx : zs[j % esz]? = some x := by
   simp only [cs0, List.getElem?_map, List.getElem?_range hj, Option.map_some, Option.some.injEq] at e
   rw [← e, List.getD_eq_getElem?_getD, List.getElem?_eq_getElem (by omega)]; rfl
  obtain ⟨q1, q2⟩ := h2 _ x hx
  refine ⟨q1, ?_⟩
  have : cells0.getD j undef = z.cells.toList.getD (j % esz) undef := by
   have hj2 : j % esz < z.cells.size := by omega
   have hj3 : j % z.cells.size < z.cells.size := by rw [hzs]; exact hjm
   have hj4 : j < cells0.size := by simpa [cells0] using hj
   have e1 : cells0[j] = z.cells[j % esz] := by
    simp only [cells0, Array.getElem_map, Array.getElem_range, hzs]
    exact getElem!_pos z.cells (j % esz) hj2
   rw [Array.getD_eq_getD_getElem?, List.getD_eq_getElem?_getD, Array.getElem?_eq_getElem hj4, e1, Array.getElem?_toList, Array.getElem?_eq_getElem hj2]
  rw [this]; exact q2
 have hfill := tF hparts (place := fun i => some (i * esz, esz)) bw (r := «as».flatMap AV.cells) (by
  have := uu esz «as» 0 [] cs0 (by simp) (by simp [cs0]) hmem
  simp only [List.nil_append] at this
  rw [this]
  simp [cs0])
 obtain ⟨arr, hf, hra⟩ := hfill
 have hall : ∀ a ∈ «as», a.cells.length = esz := fun a ha => (hmem a ha).1
 refine ⟨arr, ?_, by rw [hra.1, dC hall], Lay.MK hall hra⟩
 have hle : ¬ («as».length * esz > 2 ^ 24) := by omega
 have hf2 : Instr.fill (fun i => some (i * esz, esz)) ((Array.range («as».length * esz)).map (z.cells[· % z.cells.size]!)) (List.map (fun (x : Nat × Operand) => (x.1, a.eval x.2)) ps) = some arr := by
  simpa [cells0] using hf
 by_cases h0 : «as».length * esz = 0
 ·have hf3 : Instr.fill (fun i => some (i * esz, esz)) #[] (List.map (fun (x : Nat × Operand) => (x.1, a.eval x.2)) ps) = some arr := by
   have : (Array.range («as».length * esz)).map (z.cells[· % z.cells.size]!) = #[] := by simp [h0]
   rw [this] at hf2; exact hf2
  simp only [Instr.buildSlice, Sem.run_bind, run_underlying hu, Result.andThen_ok, sizeOf, typeInfo, run_program, hi, hsz, Sem.run_pure]
  rw [if_neg hle]
  simp only [h0, if_true, Sem.run_pure, Result.andThen_ok, List.map_toArray]
  simp only [Array.range_zero', Array.map_empty]
  rw [hf3]
  simp [newRow]
 ·simp only [Instr.buildSlice, Sem.run_bind, run_underlying hu, Result.andThen_ok, sizeOf, typeInfo, run_program, hi, hsz, Sem.run_pure]
  rw [if_neg hle]
  simp only [h0, if_false, Sem.run_pure, Sem.run_bind, Result.andThen_ok, List.map_toArray, zeroValue, typeInfo, run_program, hi, hzz]
  rw [hf2]
  simp [newRow]
theorem FC {t1 el esz by_ n : Nat} {ps : List (Nat × Operand)} {«as» zs : List AV} (hN : d < N) (ht : se P t1 = some (el, esz, by_)) (hz : cE P el = some zs) (hq : ld ps s = some (eT 0 «as»)) (hn : «as».length = n) (hok : cg esz «as» = true) (hlen : «as».length * esz ≤ 16777216) :
  aW P N ⟨some d, .buildSlice t1 n ps.toArray, ty, pos, af, g⟩ s (nO (ps.map (·.2))) [(.s d, .sv (.v (.sl «as»)))] := by
 subst hn
 intro t hR E G L a w hr K Q hK
 obtain ⟨arr, hrun, hsz, hL⟩ := vR hr ht hz hR hq hok hlen
 obtain ⟨hle, hr1⟩ := hr.known (World.grownBy_alloc w (.cells arr el) none) (Nat.le_refl _) (cells := arr.toList) (fun o v e => by
  rw [cell_of_row (w.alloc (.cells arr el)) w.heap.size o arr el (0, 0) (heap_alloc_new w _)]; simpa using e)
 have hV : V (G.add w.heap.size arr.toList) (.slice (some ⟨w.heap.size, 0, none⟩) «as».length «as».length) (.sl «as») := by
  refine V.slN _ 0 _ esz «as» (fun i j => arr.toList.getD (i * esz + j) undef) (Nat.le_refl _) hL.1 ?_ (fun i e j c a b => (hL.2 i e j c a b).1) (fun i e j c a b => ((hL.mono hle).2 i e j c a b).2)
  intro i e j c he hj
  have hi := (List.getElem?_eq_some_iff.1 he).1
  have hj' := (List.getElem?_eq_some_iff.1 hj).1
  rw [hL.1 i e he] at hj'
  have hb := mh (j := j) hi hj'
  have hl : i * esz + j < arr.toList.length := by rw [Array.length_toList, hsz]; exact hb
  rw [Nat.zero_add, pq, List.getElem?_eq_getElem hl]
  simp [List.getD_eq_getElem?_getD, List.getElem?_eq_getElem hl]
 unfold Oper.wp
 have he : (execOp a.eval ⟨some d, .buildSlice t1 «as».length ps.toArray, ty, pos, af, g⟩).run P w = .ok (.value (.slice (some ⟨w.heap.size, 0, none⟩) «as».length «as».length)) (w.alloc (.cells arr el)) := by
  simp only [execOp, Sem.run_bind, hrun, Result.andThen_ok, Sem.run_pure]
 rw [he]
 exact hK _ _ _ L (hr1.put d hN _ (.v (.sl «as»)) hV)
theorem BB (m : Bool) {t1 el esz by_ n : Nat} {ps : List (Nat × Operand)} {«as» zs : List AV} (hN : d < N) (ht : se P t1 = some (el, esz, by_)) (hz : cE P el = some zs) (hq : ld ps s = some (eT 0 «as»)) (hn : «as».length = n) (hok : cg esz «as» = true) (hlen : «as».length * esz ≤ 16777216) (hd : get s (.t d) = none) :
  aW P N ⟨some d, .buildSlice t1 n ps.toArray, ty, pos, af, g⟩ s (nO (ps.map (·.2)) ++ [.t d]) [(.s d, .sv (w9 m d «as»)), (.t d, .tk m el esz «as»)] := by
 subst hn
 intro t hR E G L a w hr K Q hK
 obtain ⟨arr, hrun, hsz, hL⟩ := vR hr ht hz hR.left hq hok hlen
 obtain ⟨_, _, _, _, _, _, _, _, hpos⟩ := nM ht
 have hd' : get t (.t d) = none := by rw [hR (.t d) (by simp)]; exact hd
 have hm : «as».length ≤ maxLen := by
  have : «as».length ≤ «as».length * esz := Nat.le_mul_of_pos_right _ hpos
  simp only [maxLen]; omega
 have hown := World.ownsRow_lit (base := 0) (e := el) (size := esz) w arr «as».length (Nat.zero_le _) hm hsz
 obtain ⟨G', hV, hle, hr1⟩ := hr.vm m (v1 := .slice (some ⟨w.heap.size, 0, none⟩) «as».length «as».length) (row := none) hd' hpos (World.grownBy_alloc w (.cells arr el) none) (by simp) (fun b hb => .inr (by simp [Value.ownBlock] at hb; omega)) hown hL (fun b hb o v e => by
  have : b = w.heap.size := by simpa [Value.ownBlock] using hb.symm
  have := hr.zo e; omega)
 unfold Oper.wp
 have he : (execOp a.eval ⟨some d, .buildSlice t1 «as».length ps.toArray, ty, pos, af, g⟩).run P w = .ok (.value (.slice (some ⟨w.heap.size, 0, none⟩) «as».length «as».length)) (w.alloc (.cells arr el)) := by
  simp only [execOp, Sem.run_bind, hrun, Result.andThen_ok, Sem.run_pure]
 rw [he]
 exact hK _ _ G' _ (hr1.put d hN _ (w9 m d «as») (ql hV (by simp [Loc.dG]) hown))
theorem bD {t1 el esz by_ n : Nat} {ps : List (Nat × Operand)} {«as» zs : List AV} (hN : d < N) (ht : se P t1 = some (el, esz, by_)) (hz : cE P el = some zs) (hq : ld ps s = some (eT 0 «as»)) (hn : «as».length = n) (hok : cg esz «as» = true) (hlen : «as».length * esz ≤ 16777216) (hd : get s (.t d) = none) :
  aW P N ⟨some d, .buildSlice t1 n ps.toArray, ty, pos, af, g⟩ s (nO (ps.map (·.2)) ++ [.t d]) [(.s d, .sv (.ow d «as»)), (.t d, .tk false el esz «as»)] := BB false hN ht hz hq hn hok hlen hd
theorem Ez {t1 el esz by_ n : Nat} {ps : List (Nat × Operand)} {«as» zs : List AV} (hN : d < N) (ht : se P t1 = some (el, esz, by_)) (hz : cE P el = some zs) (hq : ld ps s = some (eT 0 «as»)) (hn : «as».length = n) (hok : cg esz «as» = true) (hlen : «as».length * esz ≤ 16777216) (hd : get s (.t d) = none) :
  aW P N ⟨some d, .buildSlice t1 n ps.toArray, ty, pos, af, g⟩ s (nO (ps.map (·.2)) ++ [.t d]) [(.s d, .sv (.om d «as».length)), (.t d, .tk true el esz «as»)] := BB true hN ht hz hq hn hok hlen hd
theorem Iq {k el esz c : Nat} (hN : d < N) (hk : get s (.t k) = none) (hpos : 0 < esz) :
  aW P N ⟨some d, .assign (.const (.slice none 0 0)), ty, pos, af, g⟩ s [.t k] [(.s d, .sv (.ow k [])), (.t k, .tk false el esz [])] := by
 intro t hR E G L a w hr K Q hK
 have hd' : get t (.t k) = none := by rw [hR (.t k) (by simp)]; exact hk
 have hown := World.ownsRow_nil w 0 el esz
 obtain ⟨G', hV, hle, hr1⟩ := hr.vm false (xs := []) (v1 := .slice none 0 0) (row := none) (el := el) (esz := esz) (cells := []) hd' hpos (w1 := w) ⟨rfl, rfl, rfl, Nat.le_refl _, fun _ _ _ => rfl⟩ (by simp) (fun b hb => by simp [Value.ownBlock] at hb) hown ⟨fun i e h => by simp at h, fun i e j c h => by simp at h⟩ (fun b hb => by simp [Value.ownBlock] at hb)
 have hput := hr1.put d hN (.slice none 0 0) (.ow k []) ⟨hV rfl, by simp [Loc.dG]⟩
 unfold Oper.wp
 exact hK (.slice none 0 0) w G' _ hput
theorem pr {G : Gh} {w : World} (hk : fx G w) {v : Value} {ys : List AV} (h : V G v (.sl ys)) {esz : Nat} (hok : cg esz ys = true) (hpos : 0 < esz) :
  (ys = [] ∧ ∃ A c, v = .slice A 0 c) ∨ ∃ ad c news, v = .slice (some ad) ys.length c ∧ news.length = ys.length * esz ∧ (∀ (j : Nat) u, news[j]? = some u → w.cell? (ad.add j) = some u) ∧ (∀ u ∈ news, u.oneCell' = true) ∧ Lay G esz ys news := by
 cases h with
 | slE A cap => exact .inl ⟨rfl, A, cap, rfl⟩
 | slN b off cap esz' _ vs hc he hkk hf hv =>
  by_cases h0 : ys = []
  ·subst h0; exact .inl ⟨rfl, _, _, rfl⟩
  ·have hel : ∀ (i : Nat) (e : AV), ys[i]? = some e → e.cells.length = esz := fun i e h => ((jF hok) e (List.mem_of_getElem? h)).1
   have hes : esz = esz' := by
    cases ys with
    | nil => exact absurd rfl h0
    | cons y ys => exact (hel 0 y rfl).symm.trans (he 0 y rfl)
   subst hes
   refine .inr ⟨⟨b, off, none⟩, cap, (List.range (ys.length * esz)).map (fun q => vs (q / esz) (q % esz)), rfl, by simp, ?_, ?_, ?_⟩
   ·intro j u e
    have hj : j < ys.length * esz := by have := (List.getElem?_eq_some_iff.1 e).1; simpa using this
    simp only [List.getElem?_map, List.getElem?_range hj, Option.map_some, Option.some.injEq] at e
    subst e
    have hi : j / esz < ys.length := Nat.div_lt_of_lt_mul (by rw [Nat.mul_comm]; exact hj)
    have hm : j % esz < esz := Nat.mod_lt _ hpos
    have hl := hel _ _ (List.getElem?_eq_getElem hi)
    have := hk _ _ _ (hkk _ _ (j % esz) _ (List.getElem?_eq_getElem hi) (List.getElem?_eq_getElem (by omega)))
    rw [Addr.add_lit]
    have e2 : off + j / esz * esz + j % esz = off + j := by
     have := Nat.div_add_mod' j esz
     omega
    rwa [e2] at this
   ·intro u hu
    obtain ⟨q, hq, rfl⟩ := List.mem_map.1 hu
    have hj : q < ys.length * esz := by simpa using hq
    have hi : q / esz < ys.length := Nat.div_lt_of_lt_mul (by rw [Nat.mul_comm]; exact hj)
    have hm : q % esz < esz := Nat.mod_lt _ hpos
    have hl := hel _ _ (List.getElem?_eq_getElem hi)
    exact (hv _ _ (q % esz) _ (List.getElem?_eq_getElem hi) (List.getElem?_eq_getElem (by omega))).fX (hf _ _ (q % esz) _ (List.getElem?_eq_getElem hi) (List.getElem?_eq_getElem (by omega)))
   ·refine ⟨hel, fun i e j c he' hj => ⟨hf i e j c he' hj, ?_⟩⟩
    have hi := (List.getElem?_eq_some_iff.1 he').1
    have hj' := (List.getElem?_eq_some_iff.1 hj).1
    rw [hel i e he'] at hj'
    have hb := mh (j := j) hi hj'
    have : ((List.range (ys.length * esz)).map (fun q => vs (q / esz) (q % esz))).getD (i * esz + j) undef = vs i j := by
     rw [List.getD_eq_getElem?_getD, List.getElem?_map, List.getElem?_range hb]
     simp only [Option.map_some, Option.getD_some]
     have e1 : (i * esz + j) / esz = i := by rw [Nat.mul_comm, Nat.mul_add_div hpos, Nat.div_eq_of_lt hj', Nat.add_zero]
     have e2 : (i * esz + j) % esz = j := by rw [Nat.mul_comm, Nat.mul_add_mod, Nat.mod_eq_of_lt hj']
     rw [e1, e2]
    rw [this]
    exact hv i e j c he' hj
theorem kU {base t ty e : Nat} {i : TypeInfo} {size : Nat} (ht : P.underlying t = some (.slice e)) (hi : P.info? e = some i) {w : World} {v : Value} {n : Nat} {xs : List Value} (hown : w.ownsRow base e size v n xs) (A : Option Addr) (c : Nat) :
  (Builtin.append_ #[t, t] ty #[v, .slice A 0 c]).run P w = .ok v w := by
 have hfc : ∀ (sz : Nat), (Builtin.firstCells sz 0 (.slice A 0 c)).run P w = .ok #[] w := by
  intro sz
  cases A <;> simp [Builtin.firstCells, loadCells, loadCellsFrom]
 rcases hown.2 with ⟨rfl, rfl⟩ | ⟨g, cap, cur, rfl, _, _, hnc, _⟩
 ·simp [Builtin.append_, run_underlying ht, sizeOf, typeInfo, hi, Builtin.lenOf, hfc]
 ·simp [Builtin.append_, run_underlying ht, sizeOf, typeInfo, hi, Builtin.lenOf, hfc, hnc, storeCells]
theorem sw {E : eB} {G : Gh} {L : Loc} {a : Act} {w : World} {t : St} (hr : Rel E N G L a w t) {k d el esz : Nat} {m : Bool} {xs ys : List AV} {v v1 : Value} {w1 : World} {cells news : List Value} (hk : get t (.t k) = some (.tk m el esz xs)) (hd : get t (.t d) = none)
  (hv : L.tok k = some v) (hown : w.ownsRow 0 el esz v xs.length cells) (hL : Lay G esz xs cells) (hpos : 0 < esz) (hkn : ∀ blk, v.ownBlock = some blk → ∀ o u, G.kn blk o = some u → m = false ∧ cells[o]? = some u)
  (ho1 : w1.ownsRow 0 el esz v1 (xs.length + ys.length) (cells ++ news)) (hg : w.grownBy w1 v.ownBlock) (hat : v1.ownBlock = v.ownBlock ∨ v1.ownBlock = some w.heap.size) (hcell : ∀ b, v.ownBlock = some b → ∀ o u, cells[o]? = some u → w1.cell? ⟨b, o, none⟩ = some u) (hL2 : Lay G esz ys news) :
  ∃ G', (m = false → V G' v1 (.sl (xs ++ ys))) ∧ G.le G' ∧ Rel E N G' (L.dG d v1) a w1 ((.t d, .tk m el esz (xs ++ ys)) :: (.t k, .gone) :: t) := by
 have hlen : cells.length = xs.length * esz := hown.1
 have hne : d ≠ k := by rintro rfl; rw [hk] at hd; cases hd
 have hr1 := hr.JX hk
 have hd1 : get ((.t k, .gone) :: t) (.t d) = none := by simp [get, Ne.symm hne]; exact hd
 have hmine : ∀ b, v.ownBlock = some b → owns t L (.t k) b := fun b hb => ⟨⟨m, el, esz, xs, hk⟩, v, hv, hb⟩
 refine hr1.vm m (el := el) (esz := esz) (xs := xs ++ ys) (v1 := v1) (cells := cells ++ news) (row := v.ownBlock) hd1 hpos hg ?_ ?_ (by rw [List.length_append]; exact ho1) (hL.append hL2 hlen) ?_
 ·intro b hb
  obtain ⟨q1, q2⟩ := iy hr (hmine b hb)
  have hnob : ∀ id, G.ob id ≠ some b := by
   obtain ⟨v', hv', _, hm'⟩ := hr.tok k m el esz xs hk
   rw [hv] at hv'; cases hv'
   exact (hm' b hb).2
  refine ⟨q2, fun c hc => ?_, fun H g => hr.hdisj _ _ (hmine b hb) H (by simpa [get] using g), hnob, fun o u e => hcell b hb o u (hkn b hb o u e).2⟩
  by_cases e : c = .t k
  ·subst e; obtain ⟨⟨m, el, esz, xs, g⟩, _⟩ := hc; simp [get] at g
  ·exact e (hr.disj c (.t k) b (dM e hc) (hmine b hb))
 ·intro b hb
  rcases hat with h | h
  ·exact .inl (by rw [← h]; exact hb)
  ·rw [h] at hb; cases hb; exact .inr (Nat.le_refl _)
 ·intro b hb o u e
  rcases hat with h | h
  ·rw [h] at hb
   obtain ⟨q1, q2⟩ := hkn b hb o u e
   refine ⟨q1, ?_⟩
   rw [List.getElem?_append_left (List.getElem?_eq_some_iff.1 q2).1]; exact q2
  ·rw [h] at hb; cases hb
   have := hr.zo e; omega
theorem Ho {base t ty el : Nat} {inf : TypeInfo} {z : Value} (ht : P.underlying t = some (.slice el)) (hi : P.info? el = some inf) (hz : inf.zero = some z) (hzs : z.cells.size = inf.size) {w : World} {v : Value} {n : Nat} {cells : List Value} (hown : w.ownsRow base el inf.size v n cells)
  (ad : Addr) (m c : Nat) (news : List Value) (hl : news.length = m * inf.size) (hnews : ∀ (j : Nat) u, news[j]? = some u → w.cell? (ad.add j) = some u) (h1 : ∀ u ∈ news, u.oneCell' = true) (h0 : 0 < m) (hpos : 0 < inf.size)
  (h63 : n + m ≤ 9223372036854775807) (hb : (n + m) * inf.bytes ≤ 140737488355328) (hbase : base ≤ w.heap.size) :
  ∃ v1 w1, (Builtin.append_ #[t, t] ty #[v, .slice (some ad) m c]).run P w = .ok v1 w1 ∧ w1.ownsRow base el inf.size v1 (n + m) (cells ++ news) ∧ w.grownBy w1 v.ownBlock ∧ (v1.ownBlock = v.ownBlock ∨ v1.ownBlock = some w.heap.size) ∧
   (∀ b, v.ownBlock = some b → ∀ o u, cells[o]? = some u → w1.cell? ⟨b, o, none⟩ = some u) := by
 have hm63 : n + m ≤ maxLen := by simp only [maxLen]; omega
 have hlen : (cells ++ news).length = (n + m) * inf.size := by rw [List.length_append, hown.1, hl, Nat.add_mul]
 have fresh : ∀ cap0 row, (w.drew.alloc (.cells (cells.toArray ++ news.toArray ++ Builtin.zeroCells z.cells (grownCap w (n + m) cap0 el - (n + m))) el)).ownsRow base el inf.size (.slice (some ⟨w.heap.size, 0, none⟩) (n + m) (grownCap w (n + m) cap0 el)) (n + m) (cells ++ news) ∧
   w.grownBy (w.drew.alloc (.cells (cells.toArray ++ news.toArray ++ Builtin.zeroCells z.cells (grownCap w (n + m) cap0 el - (n + m))) el)) row := by
  intro cap0 row
  have hge := grownCap_ge w (n + m) cap0 el
  refine ⟨⟨hlen, .inr ⟨w.heap.size, _, _, rfl, hbase, heap_alloc_new w.drew _, hge, grownCap_le_maxLen w _ _ _ hm63, ?_, ?_⟩⟩, rfl, rfl, rfl, by simp, fun k hk _ => Below.heap_alloc w.drew _ k hk⟩
  ·have hc := hown.1
   simp only [Array.size_append, List.size_toArray, size_zeroCells, hzs, hc, hl]
   rw [← Nat.add_mul, ← Nat.add_mul]
   congr 1; omega
  ·rw [← hlen]
   simp only [Array.toList_append, List.toList_toArray]
   exact List.take_left
 rcases hown.2 with ⟨rfl, rfl⟩ | ⟨q, cap, cur, rfl, hq, hh, hnc, hcm, hcs, htake⟩
 ·have hce : cells = [] := List.eq_nil_of_length_eq_zero (by simpa using hown.1)
  subst hce
  have hr := run_append_nil (P := P) w t ty el inf z ht hi hz ad m c news hl hnews h0 (by omega) (by simp only [Nat.zero_add] at hb; omega)
  have hf := fresh 0 (Value.ownBlock (.slice none 0 0))
  simp only [Nat.zero_add, List.nil_append] at hf hr ⊢
  have e0 : (#[] : Array Value) ++ news.toArray = news.toArray := by simp
  rw [e0] at hf
  exact ⟨_, _, hr, hf.1, hf.2, .inr rfl, fun b hb => by simp [Value.ownBlock] at hb⟩
 ·by_cases hroom : n + m ≤ cap
  ·have hfit : n * inf.size + news.length ≤ cur.size := by rw [hl, hcs, ← Nat.add_mul]; exact Nat.mul_le_mul_right _ hroom
   have hr := run_append_room (P := P) w t ty el inf ht hi q n cap cur hh ad m c news hl hnews h1 hroom hfit
   have ho1 : (w.setRow q (cur.toList.take (n * inf.size) ++ news ++ cur.toList.drop (n * inf.size + news.length)).toArray).ownsRow base el inf.size (.slice (some ⟨q, 0, none⟩) (n + m) cap) (n + m) (cells ++ news) := by
    refine ⟨hlen, .inr ⟨q, cap, _, rfl, hq, setRow_heap w q cur _ el _ hh, hroom, hcm, ?_, ?_⟩⟩
    ·simp only [List.size_toArray, List.length_append, List.length_take, List.length_drop, Array.length_toList]; omega
    ·have e : cur.toList.take (n * inf.size) ++ news = cells ++ news := by rw [htake]
     show List.take ((n + m) * inf.size) (cur.toList.take (n * inf.size) ++ news ++ cur.toList.drop (n * inf.size + news.length)) = cells ++ news
     rw [e, ← hlen]
     exact List.take_left
   refine ⟨_, _, hr, ho1, ⟨rfl, rfl, rfl, by simp, fun k _ hk => setRow_other w q k _ (fun e => hk (by simp [Value.ownBlock, e]))⟩, .inl rfl, fun b hb o u e => ?_⟩
   have := ho1.cells (g := b) hb o u (by rw [List.getElem?_append_left (List.getElem?_eq_some_iff.1 e).1]; exact e)
   rwa [Addr.add_lit, Nat.zero_add] at this
  ·have hr := run_append_grow (P := P) w t ty el inf z ht hi hz ⟨q, 0, none⟩ n cap cells hown.1 (hown.cells (g := q) rfl) ad m c news hl hnews (by omega) (by omega) (growslice_fits (by omega) hb)
   have hf := fresh cap (Value.ownBlock (.slice (some ⟨q, 0, none⟩) n cap))
   refine ⟨_, _, hr, hf.1, hf.2, .inr rfl, fun b hb o u e => ?_⟩
   have h2 := hown.cells (g := b) hb o u e
   rw [Addr.add_lit, Nat.zero_add] at h2
   have hlt := World.block_lt_of_cell? w _ h2
   rw [World.cell?_of_block (w := w) (Below.heap_alloc w.drew _ b hlt)]
   exact h2
theorem Kl {G : Gh} {m : Bool} {esz : Nat} {xs : List AV} {cells : List Value} {blk : Nat} (hl : cells.length = xs.length * esz) (h : match m with
   | true => ∀ o, G.kn blk o = none
   | false => (∀ o, o < xs.length * esz → G.kn blk o = cells[o]?) ∧ ∀ o, xs.length * esz ≤ o → G.kn blk o = none) : ∀ o u, G.kn blk o = some u → m = false ∧ cells[o]? = some u := by
 intro o u e
 cases m with
 | true => rw [h o] at e; cases e
 | false =>
  refine ⟨rfl, ?_⟩
  by_cases hlt : o < xs.length * esz
  ·rw [← h.1 o hlt]; exact e
  ·rw [h.2 o (by omega)] at e; cases e
theorem FM (m : Bool) {t1 el esz by_ : Nat} {x y : Operand} {k : Nat} {xs ys : List AV} (hN : d < N) (ht : se P t1 = some (el, esz, by_)) (hx : gS x s = some (w9 m k xs)) (hk : get s (.t k) = some (.tk m el esz xs)) (hy : cV y s = some (.sl ys)) (hok : cg esz ys = true) (hd : get s (.t d) = none)
  (hb : (xs.length + ys.length) * by_ ≤ 140737488355328) (h63 : xs.length + ys.length ≤ 9223372036854775807) :
  aW P N ⟨some d, .call { callee := .builtin .append, args := #[x, y], argTypes := #[t1, t1] }, ty, pos, af, g⟩ s (rd x ++ (rd y ++ [.t k, .t d])) [(.s d, .sv (w9 m d (xs ++ ys))), (.t d, .tk m el esz (xs ++ ys)), (.t k, .gone)] := by
 intro t hR E G L a w hr K Q hK
 obtain ⟨i, z, hu, hi, hzz, hzs, hsz, hby, hpos⟩ := nM ht
 subst hsz
 subst hby
 have hk' : get t (.t k) = some (.tk m el i.size xs) := by rw [hR (.t k) (by simp)]; exact hk
 have hd' : get t (.t d) = none := by rw [hR (.t d) (by simp)]; exact hd
 have hVx := bj hr hR.left hx
 have hVy := aT hr hR.right.left hy
 obtain ⟨v, hv, ⟨cells, hV, hown, _, hLx, hkn0⟩, hmay⟩ := hr.tok k m el i.size xs hk'
 have hkn : ∀ blk, v.ownBlock = some blk → ∀ o u, G.kn blk o = some u → m = false ∧ cells[o]? = some u := fun blk e => Kl hown.1 (hkn0 blk e)
 have hav : a.eval x = v := by
  cases m with
  | false => have hvk := hVx.2; rw [hvk] at hv; cases hv; rfl
  | true => have hvk := hVx.1; rw [hvk] at hv; cases hv; rfl
 have hclen := hown.1
 unfold Oper.wp
 rcases pr hr.kn hVy hok hpos with ⟨rfl, A, c, hay⟩ | ⟨ad, c, news, hay, hnl, hnews, hone, hLy⟩
 ·have he : (execOp a.eval ⟨some d, .call { callee := .builtin .append, args := #[x, y], argTypes := #[t1, t1] }, ty, pos, af, g⟩).run P w = .ok (.value v) w := by
   have := kU (P := P) (ty := ty) hu hi hown A c
   simp only [execOp, resolve, invoke, builtin, Sem.run_bind, Sem.run_pure, Result.andThen_ok, List.map_toArray, List.map_cons, List.map_nil, hav, hay, this]
  rw [he]
  obtain ⟨G', hV', hle, hr'⟩ := sw hr (ys := []) (v1 := v) (w1 := w) (news := []) hk' hd' hv hown hLx hpos hkn (by simpa using hown) ⟨rfl, rfl, rfl, Nat.le_refl _, fun _ _ _ => rfl⟩ (.inl rfl) (fun b hb o u e => by
   have h2 := hown.cells (g := b) hb o u e
   rwa [Addr.add_lit, Nat.zero_add] at h2) ⟨fun i e h => by simp at h, fun i e j c h => by simp at h⟩
  exact hK _ _ G' _ (hr'.put d hN _ (w9 m d (xs ++ [])) (ql hV' (by simp [Loc.dG]) (by simpa using hown)))
 ·by_cases h0 : ys = []
  ·subst h0
   have he : (execOp a.eval ⟨some d, .call { callee := .builtin .append, args := #[x, y], argTypes := #[t1, t1] }, ty, pos, af, g⟩).run P w = .ok (.value v) w := by
    have := kU (P := P) (ty := ty) hu hi hown (some ad) c
    simp only [List.length_nil] at hay
    simp only [execOp, resolve, invoke, builtin, Sem.run_bind, Sem.run_pure, Result.andThen_ok, List.map_toArray, List.map_cons, List.map_nil, hav, hay, this]
   rw [he]
   obtain ⟨G', hV', hle, hr'⟩ := sw hr (ys := []) (v1 := v) (w1 := w) (news := []) hk' hd' hv hown hLx hpos hkn (by simpa using hown) ⟨rfl, rfl, rfl, Nat.le_refl _, fun _ _ _ => rfl⟩ (.inl rfl) (fun b hb o u e => by
    have h2 := hown.cells (g := b) hb o u e
    rwa [Addr.add_lit, Nat.zero_add] at h2) ⟨fun i e h => by simp at h, fun i e j c h => by simp at h⟩
   exact hK _ _ G' _ (hr'.put d hN _ (w9 m d (xs ++ [])) (ql hV' (by simp [Loc.dG]) (by simpa using hown)))
  ·have hm : 0 < ys.length := by cases ys with | nil => exact absurd rfl h0 | cons a l => simp
   obtain ⟨v1, w1, hrun, ho1, hg, hat, hcell⟩ := Ho (ty := ty) hu hi hzz hzs hown ad ys.length c news hnl hnews hone hm hpos h63 hb (Nat.zero_le _)
   have he : (execOp a.eval ⟨some d, .call { callee := .builtin .append, args := #[x, y], argTypes := #[t1, t1] }, ty, pos, af, g⟩).run P w = .ok (.value v1) w1 := by
    simp only [execOp, resolve, invoke, builtin, Sem.run_bind, Sem.run_pure, Result.andThen_ok, List.map_toArray, List.map_cons, List.map_nil, hav, hay, hrun]
   rw [he]
   obtain ⟨G', hV', hle, hr'⟩ := sw hr hk' hd' hv hown hLx hpos hkn ho1 hg hat hcell hLy
   exact hK _ _ G' _ (hr'.put d hN _ (w9 m d (xs ++ ys)) (ql hV' (by simp [Loc.dG]) (by rw [List.length_append]; exact ho1)))
theorem jS {t1 el esz by_ : Nat} {x y : Operand} {k : Nat} {xs ys : List AV} (hN : d < N) (ht : se P t1 = some (el, esz, by_)) (hx : gS x s = some (.ow k xs)) (hk : get s (.t k) = some (.tk false el esz xs)) (hy : cV y s = some (.sl ys)) (hok : cg esz ys = true) (hd : get s (.t d) = none)
  (hb : (xs.length + ys.length) * by_ ≤ 140737488355328) (h63 : xs.length + ys.length ≤ 9223372036854775807) :
  aW P N ⟨some d, .call { callee := .builtin .append, args := #[x, y], argTypes := #[t1, t1] }, ty, pos, af, g⟩ s (rd x ++ (rd y ++ [.t k, .t d])) [(.s d, .sv (.ow d (xs ++ ys))), (.t d, .tk false el esz (xs ++ ys)), (.t k, .gone)] := FM false hN ht hx hk hy hok hd hb h63
theorem FO {t1 el esz by_ : Nat} {x y : Operand} {k n : Nat} {xs ys : List AV} (hN : d < N) (ht : se P t1 = some (el, esz, by_)) (hx : gS x s = some (.om k n)) (hk : get s (.t k) = some (.tk true el esz xs)) (hn : n = xs.length) (hy : cV y s = some (.sl ys)) (hok : cg esz ys = true) (hd : get s (.t d) = none)
  (hb : (xs.length + ys.length) * by_ ≤ 140737488355328) (h63 : xs.length + ys.length ≤ 9223372036854775807) :
  aW P N ⟨some d, .call { callee := .builtin .append, args := #[x, y], argTypes := #[t1, t1] }, ty, pos, af, g⟩ s (rd x ++ (rd y ++ [.t k, .t d])) [(.s d, .sv (.om d (xs ++ ys).length)), (.t d, .tk true el esz (xs ++ ys)), (.t k, .gone)] := by
 subst hn
 exact FM true hN ht hx hk hy hok hd hb h63
end

section
variable {P : Program} {N : Nat} {s : St} {d : Nat} {ty : TypeId} {pos : String} {af : Array Edge} {g : Option (Nat × Bool)}
def z1 (x : Option Operand) (dflt : Int) (s : St) : Option Int :=
 match x with
 | none => some dflt
 | some x => match cV x s with
  | some (.int _ n) => some n
  | _ => none
def NH (x : Option Operand) : List aI :=
 match x with
 | none => []
 | some x => rd x
theorem sQ {E : eB} {G : Gh} {L : Loc} {a : Act} {w : World} {t : St} (hr : Rel E N G L a w t) {x : Option Operand} {df n : Int} (hR : Reads (NH x) s t) (h : z1 x df s = some n) : (x = none ∧ n = df) ∨ ∃ y k, x = some y ∧ a.eval y = .int k n := by
 cases x with
 | none => simp [z1] at h; exact .inl ⟨rfl, h.symm⟩
 | some y =>
  refine .inr ?_
  simp only [z1] at h
  split at h
  ·rename_i k m hm
   cases h
   exact ⟨y, k, rfl, lb (aT hr hR hm)⟩
  ·cases h
theorem tR {E : eB} {G : Gh} {L : Loc} {a : Act} {w : World} {t : St} (hr : Rel E N G L a w t) {lo hi : Option Operand} {l h : Int} (isS : Bool) (len cap : Nat) (hRl : Reads (NH lo) s t) (hRh : Reads (NH hi) s t) (h1 : z1 lo 0 s = some l) (h2 : z1 hi len s = some h)
  (h0 : 0 ≤ l) (hlh : l ≤ h) (hhc : h ≤ cap) : (Instr.sliceBounds isS len cap (lo.map a.eval) (hi.map a.eval) none).run P w = .ok (l.toNat, h.toNat, cap) w := by
 rcases sQ hr hRl h1 with ⟨rfl, rfl⟩ | ⟨y, k, rfl, e1⟩ <;> rcases sQ hr hRh h2 with ⟨rfl, rfl⟩ | ⟨z, k', rfl, e2⟩
 ·simp [Instr.sliceBounds]
 ·simp [Instr.sliceBounds, e2, run_sliceBound w k' h cap _ (by omega) hhc]
 ·have hl : l ≤ (len : Int) := hlh
  simp [Instr.sliceBounds, e1, run_sliceBound w k l len _ h0 hl]
 ·have hl : l ≤ ((h.toNat : Nat) : Int) := by omega
  simp [Instr.sliceBounds, e1, e2, run_sliceBound w k' h cap _ (by omega) hhc, run_sliceBound w k l h.toNat _ h0 hl]
theorem bJ {t1 : TypeId} {x : Operand} {lo hi : Option Operand} {xs : List AV} {esz : Nat} {l h : Int} (hN : d < N) (ht : ie P t1 = some esz) (hx : cV x s = some (.sl xs)) (hes : ∀ e ∈ xs, e.cells.length = esz) (h1 : z1 lo 0 s = some l) (h2 : z1 hi xs.length s = some h) (h0 : 0 ≤ l) (hlh : l ≤ h) (hhc : h ≤ xs.length) :
  aW P N ⟨some d, .slice t1 x lo hi none, ty, pos, af, g⟩ s (rd x ++ (NH lo ++ NH hi)) [(.s d, .sv (.v (.sl ((xs.drop l.toNat).take (h.toNat - l.toNat)))))] :=
 aW.val rfl hN fun E G L a w t hr hR => by
  have hv := aT hr hR.left hx
  obtain ⟨el, inf, hu, hinf, hsize⟩ := vu ht
  have hel : P.elem t1 = el := by simp [Program.elem, hu]
  have hu2 : P.underlying t1 = some (.slice (P.elem t1)) := by rw [hel]; exact hu
  have hsz : (sizeOf (P.elem t1)).run P w = .ok esz w := by simp [sizeOf, typeInfo, hel, hinf, hsize]
  have hrun : ∀ (A : Option Addr) (c : Nat), xs.length ≤ c → (execOp a.eval ⟨some d, .slice t1 x lo hi none, ty, pos, af, g⟩).run P w = ((Instr.slice t1 (a.eval x) (lo.map a.eval) (hi.map a.eval) none).run P w).andThen (fun v w => .ok (.value v) w) := fun A c _ => by
   simp only [execOp, Sem.run_bind, run_sliceAt_slice w t1 _ _ _ _ hu2, Option.map_none, Sem.run_pure]
  generalize hav : a.eval x = u at hv hrun
  have hlen : ((xs.drop l.toNat).take (h.toNat - l.toNat)).length = h.toNat - l.toNat := by rw [List.length_take, List.length_drop]; omega
  cases hv with
  | slE A cap =>
   have hb := tR (P := P) hr true 0 cap hR.right.left hR.right.right h1 (by simpa using h2) h0 hlh (by simp at hhc; omega)
   refine ⟨sliced A l.toNat h.toNat cap esz, ?_, ?_⟩
   ·rw [hrun A cap (by simp), run_slice_any w t1 A 0 cap hu2, hb]
    simp [hsz]
   ·have : h.toNat - l.toNat = 0 := by simp at hhc; omega
    simp only [sliced, this, List.drop_nil, List.take_nil]
    exact V.slE _ _
  | slN b off cap esz' _ vs hc he hk hf hvv =>
   have hb := tR (P := P) hr true xs.length cap hR.right.left hR.right.right h1 h2 h0 hlh (by omega)
   refine ⟨sliced (some ⟨b, off, none⟩) l.toNat h.toNat cap esz, ?_, ?_⟩
   ·rw [hrun (some ⟨b, off, none⟩) cap hc, run_slice_any w t1 _ xs.length cap hu2, hb]
    simp [hsz]
   ·by_cases hlh' : h.toNat - l.toNat = 0
    ·have : (xs.drop l.toNat).take (h.toNat - l.toNat) = [] := by rw [hlh']; simp
     rw [this]
     simp only [sliced, hlh']
     exact V.slE _ _
    ·have hne : cap ≠ l.toNat := by omega
     have hes' : esz' = esz := by
      have hlt : l.toNat < xs.length := by omega
      rw [← he _ _ (List.getElem?_eq_getElem hlt)]
      exact hes _ (List.getElem_mem hlt)
     subst hes'
     simp only [sliced, if_neg hne, Option.map_some, Addr.add_lit]
     have hget : ∀ i e, ((xs.drop l.toNat).take (h.toNat - l.toNat))[i]? = some e → xs[l.toNat + i]? = some e := by
      intro i e q
      have hi : i < h.toNat - l.toNat := by have := (List.getElem?_eq_some_iff.1 q).1; omega
      rwa [List.getElem?_take, if_pos hi, List.getElem?_drop] at q
     have := V.slN (G := G) b (off + l.toNat * esz') (cap - l.toNat) esz' ((xs.drop l.toNat).take (h.toNat - l.toNat)) (fun i j => vs (l.toNat + i) j) (by omega) (fun i e q => he _ e (hget i e q))
      (fun i e j c q r => by
       have := hk _ e j c (hget i e q) r
       rw [Nat.add_mul] at this
       rw [← this]; congr 1; omega) (fun i e j c q r => hf _ e j c (hget i e q) r) (fun i e j c q r => hvv _ e j c (hget i e q) r)
     rw [hlen] at this
     exact this

def js : Sv → Option Bool
 | .v .nilp => some true
 | .v (.kp _) => some false
 | .v (.op _ _) => some false
 | .lp _ _ => some false
 | .ta _ _ => some false
 | _ => none
theorem qY {G : Gh} {L : Loc} {v : Value} {x : Sv} {b : Bool} (hv : SV G L v x) (h : js x = some b) : ∃ p, v = .pointer p ∧ p.isNone = b := by
 cases x with
 | v a =>
  have hV : V G v a := hv
  cases hV <;> first | (simp [js] at h; done) | skip
  all_goals simp [js] at h
  all_goals subst h
  all_goals exact ⟨_, rfl, rfl⟩
 | lp k off => obtain ⟨blk, _, rfl⟩ := hv; simp [js] at h; subst h; exact ⟨_, rfl, rfl⟩
 | ow k xs => simp [js] at h
 | mv k n => simp [js] at h
 | om k n => simp [js] at h
 | ov k esz lo n => simp [js] at h
 | ta k off => obtain ⟨blk, m, c, _, rfl⟩ := hv; simp [js] at h; subst h; exact ⟨_, rfl, rfl⟩
 | mp k => simp [js] at h
 | cd g b a => simp [js] at h
theorem FK {t1 t2 : TypeId} {x : Operand} {y : Sv} {b : Bool} (hN : d < N) (ht : P.underlying t1 = some (.pointer (P.pointee t1))) (hx : gS x s = some y) (hb : js y = some b) :
  aW P N ⟨some d, .binOp .eql t1 x (.const (.pointer none)) t2, ty, pos, af, g⟩ s (rd x) [(.s d, .sv (.v (.bool b)))] :=
 aW.val rfl hN fun E G L a w t hr hR => by
  obtain ⟨p, hp, hpb⟩ := qY (bj hr hR hx) hb
  have hgd : (eqGuard .eql t1 x (.const (.pointer none)) (.pointer p) (.pointer none)).run P w = .ok () w := by simp [eqGuard]
  refine ⟨.bool b, ?_, .bool _⟩
  have he : a.eval (.const (.pointer none)) = .pointer none := rfl
  simp only [execOp, Sem.run_bind, hp, he, hgd, Result.andThen_ok, run_eql_pointer_nil w t1 p ht, Sem.run_pure, hpb]
theorem ve {t1 t2 : TypeId} {x : Operand} {y : Sv} {b : Bool} (hN : d < N) (ht : P.underlying t1 = some (.pointer (P.pointee t1))) (hx : gS x s = some y) (hb : js y = some b) :
  aW P N ⟨some d, .binOp .neq t1 x (.const (.pointer none)) t2, ty, pos, af, g⟩ s (rd x) [(.s d, .sv (.v (.bool (!b))))] :=
 aW.val rfl hN fun E G L a w t hr hR => by
  obtain ⟨p, hp, hpb⟩ := qY (bj hr hR hx) hb
  have hgd : (eqGuard .neq t1 x (.const (.pointer none)) (.pointer p) (.pointer none)).run P w = .ok () w := by simp [eqGuard]
  refine ⟨.bool (!b), ?_, .bool _⟩
  have he : a.eval (.const (.pointer none)) = .pointer none := rfl
  simp only [execOp, Sem.run_bind, hp, he, hgd, Result.andThen_ok, run_neq_pointer_nil w t1 p ht, Sem.run_pure, hpb]
end

def gh (cs : List aI) : Sv → Option Sv
 | .v a => some (.v a)
 | .lp k o => if aI.b k ∈ cs then some (.lp k o) else none
 | .ow k xs => if aI.t k ∈ cs then some (.ow k xs) else some (.v (.sl xs))
 | .mv k n => if aI.b k ∈ cs then some (.mv k n) else none
 | .om k n => if aI.t k ∈ cs then some (.om k n) else none
 | .ov k z l n => if aI.t k ∈ cs then some (.ov k z l n) else none
 | .ta k o => if aI.t k ∈ cs then some (.ta k o) else none
 | .mp k => if aI.b k ∈ cs then some (.mp k) else none
 | .cd g b a => some (.cd g b a)
def lP (cs : List aI) : List Sv → Option (List Sv)
 | [] => some []
 | x :: l => match gh cs x, lP cs l with
  | some y, some r => some (y :: r)
  | _, _ => none
def gi (cs : List aI) : CV → Option CV
 | .sv x => (gh cs x).map .sv
 | .bx l => (lP cs l).map .bx
 | .ob id l => (lP cs l).map (.ob id)
 | .bt ty l => (lP cs l).map (.bt ty)
 | v => some v
def az (cs : List aI) (s : St) : List aI → Option St
 | [] => some []
 | c :: l => match get s c with
  | some v => match gi cs v, az cs s l with
   | some v', some r => some ((c, v') :: r)
   | _, _ => none
  | none => none
theorem eG {cs : List aI} {G : Gh} {L : Loc} {v : Value} {x y : Sv} (h : gh cs x = some y) (hv : SV G L v x) :
  SV G ⟨fun k => if aI.b k ∈ cs then L.box k else none, fun k => if aI.t k ∈ cs then L.tok k else none⟩ v y ∧ (x.flat = true → y.flat = true) := by
 cases x with
 | v a => simp [gh] at h; subst h; exact ⟨hv, fun h => h⟩
 | lp k o =>
  simp only [gh] at h
  split at h
  ·rename_i hc
   cases h
   obtain ⟨blk, hb, e⟩ := hv
   exact ⟨⟨blk, by simp [hc, hb], e⟩, fun h => h⟩
  ·cases h
 | mp k =>
  simp only [gh] at h
  split at h
  ·rename_i hc
   cases h
   obtain ⟨blk, hb, e⟩ := hv
   exact ⟨⟨blk, by simp [hc, hb], e⟩, fun h => h⟩
  ·cases h
 | ow k xs =>
  simp only [gh] at h
  split at h
  ·rename_i hc
   cases h
   exact ⟨⟨hv.1, by simp [hc, hv.2]⟩, fun h => h⟩
  ·cases h
   exact ⟨hv.1, fun _ => rfl⟩
 | mv k n =>
  simp only [gh] at h
  split at h
  ·rename_i hc
   cases h
   obtain ⟨blk, cap, hb, e⟩ := hv
   exact ⟨⟨blk, cap, by simp [hc, hb], e⟩, fun h => h⟩
  ·cases h
 | om k n =>
  simp only [gh] at h
  split at h
  ·rename_i hc
   cases h
   exact ⟨⟨by simp [hc, hv.1], hv.2⟩, fun h => h⟩
  ·cases h
 | ov k z l n =>
  simp only [gh] at h
  split at h
  ·rename_i hc
   cases h
   refine ⟨?_, fun h => h⟩
   rcases hv with h0 | ⟨blk, m, c, c', h1, h2⟩
   ·exact .inl h0
   ·exact .inr ⟨blk, m, c, c', by simp [hc, h1], h2⟩
  ·cases h
 | ta k o =>
  simp only [gh] at h
  split at h
  ·rename_i hc
   cases h
   obtain ⟨blk, m, c, h1, h2⟩ := hv
   exact ⟨⟨blk, m, c, by simp [hc, h1], h2⟩, fun h => h⟩
  ·cases h
 | cd g b a => simp [gh] at h; subst h; exact ⟨hv, fun h => h⟩
theorem jr {cs : List aI} : ∀ {l r : List Sv}, lP cs l = some r → l.length = r.length ∧ ∀ (j : Nat) y, r[j]? = some y → ∃ x, l[j]? = some x ∧ gh cs x = some y
 | [], r, h => by simp [lP] at h; subst h; exact ⟨rfl, fun j y e => by simp at e⟩
 | x :: l, r, h => by
  simp only [lP] at h
  split at h
  ·rename_i y r' hy hr
   cases h
   obtain ⟨h1, h2⟩ := jr hr
   refine ⟨by simp [h1], fun j z e => ?_⟩
   cases j with
   | zero => simp at e; subst e; exact ⟨x, rfl, hy⟩
   | succ j => simpa using h2 j z (by simpa using e)
  ·cases h
theorem ke {cs : List aI} {s : St} : ∀ {l : List aI} {r : St}, az cs s l = some r → ∀ c, (c ∈ l → ∃ v v', get s c = some v ∧ gi cs v = some v' ∧ get r c = some v') ∧ (c ∉ l → get r c = none)
 | [], r, h, c => by
  simp [az] at h; subst h
  exact ⟨(fun hm => absurd hm (by simp)), (fun _ => rfl)⟩
 | d :: l, r, h, c => by
  simp only [az] at h
  split at h
  ·rename_i v hv
   split at h
   ·rename_i v' r' hv' hr
    cases h
    obtain ⟨h1, h2⟩ := ke hr c
    by_cases e : d = c
    ·subst e
     exact ⟨fun _ => ⟨v, v', hv, hv', by simp [get]⟩, fun hn => absurd (List.mem_cons_self ..) hn⟩
    ·refine ⟨fun hm => ?_, fun hn => ?_⟩
     ·rcases List.mem_cons.1 hm with rfl | hm
      ·exact absurd rfl e
      ·obtain ⟨w, w', q1, q2, q3⟩ := h1 hm
       exact ⟨w, w', q1, q2, by simp [get, e, q3]⟩
     ·simp only [get, e, if_false]
      exact h2 (fun hm => hn (List.mem_cons_of_mem _ hm))
   ·cases h
  ·cases h
theorem Rel.az {E : eB} {N : Nat} {G : Gh} {L : Loc} {a : Act} {w : World} {s : St} (h : Rel E N G L a w s) {cs : List aI} {r : St} (hk : az cs s cs = some r) (hh : aI.h ∈ cs) : ∃ L', Rel E N G L' a w r := by
 let L' : Loc := ⟨fun k => if aI.b k ∈ cs then L.box k else none, fun k => if aI.t k ∈ cs then L.tok k else none⟩
 have hg : ∀ c v', get r c = some v' → c ∈ cs ∧ ∃ v, get s c = some v ∧ gi cs v = some v' := by
  intro c v' e
  by_cases hc : c ∈ cs
  ·obtain ⟨v, v2, q1, q2, q3⟩ := (ke hk c).1 hc
   rw [q3] at e; cases e
   exact ⟨hc, v, q1, q2⟩
  ·rw [(ke hk c).2 hc] at e; cases e
 have hlive : ∀ v v', gi cs v = some v' → v'.live = v.live := by
  intro v v' e
  cases v <;> simp only [gi, Option.map_eq_some_iff, Option.some.injEq] at e
  ·obtain ⟨x, _, rfl⟩ := e; rfl
  ·obtain ⟨x, _, rfl⟩ := e; rfl
  ·obtain ⟨x, _, rfl⟩ := e; rfl
  ·obtain ⟨x, _, rfl⟩ := e; rfl
  all_goals subst e; rfl
 have hlink : ∀ v v', gi cs v = some v' → v'.link = v.link := by
  intro v v' e
  cases v <;> simp only [gi, Option.map_eq_some_iff, Option.some.injEq] at e
  ·obtain ⟨x, _, rfl⟩ := e; rfl
  ·obtain ⟨x, _, rfl⟩ := e; rfl
  ·obtain ⟨x, _, rfl⟩ := e; rfl
  ·obtain ⟨x, _, rfl⟩ := e; rfl
  all_goals subst e; rfl
 have htk : ∀ v m el esz xs, gi cs v = some (.tk m el esz xs) → v = .tk m el esz xs := by
  intro v m el esz xs e
  cases v <;> simp only [gi, Option.map_eq_some_iff, Option.some.injEq] at e
  ·obtain ⟨x, _, e⟩ := e; cases e
  ·obtain ⟨x, _, e⟩ := e; cases e
  ·obtain ⟨x, _, e⟩ := e; cases e
  ·obtain ⟨x, _, e⟩ := e; cases e
  all_goals first | exact e | cases e
 have hown : ∀ c b, owns r L' c b → owns s L c b := by
  intro c b hc
  cases c with
  | b k =>
   obtain ⟨⟨cv, g, hl⟩, hb⟩ := hc
   obtain ⟨hm, v, q1, q2⟩ := hg _ _ g
   refine ⟨⟨v, q1, by rw [← hlive _ _ q2]; exact hl⟩, ?_⟩
   simpa [L', hm] using hb
  | t k =>
   obtain ⟨⟨m, el, esz, xs, g⟩, v, hv, hb⟩ := hc
   obtain ⟨hm, v2, q1, q2⟩ := hg _ _ g
   rw [htk _ _ _ _ _ q2] at q1
   exact ⟨⟨m, el, esz, xs, q1⟩, v, by simpa [L', hm] using hv, hb⟩
  | s n => exact hc.elim
  | h => exact hc.elim
 refine ⟨L', h.size, h.defs, h.ge, h.kn, h.old, h.obs, h.obn, h.fr, ?_, ?_, ?_, fun c d b hc hd => h.disj c d b (hown _ _ hc) (hown _ _ hd), ?_, ?_, ?_, ?_⟩
 ·intro n x g
  obtain ⟨_, v, q1, q2⟩ := hg _ _ g
  cases v <;> simp only [gi, Option.map_eq_some_iff, Option.some.injEq] at q2
  ·obtain ⟨y, q3, q4⟩ := q2
   cases q4
   exact (eG q3 (h.slot n _ q1)).1
  ·obtain ⟨y, _, q4⟩ := q2; cases q4
  ·obtain ⟨y, _, q4⟩ := q2; cases q4
  ·obtain ⟨y, _, q4⟩ := q2; cases q4
  all_goals cases q2
 ·intro k cv g hl
  obtain ⟨hm, v, q1, q2⟩ := hg _ _ g
  obtain ⟨blk, o, hb, hbase, hh2, hok, hn⟩ := h.box k v q1 (by rw [← hlive _ _ q2]; exact hl)
  refine ⟨blk, o, by simp [L', hm, hb], hbase, hh2, ?_, by rw [hlink _ _ q2]; exact hn⟩
  cases v <;> simp only [gi, Option.map_eq_some_iff, Option.some.injEq] at q2
  ·obtain ⟨y, _, q4⟩ := q2; subst q4; cases hl
  ·obtain ⟨l', q3, rfl⟩ := q2
   obtain ⟨arr, el, e1, e2, e3⟩ := hok
   obtain ⟨p1, p2⟩ := jr q3
   refine ⟨arr, el, e1, by rw [e2, p1], fun j y e => ?_⟩
   obtain ⟨x, p3, p4⟩ := p2 j y e
   obtain ⟨e4, e5⟩ := e3 j x p3
   exact ⟨(eG p4 e5).2 e4, (eG p4 e5).1⟩
  ·obtain ⟨l', q3, rfl⟩ := q2
   obtain ⟨arr, el, e1, e2, e3⟩ := hok
   obtain ⟨p1, p2⟩ := jr q3
   refine ⟨arr, el, e1, ⟨by rw [← p1]; exact e2.1, e2.2⟩, fun j y e => ?_⟩
   obtain ⟨x, p3, p4⟩ := p2 j y e
   obtain ⟨e4, e5⟩ := e3 j x p3
   exact ⟨(eG p4 e5).2 e4, (eG p4 e5).1⟩
  ·obtain ⟨l', q3, rfl⟩ := q2
   obtain ⟨arr, e1, e2, e3⟩ := hok
   obtain ⟨p1, p2⟩ := jr q3
   refine ⟨arr, e1, by rw [e2, p1], fun j y e => ?_⟩
   obtain ⟨x, p3, p4⟩ := p2 j y e
   obtain ⟨e4, e5⟩ := e3 j x p3
   exact ⟨(eG p4 e5).2 e4, (eG p4 e5).1⟩
  ·subst q2; exact hok
  all_goals subst q2; first | (cases hl; done) | exact hok
 ·intro k m el esz xs g
  obtain ⟨hm, v, q1, q2⟩ := hg _ _ g
  rw [htk _ _ _ _ _ q2] at q1
  obtain ⟨v', hv, rest⟩ := h.tok k m el esz xs q1
  exact ⟨v', by simp [L', hm, hv], rest⟩
 ·obtain ⟨H, g, hok⟩ := h.heap
  obtain ⟨v, v', q1, q2, q3⟩ := (ke hk .h).1 hh
  rw [g] at q1; cases q1
  simp [gi] at q2
  subst q2
  exact ⟨H, q3, hok⟩
 ·intro c b hc H2 g2
  obtain ⟨_, v, q1, q2⟩ := hg _ _ g2
  have hv2 : v = .hp H2 := by
   cases v <;> simp only [gi, Option.map_eq_some_iff, Option.some.injEq] at q2
   ·obtain ⟨x, _, e⟩ := q2; cases e
   ·obtain ⟨x, _, e⟩ := q2; cases e
   ·obtain ⟨x, _, e⟩ := q2; cases e
   ·obtain ⟨x, _, e⟩ := q2; cases e
   all_goals first | exact q2 | cases q2
  subst hv2
  exact h.hdisj c b (hown _ _ hc) H2 q1
 ·intro k g
  by_cases hm : aI.b k ∈ cs
  ·obtain ⟨v, v', _, _, q3⟩ := (ke hk (.b k)).1 hm
   rw [g] at q3; cases q3
  ·simp [L', hm]
 ·intro k g
  by_cases hm : aI.t k ∈ cs
  ·obtain ⟨v, v', _, _, q3⟩ := (ke hk (.t k)).1 hm
   rw [g] at q3; cases q3
  ·simp [L', hm]
section
variable {P : Program} {N : Nat} {s r : St}
def Kept (s : St) (Q : St → Prop) : Prop := ∀ E N a w, Fits E N s a w → ∃ s', Fits E N s' a w ∧ Q s'
theorem Kept.now {Q : St → Prop} (h : Q s) : Kept s Q := fun _ _ _ _ hf => ⟨s, hf, h⟩
theorem Kept.az {Q : St → Prop} (cs : List aI) (hk : X.az cs s cs = some r) (hh : aI.h ∈ cs) (h : Kept r Q) : Kept s Q := fun E N a w ⟨G, L, hr⟩ => by
 obtain ⟨L', hr'⟩ := hr.az hk hh
 exact h E N a w ⟨G, L', hr'⟩
theorem aK.kept {c : Code} {Q : Exit → St → Prop} (h : aK P N c s fun e s' => Kept s' (Q e)) : aK P N c s Q := by
 intro E a w hf
 refine wp_mono (h E a w hf) ?_
 rintro e a' w' ⟨s', h1, h2⟩
 exact h2 E N a' w' h1
theorem aK.cy {c : Code} {Q : Exit → St → Prop} (h : Kept s fun s' => aK P N c s' Q) : aK P N c s Q := by
 intro E a w hf
 obtain ⟨s', h1, h2⟩ := h E N a w hf
 exact h2 E a w h1
theorem aD.kept {ops : Array Oper} {Q : St → Prop} (h : Kept s Q) : aD P N ops [] s Q := by
 intro E a w hf QQ hQ
 obtain ⟨s', h1, h2⟩ := h E N a w hf
 exact hQ a w s' h1 h2

def mA (k k' : Nat) : Sv → Sv
 | .ow j xs => if j = k then .ow k' xs else .ow j xs
 | .om j n => if j = k then .om k' n else .om j n
 | .ov j z l n => if j = k then .ov k' z l n else .ov j z l n
 | .ta j o => if j = k then .ta k' o else .ta j o
 | x => x
def jk (k k' : Nat) : CV → CV
 | .sv x => .sv (mA k k' x)
 | .bx l => .bx (l.map (mA k k'))
 | .ob id l => .ob id (l.map (mA k k'))
 | .bt ty l => .bt ty (l.map (mA k k'))
 | v => v
def cO (k k' : Nat) : St → St
 | [] => []
 | (c, v) :: s => ((if c = .t k then .t k' else c), jk k k' v) :: cO k k' s
theorem BZ {k k' : Nat} (hne : k ≠ k') : ∀ {s : St}, get s (.t k') = none → ∀ c, get (cO k k' s) c = (if c = .t k then none else if c = .t k' then (get s (.t k)).map (jk k k') else (get s c).map (jk k k'))
 | [], _, c => by simp [cO, get]
 | (d, v) :: s, h, c => by
  have hd : d ≠ .t k' := by rintro rfl; simp [get] at h
  have h' : get s (.t k') = none := by simpa [get, hd] using h
  have ih := BZ hne h' c
  simp only [cO, get]
  by_cases e1 : d = .t k
  ·subst e1
   simp only [if_true]
   by_cases e2 : c = .t k'
   ·subst e2
    have : aI.t k' ≠ .t k := fun e => hne (by injection e with e; exact e.symm)
    simp [this]
   ·rw [if_neg (Ne.symm e2), ih]
    by_cases e3 : c = .t k
    ·simp [e3]
    ·simp [e3, e2, Ne.symm e3]
  ·simp only [e1, if_false]
   by_cases e2 : d = c
   ·subst e2
    simp [e1, hd]
   ·rw [if_neg e2, ih]
    by_cases e3 : c = .t k
    ·simp [e3]
    ·by_cases e4 : c = .t k'
     ·simp [e4, e1]
     ·simp [e3, e4, e2]
theorem Rel.cO {E : eB} {G : Gh} {L : Loc} {a : Act} {w : World} (h : Rel E N G L a w s) {k k' : Nat} (hne : k ≠ k') (hk : get s (.t k') = none) : ∃ L', Rel E N G L' a w (cO k k' s) := by
 let L' : Loc := ⟨L.box, fun j => if j = k then none else if j = k' then L.tok k else L.tok j⟩
 have hk0 := h.notok k' hk
 have hsv : ∀ v x, SV G L v x → SV G L' v (mA k k' x) := by
  intro v x hv
  cases x with
  | ow j xs =>
   simp only [mA]
   split
   ·rename_i e; subst e
    exact ⟨hv.1, by simp [L', hne, Ne.symm hne, hv.2]⟩
   ·rename_i e
    refine ⟨hv.1, ?_⟩
    have : j ≠ k' := by rintro rfl; have := hv.2; rw [hk0] at this; cases this
    simp [L', e, this, hv.2]
  | om j n =>
   simp only [mA]
   split
   ·rename_i e; subst e
    exact ⟨by simp [L', hne, Ne.symm hne, hv.1], hv.2⟩
   ·rename_i e
    refine ⟨?_, hv.2⟩
    have : j ≠ k' := by rintro rfl; have := hv.1; rw [hk0] at this; cases this
    simp [L', e, this, hv.1]
  | ov j z l n =>
   simp only [mA]
   rcases hv with h0 | ⟨blk, m, c, c', h1, h2⟩
   ·split <;> exact .inl h0
   ·split
    ·rename_i e; subst e
     exact .inr ⟨blk, m, c, c', by simp [L', hne, Ne.symm hne, h1], h2⟩
    ·rename_i e
     have : j ≠ k' := by rintro rfl; rw [hk0] at h1; cases h1
     exact .inr ⟨blk, m, c, c', by simp [L', e, this, h1], h2⟩
  | ta j o =>
   simp only [mA]
   obtain ⟨blk, m, c, h1, h2⟩ := hv
   split
   ·rename_i e; subst e
    exact ⟨blk, m, c, by simp [L', hne, Ne.symm hne, h1], h2⟩
   ·rename_i e
    have : j ≠ k' := by rintro rfl; rw [hk0] at h1; cases h1
    exact ⟨blk, m, c, by simp [L', e, this, h1], h2⟩
  | v a => exact hv
  | lp k o => exact hv
  | mv k n => exact hv
  | mp j => exact hv
  | cd g b a => exact hv
 have hfl : ∀ x, (mA k k' x).flat = x.flat := by intro x; cases x <;> simp only [mA] <;> (try split) <;> rfl
 have hg := fun c => BZ hne hk c
 have hlive : ∀ v, (jk k k' v).live = v.live := by intro v; cases v <;> rfl
 have hb : ∀ j, get (X.cO k k' s) (.b j) = (get s (.b j)).map (jk k k') := fun j => by rw [hg]; simp
 have hs : ∀ j, get (X.cO k k' s) (.s j) = (get s (.s j)).map (jk k k') := fun j => by rw [hg]; simp
 have hown : ∀ c b, owns (X.cO k k' s) L' c b → ∃ c', owns s L c' b ∧ c = (if c' = .t k then .t k' else c') := by
  intro c b hc
  cases c with
  | b j =>
   obtain ⟨⟨cv, g, hl⟩, hb'⟩ := hc
   rw [hb] at g
   obtain ⟨v, q1, rfl⟩ := Option.map_eq_some_iff.1 g
   exact ⟨.b j, ⟨⟨v, q1, by rw [← hlive]; exact hl⟩, hb'⟩, by simp⟩
  | t j =>
   obtain ⟨⟨m, el, esz, xs, g⟩, v, hv, hb'⟩ := hc
   rw [hg] at g
   split at g
   ·cases g
   ·rename_i e1
    split at g
    ·rename_i e2
     have : j = k' := by injection e2
     subst this
     obtain ⟨v2, q1, q2⟩ := Option.map_eq_some_iff.1 g
     have hv2 : v2 = .tk m el esz xs := by cases v2 <;> simp [jk] at q2 <;> first | exact q2 | (obtain ⟨rfl, rfl, rfl, rfl⟩ := q2; rfl)
     subst hv2
     exact ⟨.t k, ⟨⟨m, el, esz, xs, q1⟩, v, by simpa [L', Ne.symm hne] using hv, hb'⟩, by simp⟩
    ·rename_i e2
     obtain ⟨v2, q1, q2⟩ := Option.map_eq_some_iff.1 g
     have hv2 : v2 = .tk m el esz xs := by cases v2 <;> simp [jk] at q2 <;> first | exact q2 | (obtain ⟨rfl, rfl, rfl, rfl⟩ := q2; rfl)
     subst hv2
     have n1 : j ≠ k := fun e => e1 (by rw [e])
     have n2 : j ≠ k' := fun e => e2 (by rw [e])
     exact ⟨.t j, ⟨⟨m, el, esz, xs, q1⟩, v, by simpa [L', n1, n2] using hv, hb'⟩, by simp [n1]⟩
  | s n => exact hc.elim
  | h => exact hc.elim
 refine ⟨L', h.size, h.defs, h.ge, h.kn, h.old, h.obs, h.obn, h.fr, ?_, ?_, ?_, ?_, ?_, ?_, ?_, ?_⟩
 ·intro n x g
  rw [hs] at g
  obtain ⟨v, q1, q2⟩ := Option.map_eq_some_iff.1 g
  cases v <;> simp [jk] at q2
  subst q2
  exact hsv _ _ (h.slot n _ q1)
 ·intro j cv g hl
  rw [hb] at g
  obtain ⟨v, q1, rfl⟩ := Option.map_eq_some_iff.1 g
  rw [hlive] at hl
  obtain ⟨blk, o, q2, q3, q4, hok, hn⟩ := h.box j v q1 hl
  refine ⟨blk, o, q2, q3, q4, ?_, by rw [show (jk k k' v).link = v.link by cases v <;> rfl]; exact hn⟩
  cases v with
  | bx l =>
   obtain ⟨arr, el, e1, e2, e3⟩ := hok
   refine ⟨arr, el, e1, by simpa using e2, fun i y e => ?_⟩
   simp only [List.getElem?_map] at e
   obtain ⟨x, p1, rfl⟩ := Option.map_eq_some_iff.1 e
   exact ⟨by rw [hfl]; exact (e3 i x p1).1, hsv _ _ (e3 i x p1).2⟩
  | ob id l =>
   obtain ⟨arr, el, e1, e2, e3⟩ := hok
   refine ⟨arr, el, e1, by simpa using e2, fun i y e => ?_⟩
   simp only [List.getElem?_map] at e
   obtain ⟨x, p1, rfl⟩ := Option.map_eq_some_iff.1 e
   exact ⟨by rw [hfl]; exact (e3 i x p1).1, hsv _ _ (e3 i x p1).2⟩
  | bt ty l =>
   obtain ⟨arr, e1, e2, e3⟩ := hok
   refine ⟨arr, e1, by simpa using e2, fun i y e => ?_⟩
   simp only [List.getElem?_map] at e
   obtain ⟨x, p1, rfl⟩ := Option.map_eq_some_iff.1 e
   exact ⟨by rw [hfl]; exact (e3 i x p1).1, hsv _ _ (e3 i x p1).2⟩
  | it l p => exact hok
  | raw Φ => exact hok
  | _ => cases hl
 ·intro j m el esz xs g
  rw [hg] at g
  split at g
  ·cases g
  ·rename_i e1
   split at g
   ·rename_i e2
    have : j = k' := by injection e2
    subst this
    obtain ⟨v2, q1, q2⟩ := Option.map_eq_some_iff.1 g
    have hv2 : v2 = .tk m el esz xs := by cases v2 <;> simp [jk] at q2 <;> first | exact q2 | (obtain ⟨rfl, rfl, rfl, rfl⟩ := q2; rfl)
    subst hv2
    obtain ⟨v, hv, rest⟩ := h.tok k m el esz xs q1
    exact ⟨v, by simp [L', Ne.symm hne, hv], rest⟩
   ·rename_i e2
    obtain ⟨v2, q1, q2⟩ := Option.map_eq_some_iff.1 g
    have hv2 : v2 = .tk m el esz xs := by cases v2 <;> simp [jk] at q2 <;> first | exact q2 | (obtain ⟨rfl, rfl, rfl, rfl⟩ := q2; rfl)
    subst hv2
    have n1 : j ≠ k := fun e => e1 (by rw [e])
    have n2 : j ≠ k' := fun e => e2 (by rw [e])
    obtain ⟨v, hv, rest⟩ := h.tok j m el esz xs q1
    exact ⟨v, by simp [L', n1, n2, hv], rest⟩
 ·intro c d b hc hd
  obtain ⟨c', h1, rfl⟩ := hown c b hc
  obtain ⟨d', h2, rfl⟩ := hown d b hd
  rw [h.disj c' d' b h1 h2]
 ·obtain ⟨H, g, hok⟩ := h.heap
  exact ⟨H, by rw [hg]; simp [g, jk], hok⟩
 ·intro c b hc H2 g2
  obtain ⟨c', h1, rfl⟩ := hown c b hc
  rw [hg] at g2
  simp only [reduceCtorEq, if_false] at g2
  obtain ⟨v, q1, q2⟩ := Option.map_eq_some_iff.1 g2
  have hv2 : v = .hp H2 := by cases v <;> simp [jk] at q2; exact congrArg _ q2
  subst hv2
  exact h.hdisj c' b h1 H2 q1
 ·intro j g
  rw [hb] at g
  exact h.nobox j (by simpa using g)
 ·intro j g
  rw [hg] at g
  split at g
  ·rename_i e
   have : j = k := by injection e
   simp [L', this]
  ·rename_i e1
   have n1 : j ≠ k := fun e => e1 (by rw [e])
   split at g
   ·rename_i e2
    have : j = k' := by injection e2
    subst this
    simp only [L', n1, if_false, if_true]
    exact h.notok k (by simpa using g)
   ·rename_i e2
    have n2 : j ≠ k' := fun e => e2 (by rw [e])
    simp only [L', n1, n2, if_false]
    exact h.notok j (by simpa using g)
theorem Kept.cO {Q : St → Prop} (k k' : Nat) (hne : k ≠ k') (hk : get s (.t k') = none) (h : Kept (X.cO k k' s) Q) : Kept s Q := fun E N a w ⟨G, L, hr⟩ => by
 obtain ⟨L', hr'⟩ := hr.cO hne hk
 exact h E N a w ⟨G, L', hr'⟩

def ph : Hc → AV
 | .v a => a
 | .row _ _ xs => .sll xs.length
theorem BV {G : Gh} {w : World} {v : Value} {x : Hc} (h : Mk G w v x) : (ph x).flat = true ∧ V G v (ph x) := by
 cases x with
 | v a => exact h
 | row el esz xs =>
  have hr : fG G w true el esz v xs := h
  obtain ⟨cells, _, ho, _⟩ := hr
  refine ⟨rfl, ?_⟩
  show V G v (.sll xs.length)
  generalize xs.length = n at ho
  rcases ho.2 with hn | ⟨g, cap, cur, rfl, _⟩
  ·have h1 := hn.1
   have h2 := hn.2
   subst h1; subst h2
   exact V.sll none 0 0
  ·exact .sll _ _ _
inductive py (P : Program) (s : St) : List ResultVar → List AV → Prop where
 | nil : py P s [] []
 | tmp {t : Nat} {a : AV} {l : List ResultVar} {m : List AV} : cV (.tmp t) s = some a → py P s l m → py P s (.tmp t :: l) (a :: m)
 | cell {t : Nat} {ty : TypeId} {k off n : Nat} {b : Bool} {cs : List Sv} {z : Sv} {a : AV} {l : List ResultVar} {m : List AV} : lk P ty = some (b, n) → gS (.tmp t) s = some (.lp k off) → get s (.b k) = some (.bx cs) → wP b n (cs.drop off) = some z → z.av = some a → py P s l m → py P s (.cell t ty :: l) (a :: m)
 | celo {t : Nat} {ty : TypeId} {id off n : Nat} {b : Bool} {cs : List Hc} {z : Sv} {a : AV} {H : Hp} {l : List ResultVar} {m : List AV} : lk P ty = some (b, n) → cV (.tmp t) s = some (.op id off) → get s .h = some (.hp H) → H.obj id = some cs → wP b n ((cs.map fun c => Sv.v (ph c)).drop off) = some z → z.av = some a → py P s l m → py P s (.cell t ty :: l) (a :: m)
def res (m : List AV) : AV :=
 match m with
 | [a] => a
 | m => .tup m
def zI (tmps : Array Value) : ResultVar → Sem Value
 | .tmp t => pure (tmps.getD t undef)
 | .cell p t => do loadVar t (← asAddr (tmps.getD p undef))
theorem py.run {E : eB} {G : Gh} {L : Loc} {a : Act} {w : World} (hr : Rel E N G L a w s) {l : List ResultVar} {m : List AV} (h : py P s l m) : ∃ vs : List Value, (l.mapM (zI a.tmps)).run P w = .ok vs w ∧ vs.length = m.length ∧ ∀ (j : Nat) x, m[j]? = some x → V G (vs.getD j undef) x := by
 induction h with
 | nil => exact ⟨[], rfl, rfl, fun j x e => by simp at e⟩
 | @tmp t b l m hx _ ih =>
  obtain ⟨vs, h1, h2, h3⟩ := ih
  have hv := aT hr (fun _ _ => rfl) hx
  refine ⟨a.tmps.getD t undef :: vs, ?_, by simp [h2], fun j x e => ?_⟩
  ·simp only [List.mapM_cons, zI, Sem.run_bind, Sem.run_pure, Result.andThen_ok, h1]
  ·cases j with
   | zero => simp at e; subst e; exact hv
   | succ j => simpa using h3 j x (by simpa using e)
 | @cell t ty k off n b cs z c l m hlk hx hk hz ha _ ih =>
  obtain ⟨vs, h1, h2, h3⟩ := ih
  obtain ⟨blk, hb, hv⟩ := bj hr (fun _ _ => rfl) hx
  obtain ⟨blk', o, hb', hbase, hh, ⟨arr, el, rfl, hsz, hc⟩, hn⟩ := hr.box k (.bx cs) hk rfl
  rw [hb] at hb'; cases hb'
  have hcell : ∀ (j : Nat) y, (cs.drop off)[j]? = some y → w.cell? ((⟨blk, off, none⟩ : Addr).add j) = some (arr.getD (off + j) undef) ∧ y.flat = true ∧ SV G L (arr.getD (off + j) undef) y := by
   intro j y e
   rw [List.getElem?_drop] at e
   refine ⟨?_, hc _ y e⟩
   have hlt : off + j < arr.size := by have := (List.getElem?_eq_some_iff.1 e).1; omega
   rw [Addr.add_lit, cell_of_row w blk (off + j) arr el (0, 0) hh, Array.getD_eq_getD_getElem?, Array.getElem?_eq_getElem hlt]
   rfl
  obtain ⟨v, hrun, hV⟩ := fm (P := P) hlk hz hcell
  have hv' : a.tmps.getD t undef = .pointer (some ⟨blk, off, none⟩) := hv
  refine ⟨v :: vs, ?_, by simp [h2], fun j x e => ?_⟩
  ·simp only [List.mapM_cons, zI, Sem.run_bind, hv', asAddr, Sem.run_pure, Result.andThen_ok, hrun, h1]
  ·cases j with
   | zero => simp at e; subst e; exact hV.av ha
   | succ j => simpa using h3 j x (by simpa using e)
 | @celo t ty id off n b cs z c H l m hlk hx hH ho hz ha _ ih =>
  obtain ⟨vs, h1, h2, h3⟩ := ih
  have hv := aT hr (fun _ _ => rfl) hx
  generalize hav : a.eval (.tmp t) = u at hv
  cases hv
  rename_i blk hb
  obtain ⟨H0, gH, hok, hmay⟩ := hr.heap
  rw [hH] at gH; cases gH
  obtain ⟨blk0, arr, el1, p1, p2, p3, p4, p5⟩ := hok.obj id cs ho
  rw [hb] at p1; cases p1
  have hcell : ∀ (j : Nat) y, ((cs.map fun c => Sv.v (ph c)).drop off)[j]? = some y → w.cell? ((⟨blk, off, none⟩ : Addr).add j) = some (arr.getD (off + j) undef) ∧ y.flat = true ∧ SV G L (arr.getD (off + j) undef) y := by
   intro j y e
   rw [List.getElem?_drop, List.getElem?_map] at e
   cases hc : cs[off + j]? with
   | none => rw [hc] at e; cases e
   | some c =>
    rw [hc] at e; cases e
    have hlt : off + j < arr.size := by have := (List.getElem?_eq_some_iff.1 hc).1; omega
    refine ⟨?_, BV (p4 _ c hc)⟩
    rw [Addr.add_lit, cell_of_row w blk (off + j) arr el1 (0, 0) p2, Array.getD_eq_getD_getElem?, Array.getElem?_eq_getElem hlt]
    rfl
  obtain ⟨v, hrun, hV⟩ := fm (P := P) hlk hz hcell
  have hv' : a.tmps.getD t undef = .pointer (some ⟨blk, off, none⟩) := hav
  refine ⟨v :: vs, ?_, by simp [h2], fun j x e => ?_⟩
  ·simp only [List.mapM_cons, zI, Sem.run_bind, hv', asAddr, Sem.run_pure, Result.andThen_ok, hrun, h1]
  ·cases j with
   | zero => simp at e; subst e; exact hV.av ha
   | succ j => simpa using h3 j x (by simpa using e)
theorem aM.mk {fn : Func} {l : List ResultVar} {m : List AV} (hf : fn.results = l.toArray) (h : py P s l m) : aM P fn s (res m) := by
 intro E N G L a w hr
 obtain ⟨vs, h1, h2, h3⟩ := h.run hr
 have hm : (fn.results.mapM (zI a.tmps)).run P w = .ok vs.toArray w := by
  rw [hf, Array.mapM_eq_mapM_toList]
  simp only [Sem.run_map, List.toList_toArray, h1, Result.andThen_ok]
 by_cases hone : m.length = 1
 ·match m, hone with
  | [x], _ =>
   match vs, h2 with
   | [v], _ =>
    refine ⟨v, ?_, show V G v x by simpa using h3 0 x rfl⟩
    show ((fn.results.mapM (zI a.tmps)) >>= fun vs => pure (if h : vs.size = 1 then vs[0] else .tuple vs) : Sem Value).run P w = _
    rw [Sem.run_bind, hm]
    rfl
 ·refine ⟨.tuple vs.toArray, ?_, ?_⟩
  ·have : ¬ vs.toArray.size = 1 := by simp [h2, hone]
   show ((fn.results.mapM (zI a.tmps)) >>= fun vs => pure (if h : vs.size = 1 then vs[0] else .tuple vs) : Sem Value).run P w = _
   rw [Sem.run_bind, hm]
   simp only [Result.andThen_ok]
   rw [dif_neg this]
   rfl
  ·have e : res m = .tup m := by
    match m, hone with
    | [], _ => rfl
    | [x], h => exact absurd rfl h
    | x :: y :: m, _ => rfl
   rw [e]
   refine V.tup _ _ (by simpa using h2) fun j c ej => ?_
   have := h3 j c ej
   simpa [Array.getD_eq_getD_getElem?, List.getD_eq_getElem?_getD] using this
end

def bq (P : Program) (N : Nat) (ops : Array Oper) (o : Oper) (s : St) (R : List aI) (ws : St) : Prop :=
 ∀ t, Reads R s t → ∀ E G L a w, Rel E N G L a w t → ∀ (K : Act → World → Prop) (Q : Exit → Act → World → Prop),
  (∀ a' w' G' L', Rel E N G' L' a' w' (ws ++ t) → K a' w') → if Region.wanted o (yielded ops a.tmps) then o.wp P a w K Q else K (a.put o.dst undef) w
section
variable {P : Program} {N : Nat} {ops : Array Oper} {s : St}
theorem bq.free {o : Oper} {R : List aI} {ws : St} (hg : o.guard = none) (h : aW P N o s R ws) : bq P N ops o s R ws := by
 intro t hR E G L a w hr K Q hK
 rw [if_pos (by simp [Region.wanted, hg])]
 exact h t hR E G L a w hr K Q fun v w' G' L' hr' => hK _ _ G' L' hr'
theorem bq.on {o : Oper} {R : List aI} {ws : St} {d : Nat} {b : Bool} (hN : d < N) (hg : gL ops o = some (d, b)) (hc : get s (.s d) = some (.sv (.v (.bool b)))) (h : aW P N o s R ws) : bq P N ops o s (.s d :: R) ws := by
 intro t hR E G L a w hr K Q hK
 rw [m7 hr hN hg (by rw [hR (.s d) (List.mem_cons_self ..)]; exact hc), beq_self_eq_true, if_pos rfl]
 exact h t (hR.mono fun c hc => List.mem_cons_of_mem _ hc) E G L a w hr K Q fun v w' G' L' hr' => hK _ _ G' L' hr'
inductive nG (P : Program) (N : Nat) (ops : Array Oper) : List Oper → St → List (List aI × St) → St → Prop where
 | nil (s : St) : nG P N ops [] s [] s
 | cons {o : Oper} {l : List Oper} {s : St} {R : List aI} {ws : St} {rs : List (List aI × St)} {s' : St} : bq P N ops o s R ws → nG P N ops l (ws ++ s) rs s' → nG P N ops (o :: l) s ((R, ws) :: rs) s'
end

def lX (f : Nat → Bool) : Nat → List (List aI × St) → St → St
 | _, [], s => s
 | k, r :: rs, s => lX f (k + 1) rs (if f k then r.2 ++ s else s)
theorem db (c : aI) : ∀ (rs : List (List aI × St)) (k : Nat) (f g : Nat → Bool) (s s' : St), get s c = get s' c → (∀ (i : Nat) r, rs[i]? = some r → get r.2 c ≠ none → f (k + i) = g (k + i)) → get (lX f k rs s) c = get (lX g k rs s') c
 | [], k, f, g, s, s', h, _ => h
 | r :: rs, k, f, g, s, s', h, hfg => by
  refine db c rs (k + 1) f g _ _ ?_ (fun i r' hi hne => by
   have := hfg (i + 1) r' (by simpa using hi) hne
   rwa [show k + (i + 1) = k + 1 + i by omega] at this)
  by_cases hw : get r.2 c = none
  ·have e : ∀ u : St, get (r.2 ++ u) c = get u c := fun u => by rw [get_append, hw]
   split <;> split <;> simp [e, h]
  ·have := hfg 0 r rfl hw
   simp only [Nat.add_zero] at this
   rw [this]
   split
   ·rw [get_append, get_append, h]
   ·exact h
theorem rN (c : aI) : ∀ (rs : List (List aI × St)) (k : Nat) (f : Nat → Bool) (s : St) (i : Nat) r v, rs[i]? = some r → f (k + i) = true → get r.2 c = some v → (∀ (j : Nat) q, i < j → rs[j]? = some q → f (k + j) = true → get q.2 c = none) → get (lX f k rs s) c = some v
 | [], k, f, s, i, r, v, h, _, _, _ => by simp at h
 | q :: rs, k, f, s, 0, r, v, h, hf, hv, hl => by
  simp at h; subst h
  simp only [Nat.add_zero] at hf
  simp only [lX, hf, if_true]
  have : get (lX f (k + 1) rs (q.2 ++ s)) c = get (lX (fun _ => false) (k + 1) rs (q.2 ++ s)) c := by
   refine db c rs (k + 1) _ _ _ _ rfl fun j q' hj hne => ?_
   cases e : f (k + 1 + j) with
   | false => rfl
   | true => exact absurd (hl (j + 1) q' (by omega) (by simpa using hj) (by rw [show k + (j + 1) = k + 1 + j by omega]; exact e)) hne
  rw [this]
  have hid : ∀ (rs : List (List aI × St)) (k : Nat) (u : St), lX (fun _ => false) k rs u = u := by
   intro rs
   induction rs with
   | nil => intro k u; rfl
   | cons q rs ih => intro k u; simp only [lX]; exact ih _ _
  rw [hid, get_append, hv]
 | q :: rs, k, f, s, i + 1, r, v, h, hf, hv, hl => by
  simp only [lX]
  refine rN c rs (k + 1) f _ i r v (by simpa using h) (by rw [show k + 1 + i = k + (i + 1) by omega]; exact hf) hv fun j q' hj hq he => ?_
  exact hl (j + 1) q' (by omega) (by simpa using hq) (by rw [show k + (j + 1) = k + 1 + j by omega]; exact he)

def cw (r : List aI × St) : List aI := r.2.map (·.1)
def meets (a b : List aI) : Bool := a.any fun x => b.any fun y => decide (x = y)
def na (r q : List aI × St) : Bool := meets (cw r) (q.1 ++ cw q) || meets r.1 (cw q)
theorem pU {r : List aI × St} {c : aI} (h : get r.2 c ≠ none) : c ∈ cw r := by
 unfold cw
 generalize r.2 = s at h
 induction s with
 | nil => exact absurd rfl h
 | cons x s ih =>
  obtain ⟨d, v⟩ := x
  simp only [get] at h
  by_cases e : d = c
  ·simp [e]
  ·rw [if_neg e] at h
   exact List.mem_cons_of_mem _ (ih h)
theorem k6 {a b : List aI} {c : aI} (ha : c ∈ a) (hb : c ∈ b) : meets a b = true := by
 unfold meets
 exact List.any_eq_true.2 ⟨c, ha, List.any_eq_true.2 ⟨c, hb, by simp⟩⟩
def dD (o : Oper) : List Nat := (o.after.toList.filter (Region.binds .any)).map (·.on)
def qi : List (List Nat) → List (List Nat) → List (List Nat)
 | acc, [] => acc
 | acc, es :: r => qi (acc ++ [es ++ es.flatMap fun k => acc.getD k []]) r
theorem tV : ∀ (E acc : List (List Nat)) (j : Nat) (x : List Nat), acc[j]? = some x → (qi acc E)[j]? = some x
 | [], acc, j, x, h => h
 | es :: E, acc, j, x, h => tV E _ j x (by rw [List.getElem?_append_left (List.getElem?_eq_some_iff.1 h).1]; exact h)
theorem po : ∀ (E acc : List (List Nat)) (j : Nat) (es : List Nat), E[j]? = some es → ∃ x, (qi acc E)[acc.length + j]? = some x ∧ ∀ i ∈ x, i ∈ es ∨ ∃ k ∈ es, ∃ y, (qi acc E)[k]? = some y ∧ k < acc.length + j ∧ i ∈ y
 | [], acc, j, es, h => by simp at h
 | e :: E, acc, 0, es, h => by
  simp at h; subst h
  refine ⟨e ++ e.flatMap fun k => acc.getD k [], tV E _ _ _ (by simp), fun i hi => ?_⟩
  rcases List.mem_append.1 hi with h1 | h1
  ·exact .inl h1
  ·obtain ⟨k, hk, hik⟩ := List.mem_flatMap.1 h1
   have hlt : k < acc.length := by
    rcases Nat.lt_or_ge k acc.length with h | h
    ·exact h
    ·rw [List.getD_eq_getElem?_getD, List.getElem?_eq_none h] at hik; simp at hik
   refine .inr ⟨k, hk, acc.getD k [], ?_, ?_, hik⟩
   ·refine tV E _ k _ ?_
    rw [List.getElem?_append_left hlt, List.getD_eq_getElem?_getD, List.getElem?_eq_getElem hlt]; rfl
   ·omega
 | e :: E, acc, j + 1, es, h => by
  obtain ⟨x, h1, h2⟩ := po E (acc ++ [e ++ e.flatMap fun k => acc.getD k []]) j es (by simpa using h)
  refine ⟨x, ?_, fun i hi => ?_⟩
  ·rw [show acc.length + (j + 1) = (acc ++ [e ++ e.flatMap fun k => acc.getD k []]).length + j by simp; omega]; exact h1
  ·rcases h2 i hi with h3 | ⟨k, hk, y, h4, h5, h6⟩
   ·exact .inl h3
   ·exact .inr ⟨k, hk, y, h4, by simp at h5; omega, h6⟩
def xW (i : Nat) (r : List aI × St) : Nat → List (List aI × St) → List (List Nat) → Bool
 | _, [], _ => true
 | j, q :: rs, A => (!na r q || (A.getD j []).contains i) && xW i r (j + 1) rs A
def gE : Nat → List (List aI × St) → List (List Nat) → Bool
 | _, [], _ => true
 | i, r :: rs, A => xW i r (i + 1) rs A && gE (i + 1) rs A
theorem sL {i : Nat} {r : List aI × St} {A : List (List Nat)} : ∀ {rs : List (List aI × St)} {k : Nat}, xW i r k rs A = true → ∀ (j : Nat) q, rs[j]? = some q → na r q = true → i ∈ A.getD (k + j) []
 | [], k, h, j, q, hq, hc => by simp at hq
 | q' :: rs, k, h, 0, q, hq, hc => by
  simp at hq; subst hq
  simp only [xW, Bool.and_eq_true, hc, Bool.not_true, Bool.false_or] at h
  simpa using h.1
 | q' :: rs, k, h, j + 1, q, hq, hc => by
  simp only [xW, Bool.and_eq_true] at h
  have := sL h.2 j q (by simpa using hq) hc
  rwa [show k + 1 + j = k + (j + 1) by omega] at this
theorem jQ {A : List (List Nat)} : ∀ {rs : List (List aI × St)} {k : Nat}, gE k rs A = true → ∀ (i j : Nat) r q, i < j → rs[i]? = some r → rs[j]? = some q → na r q = true → k + i ∈ A.getD (k + j) []
 | [], k, h, i, j, r, q, _, hr, _, _ => by simp at hr
 | r' :: rs, k, h, 0, j, r, q, hij, hr, hq, hc => by
  simp at hr; subst hr
  simp only [gE, Bool.and_eq_true] at h
  obtain ⟨j', rfl⟩ : ∃ j', j = j' + 1 := ⟨j - 1, by omega⟩
  have := sL h.1 j' q (by simpa using hq) hc
  rwa [show k + 1 + j' = k + (j' + 1) by omega] at this
 | r' :: rs, k, h, i + 1, j, r, q, hij, hr, hq, hc => by
  simp only [gE, Bool.and_eq_true] at h
  obtain ⟨j', rfl⟩ : ∃ j', j = j' + 1 := ⟨j - 1, by omega⟩
  have := jQ h.2 i j' r q (by omega) (by simpa using hr) (by simpa using hq) hc
  rwa [show k + 1 + j' = k + (j' + 1) by omega, show k + 1 + i = k + (i + 1) by omega] at this
def fU : Nat → List (List Nat) → Bool
 | _, [] => true
 | k, es :: r => es.all (fun e => decide (e < k)) && fU (k + 1) r
theorem pn : ∀ {E : List (List Nat)} {k : Nat}, fU k E = true → ∀ (j : Nat) es, E[j]? = some es → ∀ e ∈ es, e < k + j
 | [], k, h, j, es, he, _, _ => by simp at he
 | x :: E, k, h, 0, es, he, e, hm => by
  simp at he; subst he
  simp only [fU, Bool.and_eq_true] at h
  simpa using List.all_eq_true.1 h.1 e hm
 | x :: E, k, h, j + 1, es, he, e, hm => by
  simp only [fU, Bool.and_eq_true] at h
  have := pn h.2 j es (by simpa using he) e hm
  omega
section
variable {P : Program} {N : Nat} {ops : Array Oper}
theorem nG.spec {l : List Oper} {s s' : St} {rs : List (List aI × St)} (h : nG P N ops l s rs s') : l.length = rs.length ∧ (∀ (i : Nat) o, l[i]? = some o → ∃ R ws s1, rs[i]? = some (R, ws) ∧ bq P N ops o s1 R ws ∧ ∀ (c : aI) (k : Nat), get s1 c = get (lX (fun j => decide (j < k + i)) k rs s) c) ∧ ∀ (c : aI) (k : Nat), get s' c = get (lX (fun _ => true) k rs s) c := by
 induction h with
 | nil s => exact ⟨rfl, fun i o h => by simp at h, fun c k => rfl⟩
 | @cons o l s R ws rs s' hs _ ih =>
  obtain ⟨h1, h2, h3⟩ := ih
  refine ⟨by simp [h1], fun i o' hi => ?_, fun c k => ?_⟩
  ·cases i with
   | zero =>
    simp at hi; subst hi
    refine ⟨R, ws, s, rfl, hs, fun c k => ?_⟩
    have : get (lX (fun j => decide (j < k + 0)) k ((R, ws) :: rs) s) c = get (lX (fun _ => false) k ((R, ws) :: rs) s) c := by
     refine db c _ k _ _ _ _ rfl fun i r _ _ => ?_
     simp
    rw [this]
    have hid : ∀ (rs : List (List aI × St)) (k : Nat) (u : St), lX (fun _ => false) k rs u = u := by
     intro rs
     induction rs with
     | nil => intro k u; rfl
     | cons q rs ih => intro k u; simp only [lX]; exact ih _ _
    rw [hid]
   | succ i =>
    obtain ⟨R', ws', s1, q1, q2, q3⟩ := h2 i o' (by simpa using hi)
    refine ⟨R', ws', s1, by simpa using q1, q2, fun c k => ?_⟩
    rw [q3 c (k + 1)]
    have : decide (k < k + (i + 1)) = true := by simp
    simp only [lX, this, if_true]
    rw [show k + 1 + i = k + (i + 1) by omega]
  ·rw [h3 c (k + 1)]
   simp only [lX, if_true]
theorem uv {i : Nat} {o : Oper} (hi : ops[i]? = some o) {K : Act → World → Prop} {Q : Exit → Act → World → Prop} {a : Act} {w : World} (h : if Region.wanted o (yielded ops a.tmps) then o.wp P a w K Q else K (a.put o.dst undef) w) : wpOp P ops Q i K a w := by
 unfold wpOp
 simp only [hi]
 split
 ·rename_i hw; rw [if_pos hw] at h; exact .inl h
 ·rename_i hw; rw [if_neg hw] at h; exact h
theorem uR {listed : Array Bool} (hsz : listed.size = ops.size) (hb : ∀ i o, ops[i]? = some o → ∀ e ∈ dD o, e < i) (h : Region.ready .any ops listed = []) : ∀ i, i < ops.size → listed.getD i false = true := by
 intro i
 induction i using Nat.strongRecOn with
 | _ i ih =>
  intro hi
  cases hl : listed.getD i false with
  | true => rfl
  | false =>
   exfalso
   have ho : ops[i]? = some ops[i] := Array.getElem?_eq_getElem hi
   have hm : i ∈ Region.ready .any ops listed := by
    unfold Region.ready
    rw [List.mem_filter]
    refine ⟨by simpa using hi, ?_⟩
    have h1 : listed.getD i true = false := by
     rw [Array.getD_eq_getD_getElem?, Array.getElem?_eq_getElem (by omega)] at hl ⊢
     simpa using hl
    simp only [h1, Bool.not_false, Bool.true_and, ho, Option.map_some, Option.getD_some]
    rw [Array.all_eq_true']
    intro e he
    cases hbd : Region.binds .any e with
    | false => rfl
    | true =>
     have hme : e.on ∈ dD ops[i] := by
      unfold dD
      exact List.mem_map.2 ⟨e, List.mem_filter.2 ⟨Array.mem_toList_iff.2 he, hbd⟩, rfl⟩
     have hlt := hb i _ ho e.on hme
     simpa using ih e.on hlt (by omega)
   rw [h] at hm; cases hm
def yc : List Bool → Nat
 | [] => 0
 | true :: l => yc l + 1
 | false :: l => yc l
theorem AH : ∀ l, yc l ≤ l.length
 | [] => Nat.le_refl _
 | true :: l => by have := AH l; simp only [yc, List.length_cons]; omega
 | false :: l => by have := AH l; simp only [yc, List.length_cons]; omega
theorem vz : ∀ (l : List Bool) (i : Nat), l[i]? = some false → yc l < l.length
 | [], i, h => by simp at h
 | b :: l, 0, h => by simp at h; subst h; have := AH l; simp only [yc, List.length_cons]; omega
 | true :: l, i + 1, h => by have := vz l i (by simpa using h); simp only [yc, List.length_cons]; omega
 | false :: l, i + 1, h => by have := vz l i (by simpa using h); simp only [yc, List.length_cons]; omega
theorem qz : ∀ (l : List Bool) (i : Nat), l[i]? = some false → yc (l.set i true) = yc l + 1
 | [], i, h => by simp at h
 | b :: l, 0, h => by simp at h; subst h; simp only [List.set_cons_zero, yc]
 | true :: l, i + 1, h => by have := qz l i (by simpa using h); simp only [List.set_cons_succ, yc, this]
 | false :: l, i + 1, h => by have := qz l i (by simpa using h); simp only [List.set_cons_succ, yc, this]
theorem aK.draw {s s' : St} {id : Nat} {l : List Oper} {rs : List (List aI × St)} {Q : Exit → St → Prop} (hm : P.follows .mixedOrders = true) (hc : nG P N l.toArray l s rs s') (hback : fU 0 (l.map dD) = true) (hord : gE 0 rs (qi [] (l.map dD)) = true) (hQ : Kept s' (Q .normal)) :
  aK P N (.region id l.toArray true) s Q := by
 intro E a w ⟨G, L, hr⟩
 obtain ⟨hlen, hstep, hend⟩ := hc.spec
 have hsize : l.toArray.size = l.length := by simp
 have hop : ∀ (i : Nat) o, l.toArray[i]? = some o → l[i]? = some o := fun i o h => by simpa using h
 have hbk : ∀ i o, l.toArray[i]? = some o → ∀ e ∈ dD o, e < i := fun i o h e he => by
  have := pn hback i (dD o) (by simp [hop i o h]) e he
  omega
 refine wp_region_any hm ?_
 have hr0 : Rel E N G L a { w with drawn := w.drawn + 1 } s := by
  obtain ⟨H0, gH, hokH, hmayH⟩ := hr.heap
  have hst := hokH.stay (w' := { w with drawn := w.drawn + 1 }) (Gh.le.refl G) rfl (fun b hb => (hokH.aa hb).2) (fun _ _ => rfl) (Nat.le_refl _)
  refine ⟨hr.size, hr.defs, hr.ge, hr.kn, hr.old, hr.obs, hr.obn, ⟨hr.fr.os, hr.fr.tape, hr.fr.output, hr.fr.size, hr.fr.block⟩, hr.slot, hr.box, hr.tok, hr.disj, ⟨H0, gH, hst.1, fun b hb => hmayH b ((hst.2 b).1 hb)⟩, fun c b hc H2 g2 e2 => ?_, hr.nobox, hr.notok⟩
  rw [gH] at g2; cases g2
  exact hr.hdisj c b hc _ gH ((hst.2 b).1 e2)
 -- whatever has come up: the state behind it
 have key : ∀ (fuel : Nat) (listed : Array Bool) (t : St) (a : Act) (w : World), listed.size = l.length →
   (∀ j o, l[j]? = some o → listed.getD j false = true → ∀ e ∈ dD o, listed.getD e false = true) → (∀ c, get t c = get (lX (fun j => listed.getD j false) 0 rs s) c) → Fits E N t a w →
   (l.length ≤ fuel + yc listed.toList) → wpAny P .any l.toArray (fun e a' w' => ∃ s', Fits E N s' a' w' ∧ Q e s') fuel listed a w := by
  have fin : ∀ (listed : Array Bool) (t : St) (a : Act) (w : World), listed.size = l.length → (∀ c, get t c = get (lX (fun j => listed.getD j false) 0 rs s) c) → Fits E N t a w → Region.ready .any l.toArray listed = [] → ∃ s', Fits E N s' a w ∧ Q .normal s' := by
   intro listed t a w hsz ht ⟨G, L, hr⟩ hnil
   have hall := uR (by rw [hsz, hsize]) hbk hnil
   refine hQ E N a w ⟨G, L, hr.ext fun c => ?_⟩
   rw [ht c, hend c 0]
   refine db c rs 0 _ _ _ _ rfl fun i r hi _ => ?_
   have hlt : i < rs.length := (List.getElem?_eq_some_iff.1 hi).1
   simp only [Nat.zero_add]
   exact (hall i (by rw [hsize]; omega)).symm
  intro fuel
  induction fuel with
  | zero =>
   intro listed t a w hsz hcl ht hf hcount
   have hnil : Region.ready .any l.toArray listed = [] := by
    cases hrd : Region.ready .any l.toArray listed with
    | nil => rfl
    | cons i r =>
     exfalso
     have hi : i ∈ Region.ready .any l.toArray listed := by rw [hrd]; exact List.mem_cons_self ..
     unfold Region.ready at hi
     rw [List.mem_filter] at hi
     have h1 : listed.getD i true = false := by
      have := hi.2
      simp only [Bool.and_eq_true, Bool.not_eq_true'] at this
      exact this.1
     have hlt : i < listed.size := by
      rcases Nat.lt_or_ge i listed.size with h | h
      ·exact h
      ·rw [Array.getD_eq_getD_getElem?, Array.getElem?_eq_none h] at h1; cases h1
     have h2 : listed[i] = false := by
      rw [Array.getD_eq_getD_getElem?, Array.getElem?_eq_getElem hlt] at h1; simpa using h1
     have h3 := vz listed.toList i (by rw [Array.getElem?_toList, Array.getElem?_eq_getElem hlt, h2])
     have h4 : listed.toList.length = listed.size := Array.length_toList
     omega
   exact ⟨hnil, fin listed t a w hsz ht hf hnil⟩
  | succ fuel ih =>
   intro listed t a w hsz hcl ht ⟨G, L, hr⟩ hcount
   refine ⟨fun hnil => fin listed t a w hsz ht ⟨G, L, hr⟩ hnil, fun i hi => ?_⟩
   unfold Region.ready at hi
   rw [List.mem_filter] at hi
   obtain ⟨hi1, hi2⟩ := hi
   simp only [Bool.and_eq_true, Bool.not_eq_true'] at hi2
   have hlt : i < l.length := by simpa using hi1
   have hlt' : i < listed.size := by omega
   have hli : listed[i] = false := by
    have := hi2.1
    rw [Array.getD_eq_getD_getElem?, Array.getElem?_eq_getElem hlt'] at this; simpa using this
   have hlif : listed.getD i false = false := by rw [Array.getD_eq_getD_getElem?, Array.getElem?_eq_getElem hlt']; simpa using hli
   have ho : l[i]? = some l[i] := List.getElem?_eq_getElem hlt
   obtain ⟨R, ws, s1, q1, q2, q3⟩ := hstep i l[i] ho
   -- what it waits for has come up
   have hedge : ∀ e ∈ dD l[i], listed.getD e false = true := by
    intro e he
    have h2 := hi2.2
    simp only [List.getElem?_toArray, ho, Option.map_some, Option.getD_some] at h2
    rw [Array.all_eq_true'] at h2
    unfold dD at he
    obtain ⟨x, hx, rfl⟩ := List.mem_map.1 he
    obtain ⟨hx1, hx2⟩ := List.mem_filter.1 hx
    have := h2 x (Array.mem_toList_iff.1 hx1)
    simpa [hx2] using this
   -- closed under what is waited for
   have hanc : ∀ (j : Nat), (j = i ∨ listed.getD j false = true) → j < l.length → ∀ k ∈ (qi [] (l.map dD)).getD j [], listed.getD k false = true := by
    intro j
    induction j using Nat.strongRecOn with
    | _ j ihj =>
     intro hj hjl k hk
     have hoj : l[j]? = some l[j] := List.getElem?_eq_getElem hjl
     obtain ⟨x, hx1, hx2⟩ := po (l.map dD) [] j (dD l[j]) (by simp [hjl])
     simp only [List.length_nil, Nat.zero_add] at hx1 hx2
     have hk' : k ∈ x := by rw [List.getD_eq_getElem?_getD, hx1] at hk; exact hk
     have hej : ∀ e ∈ dD l[j], listed.getD e false = true := by
      rcases hj with rfl | hj
      ·exact hedge
      ·exact hcl j l[j] hoj hj
     rcases hx2 k hk' with h | ⟨m, hm1, y, hy, hmlt, hky⟩
     ·exact hej k h
     ·refine ihj m hmlt (.inr (hej m hm1)) (by omega) k ?_
      rw [List.getD_eq_getElem?_getD, hy]; exact hky
   have hrlt : ∀ (j : Nat) q, rs[j]? = some q → j < l.length := fun j q h => by have := (List.getElem?_eq_some_iff.1 h).1; omega
   have hreads : Reads R s1 t := by
    intro c hc
    rw [ht c, q3 c 0]
    refine db c rs 0 _ _ _ _ rfl fun j q hj hne => ?_
    simp only [Nat.zero_add]
    have hwc := pU hne
    by_cases hji : j < i
    ·have hcf : na q (R, ws) = true := by
      simp only [na, Bool.or_eq_true]
      exact .inl (k6 hwc (List.mem_append.2 (.inl hc)))
     have hmem := jQ hord j i q (R, ws) hji hj q1 hcf
     simp only [Nat.zero_add] at hmem
     rw [hanc i (.inl rfl) hlt j hmem]
     simp [hji]
    ·by_cases hje : j = i
     ·subst hje
      rw [hlif]; simp
     ·have hcf : na (R, ws) q = true := by
       simp only [na, Bool.or_eq_true]
       exact .inr (k6 hc hwc)
      cases hlj : listed.getD j false with
      | false => simp [hji]
      | true =>
       exfalso
       have hmem := jQ hord i j (R, ws) q (by omega) q1 hj hcf
       simp only [Nat.zero_add] at hmem
       have := hanc j (.inr hlj) (hrlt j q hj) i hmem
       rw [hlif] at this; cases this
   refine uv (by simp [ho]) (q2 t hreads E G L a w hr _ _ fun a' w' G' L' hr' => ?_)
   have hset : ∀ j, (listed.setIfInBounds i true).getD j false = if j = i then true else listed.getD j false := by
    intro j
    rw [Array.getD_eq_getD_getElem?, Array.getD_eq_getD_getElem?]
    by_cases hj : j = i
    ·subst hj
     rw [Array.getElem?_setIfInBounds_self_of_lt hlt']; simp
    ·rw [Array.getElem?_setIfInBounds_ne (Ne.symm hj), if_neg hj]
   refine ih (listed.setIfInBounds i true) (ws ++ t) a' w' (by simpa using hsz) ?_ ?_ ⟨G', L', hr'⟩ ?_
   ·intro j o hj hlj e he
    rw [hset] at hlj ⊢
    split
    ·rfl
    ·by_cases hji : j = i
     ·subst hji
      rw [ho] at hj; cases hj
      exact hedge e he
     ·rw [if_neg hji] at hlj
      exact hcl j o hj hlj e he
   ·intro c
    have hf : (fun j => (listed.setIfInBounds i true).getD j false) = fun j => if j = i then true else listed.getD j false := funext hset
    rw [hf, get_append]
    cases hw : get ws c with
    | none =>
     simp only
     rw [ht c]
     refine db c rs 0 _ _ _ _ rfl fun j q hj hne => ?_
     simp only [Nat.zero_add]
     by_cases hji : j = i
     ·subst hji
      rw [q1] at hj; cases hj
      exact absurd hw hne
     ·rw [if_neg hji]
    | some v =>
     simp only
     symm
     refine rN c rs 0 _ s i (R, ws) v q1 (by simp) hw fun j q hij hj hfj => ?_
     simp only [Nat.zero_add] at hfj
     rw [if_neg (by omega)] at hfj
     cases hqc : get q.2 c with
     | none => rfl
     | some u =>
      exfalso
      have hwc : c ∈ cw (R, ws) := pU (by rw [hw]; simp)
      have hqw : c ∈ cw q := pU (by rw [hqc]; simp)
      have hcf : na (R, ws) q = true := by
       simp only [na, Bool.or_eq_true]
       exact .inl (k6 hwc (List.mem_append.2 (.inr hqw)))
      have hmem := jQ hord i j (R, ws) q hij q1 hj hcf
      simp only [Nat.zero_add] at hmem
      have := hanc j (.inr hfj) (hrlt j q hj) i hmem
      rw [hlif] at this; cases this
   ·have e1 : (listed.setIfInBounds i true).toList = listed.toList.set i true := by simp
    have hcnt := qz listed.toList i (by rw [Array.getElem?_toList, Array.getElem?_eq_getElem hlt', hli])
    rw [e1, hcnt]
    omega
 have h0 := key l.length (Array.replicate l.length false) s a { w with drawn := w.drawn + 1 } (by simp) (fun j o hj hlj => by
  rw [Array.getD_eq_getD_getElem?] at hlj
  have hj' := (List.getElem?_eq_some_iff.1 hj).1
  simp [hj'] at hlj) (fun c => by
  have : get (lX (fun j => (Array.replicate l.length false).getD j false) 0 rs s) c = get (lX (fun _ => false) 0 rs s) c := by
   refine db c rs 0 _ _ _ _ rfl fun j q hj _ => ?_
   have hj' := (List.getElem?_eq_some_iff.1 hj).1
   have : j < l.length := by omega
   simp [Array.getD_eq_getD_getElem?, this]
  rw [this]
  have hid : ∀ (rs : List (List aI × St)) (k : Nat) (u : St), lX (fun _ => false) k rs u = u := by
   intro rs
   induction rs with
   | nil => intro k u; rfl
   | cons q rs ih => intro k u; simp only [lX]; exact ih _ _
  rw [hid]) ⟨G, L, hr0⟩ (by omega)
 simpa using h0
end

theorem aH {a b : Nat} (h : Nat.ble (a + 1) b = true) : a < b := Nat.le_of_ble_eq_true h
theorem gQ {a b : Nat} (h : Nat.ble a b = true) : a ≤ b := Nat.le_of_ble_eq_true h
section
variable {P : Program} {N : Nat} {ops : Array Oper} {l : List Oper} {s : St} {Q : St → Prop} {o : Oper} {R : List aI}
theorem aD.c1 {c : aI} {v : CV} (hg : o.guard = none) (ho : aW P N o s R [(c, v)]) (h : aD P N ops l ((c, v) :: s) Q) : aD P N ops (o :: l) s Q := aD.cons hg ho h
theorem aD.c2 {c d : aI} {v u : CV} (hg : o.guard = none) (ho : aW P N o s R [(c, v), (d, u)]) (h : aD P N ops l ((c, v) :: (d, u) :: s) Q) : aD P N ops (o :: l) s Q := aD.cons hg ho h
theorem aD.c3 {c d e : aI} {v u y : CV} (hg : o.guard = none) (ho : aW P N o s R [(c, v), (d, u), (e, y)]) (h : aD P N ops l ((c, v) :: (d, u) :: (e, y) :: s) Q) : aD P N ops (o :: l) s Q := aD.cons hg ho h
theorem aD.g1 {c : aI} {v : CV} {d : Nat} {b b' : Bool} (hg : gL ops o = some (d, b)) (hN : d < N) (hc : get s (.s d) = some (.sv (.v (.bool b')))) (hb : b' = b) (ho : aW P N o s R [(c, v)]) (h : aD P N ops l ((c, v) :: s) Q) : aD P N ops (o :: l) s Q := aD.on hN hg (hb ▸ hc) ho h
theorem aD.split {d : Nat} {b : Bool} (hc : get s (.s d) = some (.sv (.v (.bool b)))) (h1 : b = true → aD P N ops l s Q) (h2 : b = false → aD P N ops l s Q) : aD P N ops l s Q := by
 cases b
 ·exact h2 rfl
 ·exact h1 rfl
def aY (P : Program) (N : Nat) (ops : Array Oper) (A : List (List Nat)) (Q : St → Prop) (acc : List (List aI × St)) (l : List Oper) (s : St) : Prop := ∃ rs s', nG P N ops l s rs s' ∧ gE 0 (acc ++ rs) A = true ∧ Kept s' Q
theorem aY.nil {A : List (List Nat)} {acc : List (List aI × St)} (ho : gE 0 acc A = true) (hk : Kept s Q) : aY P N ops A Q acc [] s := ⟨[], s, .nil s, by simpa using ho, hk⟩
theorem aY.cons {A : List (List Nat)} {acc : List (List aI × St)} {ws : St} (hs : bq P N ops o s R ws) (h : aY P N ops A Q (acc ++ [(R, ws)]) l (ws ++ s)) : aY P N ops A Q acc (o :: l) s := by
 obtain ⟨rs, s', h1, h2, h3⟩ := h
 exact ⟨(R, ws) :: rs, s', .cons hs h1, by simpa using h2, h3⟩
theorem aY.c1 {A : List (List Nat)} {acc : List (List aI × St)} {c : aI} {v : CV} (hg : o.guard = none) (ho : aW P N o s R [(c, v)]) (h : aY P N ops A Q (acc ++ [(R, [(c, v)])]) l ((c, v) :: s)) : aY P N ops A Q acc (o :: l) s := aY.cons (bq.free hg ho) h
theorem aY.c2 {A : List (List Nat)} {acc : List (List aI × St)} {c d : aI} {v u : CV} (hg : o.guard = none) (ho : aW P N o s R [(c, v), (d, u)]) (h : aY P N ops A Q (acc ++ [(R, [(c, v), (d, u)])]) l ((c, v) :: (d, u) :: s)) : aY P N ops A Q acc (o :: l) s := aY.cons (bq.free hg ho) h
theorem aY.c3 {A : List (List Nat)} {acc : List (List aI × St)} {c d e : aI} {v u y : CV} (hg : o.guard = none) (ho : aW P N o s R [(c, v), (d, u), (e, y)]) (h : aY P N ops A Q (acc ++ [(R, [(c, v), (d, u), (e, y)])]) l ((c, v) :: (d, u) :: (e, y) :: s)) : aY P N ops A Q acc (o :: l) s := aY.cons (bq.free hg ho) h
theorem aY.g1 {A : List (List Nat)} {acc : List (List aI × St)} {c : aI} {v : CV} {d : Nat} {b b' : Bool} (hg : gL ops o = some (d, b)) (hN : d < N) (hc : get s (.s d) = some (.sv (.v (.bool b')))) (hb : b' = b) (ho : aW P N o s R [(c, v)]) (h : aY P N ops A Q (acc ++ [(.s d :: R, [(c, v)])]) l ((c, v) :: s)) : aY P N ops A Q acc (o :: l) s := aY.cons (bq.on hN hg (hb ▸ hc) ho) h
end
theorem aK.xz {P : Program} {N : Nat} {s : St} {Q : Exit → St → Prop} {t : Nat} {c d : Code} {b : Bool} (hc : get s (.s t) = some (.sv (.v (.bool b)))) (hb : b = true) (h : aK P N c s Q) : aK P N (.cond (.tmp t) c d) s Q :=
 aK.cond hc (fun _ => h) (fun e => by rw [hb] at e; cases e)
theorem aK.q7 {P : Program} {N : Nat} {s : St} {Q : Exit → St → Prop} {t : Nat} {c d : Code} {b : Bool} (hc : get s (.s t) = some (.sv (.v (.bool b)))) (hb : b = false) (h : aK P N d s Q) : aK P N (.cond (.tmp t) c d) s Q :=
 aK.cond hc (fun e => by rw [hb] at e; cases e) (fun _ => h)
section
variable {P : Program} {N : Nat} {s : St} {d : Nat} {ty : TypeId} {pos : String} {af : Array Edge} {g : Option (Nat × Bool)}
theorem mE {c x y : Operand} {b : Bool} {z : Sv} (hN : d < N) (hc : cV c s = some (.bool b)) (hb : b = true) (hx : gS x s = some z) :
  aW P N ⟨some d, .pick c x y, ty, pos, af, g⟩ s (rd c ++ (rd x ++ rd y)) [(.s d, .sv z)] := Ay hN hc (by rw [hb]; exact hx)
theorem oN {c x y : Operand} {b : Bool} {z : Sv} (hN : d < N) (hc : cV c s = some (.bool b)) (hb : b = false) (hy : gS y s = some z) :
  aW P N ⟨some d, .pick c x y, ty, pos, af, g⟩ s (rd c ++ (rd x ++ rd y)) [(.s d, .sv z)] := Ay hN hc (by rw [hb]; exact hy)
end
theorem aK.drawn {P : Program} {N : Nat} {s : St} {id : Nat} {l : List Oper} {Q : Exit → St → Prop} (hm : P.follows .mixedOrders = true) (hback : fU 0 (l.map dD) = true) (h : aY P N l.toArray (qi [] (l.map dD)) (Q .normal) [] l s) : aK P N (.region id l.toArray true) s Q := by
 obtain ⟨rs, s', h1, h2, h3⟩ := h
 exact aK.draw hm h1 hback (by simpa using h2) h3

theorem aK.blk {P : Program} {N : Nat} {s : St} {Q : Exit → St → Prop} {id : Nat} {c : Code} (h : aK P N c s fun e s' => match e with | .exit id' => bif Nat.beq id' id then Q .normal s' else Q (.exit id') s' | e => Q e s') : aK P N (.block id c) s Q := by
 refine aK.block (h.mono ?_)
 intro e s' hq
 cases e with
 | exit id' =>
  by_cases hid : id' = id
  ·subst hid
   have hb : Nat.beq id' id' = true := Nat.beq_refl id'
   simp only [hb, cond_true] at hq
   simp only [if_true]
   exact hq
  ·have : Nat.beq id' id = false := by
    cases hb : Nat.beq id' id with
    | false => rfl
    | true => exact absurd (Nat.eq_of_beq_eq_true hb) hid
   simp only [this, cond_false] at hq
   simp only [hid, if_false]
   exact hq
 | _ => exact hq
theorem aM.r1 {P : Program} {fn : Func} {s : St} {x : ResultVar} {a : AV} (hf : fn.results = [x].toArray) (h : py P s [x] [a]) : aM P fn s a := aM.mk hf h
theorem aM.r2 {P : Program} {fn : Func} {s : St} {x y : ResultVar} {a b : AV} (hf : fn.results = [x, y].toArray) (h : py P s [x, y] [a, b]) : aM P fn s (.tup [a, b]) := aM.mk hf h
theorem aM.r3 {P : Program} {fn : Func} {s : St} {x y z : ResultVar} {a b c : AV} (hf : fn.results = [x, y, z].toArray) (h : py P s [x, y, z] [a, b, c]) : aM P fn s (.tup [a, b, c]) := aM.mk hf h
theorem aM.r0 {P : Program} {fn : Func} {s : St} (hf : fn.results = #[]) : aM P fn s (.tup []) := aM.mk (l := []) hf .nil
theorem aM.cast {P : Program} {fn : Func} {s : St} {r r' : AV} (h : aM P fn s r) (e : r = r') : aM P fn s r' := e ▸ h
theorem Pure.ah {P : Program} {f : FuncId} {fn : Func} {c : Code} {N : Nat} {args : List AV} {r : AV} (hf : P.funcs[f]? = some fn) (hb : fn.body = some c) (hN : fn.ntmps = N) (hle : args.length ≤ N)
  (h : ∀ H, aK P N c ((.h, .hp H) :: fF args 0) fun e s' => (e = .normal ∨ e = .ret) ∧ aM P fn s' r ∧ get s' .h = some (.hp H)) : Pure P f args r := fun H => cB.ah hf hb hN hle (h H)

theorem Rel.re {E : eB} {N : Nat} {G : Gh} {L : Loc} {a : Act} {w : World} {s : St} (h : Rel E N G L a w s) {j : Nat} {y : Sv} (hv : SV G L (a.tmps.getD j undef) y) : Rel E N G L a w ((.s j, .sv y) :: s) := by
 have ho : ∀ c blk, owns ((.s j, .sv y) :: s) L c blk → owns s L c blk := by
  intro c blk hc
  cases c <;> simp only [owns, get, reduceCtorEq, if_false] at hc ⊢ <;> exact hc
 refine ⟨h.size, h.defs, h.ge, h.kn, h.old, h.obs, h.obn, h.fr, ?_, fun k cv g => h.box k cv (by simpa [get] using g), fun k m el esz xs g => h.tok k m el esz xs (by simpa [get] using g),
  fun c d b hc hd => h.disj c d b (ho _ _ hc) (ho _ _ hd), by simpa [get] using h.heap, fun c b hc H g => h.hdisj c b (ho _ _ hc) H (by simpa [get] using g), fun k g => h.nobox k (by simpa [get] using g), fun k g => h.notok k (by simpa [get] using g)⟩
 intro n x g
 by_cases e : j = n
 ·subst e; simp [get] at g; subst g; exact hv
 ·exact h.slot n x (by simpa [get, e] using g)
theorem Kept.lp {s : St} {Q : St → Prop} (j k : Nat) {id off : Nat} {cs : List Sv} (hj : get s (.s j) = some (.sv (.v (.op id off)))) (hk : get s (.b k) = some (.ob id cs)) (h : Kept ((.s j, .sv (.lp k off)) :: s) Q) : Kept s Q := fun E N a w ⟨G, L, hr⟩ => by
 obtain ⟨blk, o, q1, q2, q3, q4, q5, q6⟩ := hr.box k _ hk rfl
 have hv : V G (a.tmps.getD j undef) (.op id off) := hr.slot j _ hj
 generalize hu : a.tmps.getD j undef = u at hv
 cases hv with
 | op _ _ b hb =>
  have q6' : G.ob id = some blk := q6
  rw [q6'] at hb; cases hb
  exact h E N a w ⟨G, L, hr.re (by rw [hu]; exact ⟨_, q1, rfl⟩)⟩
theorem Kept.op {s : St} {Q : St → Prop} (j : Nat) {k id off : Nat} {cs : List Sv} (hj : get s (.s j) = some (.sv (.lp k off))) (hk : get s (.b k) = some (.ob id cs)) (h : Kept ((.s j, .sv (.v (.op id off))) :: s) Q) : Kept s Q := fun E N a w ⟨G, L, hr⟩ => by
 obtain ⟨blk, o, q1, q2, q3, q4, q5, q6⟩ := hr.box k _ hk rfl
 obtain ⟨b, hb, hv⟩ := hr.slot j _ hj
 rw [q1] at hb; cases hb
 refine h E N a w ⟨G, L, hr.re (by rw [hv]; exact V.op id off _ q6)⟩

def Gh.qO (G : Gh) (id blk n : Nat) : Gh := ⟨G.kn, fun i => if i = id then some blk else G.ob i, fun i => if i = id then n else G.sz i⟩
theorem Rel.qO {E : eB} {N : Nat} {G : Gh} {L : Loc} {a : Act} {w : World} {s : St} (h : Rel E N G L a w s) {k : Nat} {cs : List Sv} {H : Hp} (hk : get s (.b k) = some (.bx cs)) (hH : get s .h = some (.hp H)) :
  ∃ G', Rel E N G' L a w ((.b k, .ob H.next cs) :: (.h, .hp ⟨H.next + 1, H.obj⟩) :: s) := by
 obtain ⟨blk, o, hb, hbase, hh, hobj, hno, hlk⟩ := h.box k _ hk rfl
 have hlk : E.w0.heap.size ≤ blk ∧ ∀ id, G.ob id ≠ some blk := hlk
 obtain ⟨H0, gH, hok, hmay⟩ := h.heap
 rw [hH] at gH; cases gH
 have hmine : owns s L (.b k) blk := ⟨⟨_, hk, rfl⟩, hb⟩
 have hnf : ¬ aa G H w blk := h.hdisj _ _ hmine H hH
 let G' := G.qO H.next blk cs.length
 have hnew : G.ob H.next = none := by
  cases e : G.ob H.next with
  | none => rfl
  | some b => have := (hok.lt _ _ e).1; omega
 have hle : G.le G' := ⟨fun b o v e => e, fun id b e => by
  show (if id = H.next then some blk else G.ob id) = some b
  rw [if_neg (fun e2 => by rw [e2, hnew] at e; cases e)]; exact e, fun id b e => by
  show (if id = H.next then cs.length else G.sz id) = G.sz id
  rw [if_neg (fun e2 => by rw [e2, hnew] at e; cases e)]⟩
 have hob : ∀ id b, G'.ob id = some b → (id = H.next ∧ b = blk) ∨ (id ≠ H.next ∧ G.ob id = some b) := by
  intro id b e
  by_cases e2 : id = H.next
  ·refine .inl ⟨e2, ?_⟩
   have : (if id = H.next then some blk else G.ob id) = some b := e
   rw [if_pos e2] at this; cases this; rfl
  ·refine .inr ⟨e2, ?_⟩
   have : (if id = H.next then some blk else G.ob id) = some b := e
   rwa [if_neg e2] at this
 have hob1 : G'.ob H.next = some blk := by show (if H.next = H.next then some blk else G.ob H.next) = some blk; rw [if_pos rfl]
 have hnone : H.obj H.next = none := by
  cases e : H.obj H.next with
  | none => rfl
  | some hs => obtain ⟨b, _, _, q, _⟩ := hok.obj _ _ e; rw [hnew] at q; cases q
 have hrw : ∀ H' : Hp, H'.obj = H.obj → ∀ id j b, bw G' H' w id j b → bw G H w id j b := by
  rintro H' e id j b ⟨cs, el, esz, xs, b0, arr, t, fr, h1, h2, h3, h4, h5⟩
  rw [e] at h1
  refine ⟨cs, el, esz, xs, b0, arr, t, fr, h1, h2, ?_, h4, h5⟩
  rcases hob _ _ h3 with ⟨rfl, _⟩ | ⟨_, q⟩
  ·rw [hnone] at h1; cases h1
  ·exact q
 have hft : ∀ H' : Hp, H'.obj = H.obj → ∀ b, aa G' H' w b → aa G H w b := by
  rintro H' e b (⟨id, ⟨hs, h1⟩, h2⟩ | ⟨id, j, hr⟩)
  ·rw [e] at h1
   rcases hob _ _ h2 with ⟨rfl, _⟩ | ⟨_, q⟩
   ·rw [hnone] at h1; cases h1
   ·exact .inl ⟨id, ⟨hs, h1⟩, q⟩
  ·exact .inr ⟨id, j, hrw H' e id j b hr⟩
 have hown : ∀ c b, owns ((.b k, .ob H.next cs) :: (.h, .hp ⟨H.next + 1, H.obj⟩) :: s) L c b → owns s L c b := by
  intro c b hc
  by_cases e : c = .b k
  ·subst e
   have := hc.2
   rw [hb] at this; cases this
   exact hmine
  ·have := dM e hc
   cases c with
   | b j => exact dM (by simp) this
   | t j => exact dM (by simp) this
   | s n => exact this.elim
   | h => exact this.elim
 refine ⟨G', h.size, h.defs, h.ge, h.kn, h.old, fun id b e => ⟨hle.ob _ _ (h.obs id b e).1, (hle.sz _ _ (h.obs id b e).1).trans (h.obs id b e).2⟩, ?_, h.fr, ?_, ?_, ?_, fun c d b hc hd => h.disj c d b (hown _ _ hc) (hown _ _ hd), ⟨⟨H.next + 1, H.obj⟩, by simp [get], ⟨?_, ?_, ?_, ?_⟩, fun b hb => hmay b (hft _ rfl b hb)⟩, ?_, ?_, ?_⟩
 ·intro id b e
  rcases hob _ _ e with ⟨_, rfl⟩ | ⟨_, q⟩
  ·exact .inr hlk.1
  ·exact h.obn id b q
 ·intro n x g
  exact (h.slot n x (by simpa [get] using g)).mono hle
 ·intro j cv g hl
  by_cases e : j = k
  ·subst e
   simp [get] at g
   subst g
   refine ⟨blk, o, hb, hbase, hh, ?_, hno, hob1⟩
   obtain ⟨arr, el, k1, k2, k3⟩ := (hobj.mono hle (fun _ e => by cases e) : iM G' L o (.bx cs))
   exact ⟨arr, el, k1, ⟨Nat.le_of_eq k2.symm, by rw [k2]; show cs.length = (if H.next = H.next then cs.length else G.sz H.next); rw [if_pos rfl]⟩, k3⟩
  ·have g' : get s (.b j) = some cv := by simpa [get, Ne.symm e] using g
   obtain ⟨b2, o2, p1, p2, p3, p4, p5, p6⟩ := h.box j cv g' hl
   refine ⟨b2, o2, p1, p2, p3, p4.mono hle (pX p6), p5, ?_⟩
   cases hl2 : cv.link with
   | some id => rw [hl2] at p6; exact hle.ob _ _ p6
   | none =>
    rw [hl2] at p6
    refine ⟨p6.1, fun id e2 => ?_⟩
    rcases hob _ _ e2 with ⟨_, rfl⟩ | ⟨_, q⟩
    ·have := h.disj (.b j) (.b k) _ ⟨⟨cv, g', hl⟩, p1⟩ hmine
     exact e (by injection this)
    ·exact p6.2 id q
 ·intro j m el esz xs g
  have g' : get s (.t j) = some (.tk m el esz xs) := by simpa [get] using g
  obtain ⟨v, hv, hr, hm⟩ := h.tok j m el esz xs g'
  refine ⟨v, hv, hr.stay hle (fun _ _ => rfl) (fun _ _ _ => rfl), fun b e => ⟨(hm b e).1, fun id e2 => ?_⟩⟩
  rcases hob _ _ e2 with ⟨_, rfl⟩ | ⟨_, q⟩
  ·have := h.disj (.t j) (.b k) _ ⟨⟨_, _, _, _, g'⟩, v, hv, e⟩ hmine
   cases this
  ·exact (hm b e).2 id q
 ·intro id b e
  rcases hob _ _ e with ⟨rfl, rfl⟩ | ⟨_, q⟩
  ·exact ⟨Nat.lt_succ_self _, (Array.getElem?_eq_some_iff.1 hh).1⟩
  ·exact ⟨Nat.lt_succ_of_lt (hok.lt id b q).1, (hok.lt id b q).2⟩
 ·intro id id' b e e' k k'
  rcases hob _ _ e with ⟨rfl, rfl⟩ | ⟨_, q⟩ <;> rcases hob _ _ e' with ⟨rfl, h2⟩ | ⟨_, q'⟩
  ·rfl
  ·exact absurd q' (hlk.2 _)
  ·subst h2; exact absurd q (hlk.2 _)
  ·exact hok.inj id id' b q q' k k'
 ·intro id hs e
  obtain ⟨b2, arr, el, q1, q2, q3, q4, q5⟩ := hok.obj id hs e
  refine ⟨b2, arr, el, hle.ob _ _ q1, q2, ⟨q3.1, q3.2.trans (hle.sz _ _ q1).symm⟩, fun j x hx => ?_, q5⟩
  have := q4 j x hx
  cases x with
  | v a => exact ⟨this.1, this.2.mono hle⟩
  | row el2 esz xs =>
   have hr : fG G w true el2 esz (arr.getD j undef) xs := this
   exact hr.stay hle (fun _ _ => rfl) (fun _ _ _ => rfl)
 ·intro id j b hr
  have hr0 := hrw ⟨H.next + 1, H.obj⟩ rfl id j b hr
  obtain ⟨h1, h2⟩ := hok.apart id j b hr0
  refine ⟨fun id' e => ?_, fun id' j' hr' => h2 id' j' (hrw ⟨H.next + 1, H.obj⟩ rfl id' j' b hr')⟩
  rcases hob _ _ e with ⟨rfl, rfl⟩ | ⟨_, q⟩
  ·exact hnf (.inr ⟨id, j, hr0⟩)
  ·exact h1 id' q
 ·intro c b hc H2 g2 e
  simp [get] at g2
  subst g2
  exact h.hdisj c b (hown _ _ hc) H hH (hft _ rfl b e)
 ·intro j g
  by_cases e : j = k
  ·subst e; simp [get] at g
  ·exact h.nobox j (by simpa [get, Ne.symm e] using g)
 ·intro j g; exact h.notok j (by simpa [get] using g)
theorem Kept.qO {s : St} {Q : St → Prop} (k : Nat) {cs : List Sv} {H : Hp} (hk : get s (.b k) = some (.bx cs)) (hH : get s .h = some (.hp H)) (h : Kept ((.b k, .ob H.next cs) :: (.h, .hp ⟨H.next + 1, H.obj⟩) :: s) Q) : Kept s Q := fun E N a w ⟨G, L, hr⟩ => by
 obtain ⟨G', hr'⟩ := hr.qO hk hH
 exact h E N a w ⟨G', L, hr'⟩

def bm (f : Nat) : Nat → List Hc → List Sv
 | _, [] => []
 | j, .v a :: l => .v a :: bm f (j + 1) l
 | j, .row _ _ xs :: l => .om (f + j) xs.length :: bm f (j + 1) l
def dH (f : Nat) : Nat → List Hc → St
 | _, [] => []
 | j, .v _ :: l => dH f (j + 1) l
 | j, .row el esz xs :: l => (.t (f + j), .tk true el esz xs) :: dH f (j + 1) l
theorem lH (f : Nat) : ∀ (hs : List Hc) (i j : Nat), (bm f i hs)[j]? = match hs[j]? with | some (.v a) => some (.v a) | some (.row _ _ xs) => some (.om (f + (i + j)) xs.length) | none => none
 | [], i, j => by simp [bm]
 | .v a :: l, i, 0 => by simp [bm]
 | .row el esz xs :: l, i, 0 => by simp [bm]
 | .v a :: l, i, j + 1 => by simp only [bm, List.getElem?_cons_succ, lH f l (i + 1) j]; rw [show i + 1 + j = i + (j + 1) by omega]
 | .row el esz xs :: l, i, j + 1 => by simp only [bm, List.getElem?_cons_succ, lH f l (i + 1) j]; rw [show i + 1 + j = i + (j + 1) by omega]
theorem lG (f : Nat) : ∀ (hs : List Hc) (i : Nat), (bm f i hs).length = hs.length
 | [], i => rfl
 | .v a :: l, i => by simp [bm, lG f l]
 | .row el esz xs :: l, i => by simp [bm, lG f l]
theorem fu (f : Nat) (s : St) : ∀ (hs : List Hc) (i : Nat) (c : aI), (∃ j el esz xs, c = .t (f + (i + j)) ∧ hs[j]? = some (.row el esz xs) ∧ get (dH f i hs ++ s) c = some (.tk true el esz xs)) ∨
  ((∀ j el esz xs, hs[j]? = some (.row el esz xs) → c ≠ .t (f + (i + j))) ∧ get (dH f i hs ++ s) c = get s c)
 | [], i, c => .inr ⟨fun j el esz xs e => by simp at e, rfl⟩
 | .v a :: l, i, c => by
  rcases fu f s l (i + 1) c with ⟨j, el, esz, xs, h1, h2, h3⟩ | ⟨h1, h2⟩
  ·exact .inl ⟨j + 1, el, esz, xs, by rw [h1]; congr 2; omega, by simpa using h2, h3⟩
  ·refine .inr ⟨fun j el esz xs e => ?_, h2⟩
   cases j with
   | zero => simp at e
   | succ j => rw [show i + (j + 1) = i + 1 + j by omega]; exact h1 j el esz xs (by simpa using e)
 | .row el0 esz0 xs0 :: l, i, c => by
  by_cases hc : c = .t (f + i)
  ·refine .inl ⟨0, el0, esz0, xs0, by rw [hc]; rfl, rfl, ?_⟩
   simp [dH, get, hc]
  ·have hg : get (dH f i (.row el0 esz0 xs0 :: l) ++ s) c = get (dH f (i + 1) l ++ s) c := by
    simp only [dH, List.cons_append, get, if_neg (Ne.symm hc)]
   rw [hg]
   rcases fu f s l (i + 1) c with ⟨j, el, esz, xs, h1, h2, h3⟩ | ⟨h1, h2⟩
   ·exact .inl ⟨j + 1, el, esz, xs, by rw [h1]; congr 2; omega, by simpa using h2, h3⟩
   ·refine .inr ⟨fun j el esz xs e => ?_, h2⟩
    cases j with
    | zero => exact hc
    | succ j => rw [show i + (j + 1) = i + 1 + j by omega]; exact h1 j el esz xs (by simpa using e)
def Hp.del (H : Hp) (id : Nat) : Hp := ⟨H.next, fun i => if i = id then none else H.obj i⟩
theorem dz.del {G : Gh} {w : World} {H : Hp} (h : dz G w H) (id : Nat) : dz G w (H.del id) ∧ (∀ id' j b, bw G (H.del id) w id' j b → id' ≠ id ∧ bw G H w id' j b) ∧ ∀ b, X.aa G (H.del id) w b → X.aa G H w b := by
 have ho : ∀ i hs, (H.del id).obj i = some hs → i ≠ id ∧ H.obj i = some hs := by
  intro i hs e
  by_cases e2 : i = id
  ·have : (if i = id then none else H.obj i) = some hs := e
   rw [if_pos e2] at this; cases this
  ·have : (if i = id then none else H.obj i) = some hs := e
   rw [if_neg e2] at this; exact ⟨e2, this⟩
 have hr : ∀ id' j b, bw G (H.del id) w id' j b → id' ≠ id ∧ bw G H w id' j b := by
  rintro id' j b ⟨cs, el, esz, xs, b0, arr, t, fr, h1, h2, h3, h4, h5⟩
  exact ⟨(ho _ _ h1).1, cs, el, esz, xs, b0, arr, t, fr, (ho _ _ h1).2, h2, h3, h4, h5⟩
 refine ⟨⟨h.lt, fun i i' b e e' ⟨c, k⟩ ⟨c', k'⟩ => h.inj i i' b e e' ⟨c, (ho _ _ k).2⟩ ⟨c', (ho _ _ k').2⟩, fun i hs e => h.obj i hs (ho i hs e).2, fun id' j b e => ⟨(h.apart id' j b (hr _ _ _ e).2).1, fun i2 j2 e2 => (h.apart id' j b (hr _ _ _ e).2).2 i2 j2 (hr _ _ _ e2).2⟩⟩, hr, ?_⟩
 rintro b (⟨i, ⟨hs, h1⟩, h2⟩ | ⟨i, j, h1⟩)
 ·exact .inl ⟨i, ⟨hs, (ho _ _ h1).2⟩, h2⟩
 ·exact .inr ⟨i, j, (hr _ _ _ h1).2⟩
theorem tf.loc {E : eB} {G : Gh} {L L' : Loc} {w : World} {k : Nat} {cv : CV} (h : tf E G L w k cv) (hb : ∀ k b, L.box k = some b → L'.box k = some b) (ht : ∀ k u, L.tok k = some u → L'.tok k = some u) : tf E G L' w k cv := by
 obtain ⟨blk, o, q1, q2, q3, q4, q5⟩ := h
 exact ⟨blk, o, hb _ _ q1, q2, q3, q4.loc hb ht, q5⟩
theorem Rel.Of {E : eB} {N : Nat} {G : Gh} {L : Loc} {a : Act} {w : World} {s : St} (h : Rel E N G L a w s) {k id f : Nat} {hs : List Hc} {H : Hp} (hH : get s .h = some (.hp H)) (ho : H.obj id = some hs) (hk : get s (.b k) = none)
  (hf : ∀ j el esz xs, hs[j]? = some (.row el esz xs) → get s (.t (f + j)) = none) : ∃ L', Rel E N G L' a w ((.b k, .ob id (bm f 0 hs)) :: (dH f 0 hs ++ ((.h, .hp (H.del id)) :: s))) := by
 obtain ⟨H0, gH, hok, hmay⟩ := h.heap
 rw [hH] at gH; cases gH
 obtain ⟨blk, arr, el0, q1, q2, q3, q4, q5⟩ := hok.obj id hs ho
 obtain ⟨hd1, hd2, hd3⟩ := hok.del id
 have hfb : aa G H w blk := .inl ⟨id, ⟨hs, ho⟩, q1⟩
 have hrowb : ∀ (j el esz xs b : _), hs[j]? = some (.row el esz xs) → (arr.getD j undef).ownBlock = some b → bw G H w id j b := fun j el esz xs b e e2 => ⟨_, _, _, _, _, _, _, _, ho, e, q1, q2, e2⟩
 let L' : Loc := ⟨fun j => if j = k then some blk else L.box j, fun t => match (if f ≤ t then hs[t - f]? else none) with | some (.row _ _ _) => some (arr.getD (t - f) undef) | _ => L.tok t⟩
 have hLt : ∀ j el esz xs, hs[j]? = some (.row el esz xs) → L'.tok (f + j) = some (arr.getD j undef) := by
  intro j el esz xs e
  show (match (if f ≤ f + j then hs[f + j - f]? else none) with | some (.row _ _ _) => some (arr.getD (f + j - f) undef) | _ => L.tok (f + j)) = _
  rw [if_pos (by omega), show f + j - f = j by omega, e]
 have hLo : ∀ t, (∀ j el esz xs, hs[j]? = some (.row el esz xs) → t ≠ f + j) → L'.tok t = L.tok t := by
  intro t ht
  show (match (if f ≤ t then hs[t - f]? else none) with | some (.row _ _ _) => some (arr.getD (t - f) undef) | _ => L.tok t) = _
  by_cases e : f ≤ t
  ·rw [if_pos e]
   cases e2 : hs[t - f]? with
   | none => rfl
   | some x =>
    cases x with
    | v a => rfl
    | row el esz xs => exact absurd (by omega) (ht _ _ _ _ e2)
  ·rw [if_neg e]
 have hbl : ∀ j b, L.box j = some b → L'.box j = some b := by
  intro j b e
  by_cases e2 : j = k
  ·subst e2; rw [h.nobox _ hk] at e; cases e
  ·show (if j = k then some blk else L.box j) = some b
   rw [if_neg e2]; exact e
 have htl : ∀ t u, L.tok t = some u → L'.tok t = some u := by
  intro t u e
  rw [hLo t]; exact e
  intro j el esz xs e2 e3
  rw [e3, h.notok _ (hf j el esz xs e2)] at e; cases e
 have hg : ∀ c, get ((.b k, .ob id (bm f 0 hs)) :: (dH f 0 hs ++ ((.h, .hp (H.del id)) :: s))) c = if c = .b k then some (.ob id (bm f 0 hs)) else get (dH f 0 hs ++ ((.h, .hp (H.del id)) :: s)) c := by
  intro c
  by_cases e : c = .b k
  ·rw [if_pos e, e]; simp [get]
  ·rw [if_neg e]; simp [get, Ne.symm e]
 have hgs : ∀ n, get ((.b k, .ob id (bm f 0 hs)) :: (dH f 0 hs ++ ((.h, .hp (H.del id)) :: s))) (.s n) = get s (.s n) := by
  intro n
  rw [hg, if_neg (by simp)]
  rcases fu f ((.h, .hp (H.del id)) :: s) hs 0 (.s n) with ⟨j, _, _, _, e, _⟩ | ⟨_, e⟩
  ·cases e
  ·rw [e]; simp [get]
 have hgb : ∀ j, j ≠ k → get ((.b k, .ob id (bm f 0 hs)) :: (dH f 0 hs ++ ((.h, .hp (H.del id)) :: s))) (.b j) = get s (.b j) := by
  intro j hj
  rw [hg, if_neg (by simpa using hj)]
  rcases fu f ((.h, .hp (H.del id)) :: s) hs 0 (.b j) with ⟨i, _, _, _, e, _⟩ | ⟨_, e⟩
  ·cases e
  ·rw [e]; simp [get]
 have hgh : get ((.b k, .ob id (bm f 0 hs)) :: (dH f 0 hs ++ ((.h, .hp (H.del id)) :: s))) .h = some (.hp (H.del id)) := by
  rw [hg, if_neg (by simp)]
  rcases fu f ((.h, .hp (H.del id)) :: s) hs 0 .h with ⟨i, _, _, _, e, _⟩ | ⟨_, e⟩
  ·cases e
  ·rw [e]; simp [get]
 have hgt : ∀ t, (∃ j el esz xs, t = f + j ∧ hs[j]? = some (.row el esz xs) ∧ get ((.b k, .ob id (bm f 0 hs)) :: (dH f 0 hs ++ ((.h, .hp (H.del id)) :: s))) (.t t) = some (.tk true el esz xs)) ∨
   ((∀ j el esz xs, hs[j]? = some (.row el esz xs) → t ≠ f + j) ∧ get ((.b k, .ob id (bm f 0 hs)) :: (dH f 0 hs ++ ((.h, .hp (H.del id)) :: s))) (.t t) = get s (.t t)) := by
  intro t
  rw [hg, if_neg (by simp)]
  rcases fu f ((.h, .hp (H.del id)) :: s) hs 0 (.t t) with ⟨j, el, esz, xs, e1, e2, e3⟩ | ⟨e1, e2⟩
  ·exact .inl ⟨j, el, esz, xs, by injection e1 with e1; omega, e2, e3⟩
  ·refine .inr ⟨fun j el esz xs e e4 => e1 j el esz xs e (by rw [e4]; congr 1; omega), ?_⟩
   rw [e2]; simp [get]
 have hown : ∀ c b, owns ((.b k, .ob id (bm f 0 hs)) :: (dH f 0 hs ++ ((.h, .hp (H.del id)) :: s))) L' c b → (c = .b k ∧ b = blk) ∨ (∃ j el esz xs, c = .t (f + j) ∧ hs[j]? = some (.row el esz xs) ∧ (arr.getD j undef).ownBlock = some b) ∨ owns s L c b := by
  intro c b hc
  cases c with
  | b j =>
   by_cases e : j = k
   ·subst e
    refine .inl ⟨rfl, ?_⟩
    have h2 : (if j = j then some blk else L.box j) = some b := hc.2
    rw [if_pos rfl] at h2; cases h2; rfl
   ·obtain ⟨⟨cv, g, hl⟩, hb⟩ := hc
    rw [hgb j e] at g
    have h2 : (if j = k then some blk else L.box j) = some b := hb
    rw [if_neg e] at h2
    exact .inr (.inr ⟨⟨cv, g, hl⟩, h2⟩)
  | t t =>
   obtain ⟨⟨m, el, esz, xs, g⟩, v, hv, hb⟩ := hc
   rcases hgt t with ⟨j, el2, esz2, xs2, rfl, e2, _⟩ | ⟨e1, e2⟩
   ·rw [hLt j _ _ _ e2] at hv; cases hv
    exact .inr (.inl ⟨j, _, _, _, rfl, e2, hb⟩)
   ·rw [e2] at g
    rw [hLo t e1] at hv
    exact .inr (.inr ⟨⟨m, el, esz, xs, g⟩, v, hv, hb⟩)
  | s n => exact hc.elim
  | h => exact hc.elim
 refine ⟨L', h.size, h.defs, h.ge, h.kn, h.old, h.obs, h.obn, h.fr, ?_, ?_, ?_, ?_, ⟨H.del id, hgh, hd1, fun b hb => hmay b (hd3 b hb)⟩, ?_, ?_, ?_⟩
 ·intro n x g
  rw [hgs] at g
  exact (h.slot n x g).loc hbl htl
 ·intro j cv g hl
  by_cases e : j = k
  ·subst e
   rw [hg, if_pos rfl] at g
   cases g
   refine ⟨blk, _, by show (if j = j then some blk else L.box j) = some blk; rw [if_pos rfl], hmay blk hfb, q2, ⟨arr, el0, rfl, ⟨by rw [lG]; exact q3.1, q3.2⟩, fun i x hx => ?_⟩, q5, q1⟩
   rw [lH] at hx
   cases e2 : hs[i]? with
   | none => rw [e2] at hx; cases hx
   | some y =>
    rw [e2] at hx
    have := q4 i y e2
    cases y with
    | v a => cases hx; exact ⟨this.1, this.2⟩
    | row el esz xs =>
     cases hx
     refine ⟨rfl, ?_⟩
     have hr : fG G w true el esz (arr.getD i undef) xs := this
     obtain ⟨cells, _, ho2, _⟩ := hr
     refine ⟨by rw [Nat.zero_add]; exact hLt i _ _ _ e2, ?_⟩
     rcases ho2.2 with ⟨e3, e4⟩ | ⟨g2, cap, cur, e3, _⟩
     ·exact ⟨none, 0, by rw [e3, e4]⟩
     ·exact ⟨_, _, e3⟩
  ·rw [hgb j e] at g
   exact (h.box j cv g hl).loc hbl htl
 ·intro t m el esz xs g
  rcases hgt t with ⟨j, el2, esz2, xs2, rfl, e2, e3⟩ | ⟨e1, e2⟩
  ·rw [e3] at g; cases g
   have hr : fG G w true el esz (arr.getD j undef) xs := q4 j _ e2
   exact ⟨_, hLt j _ _ _ e2, hr, fun b hb => ⟨hmay b (.inr ⟨id, j, hrowb j _ _ _ b e2 hb⟩), (hok.apart id j b (hrowb j _ _ _ b e2 hb)).1⟩⟩
  ·rw [e2] at g
   obtain ⟨v, hv, rest⟩ := h.tok t m el esz xs g
   exact ⟨v, by rw [hLo t e1]; exact hv, rest⟩
 ·intro c d b hc hd
  rcases hown c b hc with ⟨rfl, rfl⟩ | ⟨j, el, esz, xs, rfl, e1, e2⟩ | h1 <;> rcases hown d _ hd with ⟨rfl, h3⟩ | ⟨j', el', esz', xs', rfl, e1', e2'⟩ | h2
  ·rfl
  ·exact absurd q1 ((hok.apart id j' _ (hrowb _ _ _ _ _ e1' e2')).1 id)
  ·exact absurd hfb (h.hdisj _ _ h2 H hH)
  ·subst h3; exact absurd q1 ((hok.apart id j _ (hrowb _ _ _ _ _ e1 e2)).1 id)
  ·have := (hok.apart id j _ (hrowb _ _ _ _ _ e1 e2)).2 id j' (hrowb _ _ _ _ _ e1' e2')
   rw [this.2]
  ·exact absurd (.inr ⟨id, j, hrowb _ _ _ _ _ e1 e2⟩) (h.hdisj _ _ h2 H hH)
  ·subst h3; exact absurd hfb (h.hdisj _ _ h1 H hH)
  ·exact absurd (.inr ⟨id, j', hrowb _ _ _ _ _ e1' e2'⟩) (h.hdisj _ _ h1 H hH)
  ·exact h.disj c d b h1 h2
 ·intro c b hc H2 g2 hft
  rw [hgh] at g2; cases g2
  rcases hown c b hc with ⟨rfl, rfl⟩ | ⟨j, el, esz, xs, rfl, e1, e2⟩ | h1
  ·rcases hft with ⟨i, ⟨hs2, e1⟩, e2⟩ | ⟨i, j, e1⟩
   ·have e3 : (if i = id then none else H.obj i) = some hs2 := e1
    by_cases ei : i = id
    ·rw [if_pos ei] at e3; cases e3
    ·rw [if_neg ei] at e3
     exact ei (hok.inj i id _ e2 q1 ⟨hs2, e3⟩ ⟨hs, ho⟩)
   ·exact (hok.apart i j _ (hd2 _ _ _ e1).2).1 id q1
  ·have hr := hrowb _ _ _ _ _ e1 e2
   rcases hft with ⟨i, ⟨hs2, e3⟩, e4⟩ | ⟨i, j2, e3⟩
   ·exact (hok.apart id j b hr).1 i e4
   ·obtain ⟨e5, e6⟩ := hd2 _ _ _ e3
    exact e5 ((hok.apart id j b hr).2 i j2 e6).1
  ·exact h.hdisj c b h1 H hH (hd3 b hft)
 ·intro j g
  by_cases e : j = k
  ·subst e; rw [hg, if_pos rfl] at g; cases g
  ·rw [hgb j e] at g
   show (if j = k then some blk else L.box j) = none
   rw [if_neg e]; exact h.nobox j g
 ·intro t g
  rcases hgt t with ⟨j, el2, esz2, xs2, rfl, e2, e3⟩ | ⟨e1, e2⟩
  ·rw [e3] at g; cases g
  ·rw [e2] at g; rw [hLo t e1]; exact h.notok t g
def jY (f : Nat) (s : St) : Nat → List Hc → Bool
 | _, [] => true
 | j, .v _ :: l => jY f s (j + 1) l
 | j, .row _ _ _ :: l => (get s (.t (f + j))).isNone && jY f s (j + 1) l
theorem kI {f : Nat} {s : St} : ∀ {hs : List Hc} {i : Nat}, jY f s i hs = true → ∀ j el esz xs, hs[j]? = some (.row el esz xs) → get s (.t (f + (i + j))) = none
 | .v a :: l, i, h, 0, el, esz, xs, e => by simp at e
 | .v a :: l, i, h, j + 1, el, esz, xs, e => by
  have := kI (hs := l) (i := i + 1) h j el esz xs (by simpa using e)
  rwa [show i + 1 + j = i + (j + 1) by omega] at this
 | .row _ _ _ :: l, i, h, 0, el, esz, xs, e => by
  simp only [jY, Bool.and_eq_true, Option.isNone_iff_eq_none] at h
  exact h.1
 | .row _ _ _ :: l, i, h, j + 1, el, esz, xs, e => by
  simp only [jY, Bool.and_eq_true] at h
  have := kI (hs := l) (i := i + 1) h.2 j el esz xs (by simpa using e)
  rwa [show i + 1 + j = i + (j + 1) by omega] at this
theorem Kept.Of {s : St} {Q : St → Prop} (k id f : Nat) {hs : List Hc} {H : Hp} (hH : get s .h = some (.hp H)) (ho : H.obj id = some hs) (hk : get s (.b k) = none) (hf : jY f s 0 hs = true)
  (h : Kept ((.b k, .ob id (bm f 0 hs)) :: (dH f 0 hs ++ ((.h, .hp (H.del id)) :: s))) Q) : Kept s Q := fun E N a w ⟨G, L, hr⟩ => by
 obtain ⟨L', hr'⟩ := hr.Of hH ho hk (fun j el esz xs e => by have := kI hf j el esz xs e; rwa [Nat.zero_add] at this)
 exact h E N a w ⟨G, L', hr'⟩

def DE (s : St) : Sv → Option Hc
 | .v a => some (.v a)
 | .ow _ xs => some (.v (.sl xs))
 | .om j _ => match get s (.t j) with
  | some (.tk true el esz xs) => some (.row el esz xs)
  | _ => none
 | _ => none
def nA (s : St) : List Sv → Option (List Hc)
 | [] => some []
 | x :: l => match DE s x, nA s l with
  | some y, some r => some (y :: r)
  | _, _ => none
def rowsOf : List Sv → List Nat
 | [] => []
 | .om j _ :: l => j :: rowsOf l
 | _ :: l => rowsOf l
theorem lC {j n : Nat} : ∀ {cs : List Sv} {i : Nat}, cs[i]? = some (.om j n) → j ∈ rowsOf cs
 | x :: l, 0, e => by simp at e; subst e; simp [rowsOf]
 | x :: l, i + 1, e => by
  have := lC (cs := l) (i := i) (by simpa using e)
  cases x <;> simp only [rowsOf] <;> first | exact this | exact List.mem_cons_of_mem _ this
theorem rY : ∀ {cs : List Sv} (_ : (rowsOf cs).Nodup) {i i' j n n' : Nat}, cs[i]? = some (.om j n) → cs[i']? = some (.om j n') → i = i'
 | x :: l, hnd, 0, 0, j, n, n', e, e' => rfl
 | x :: l, hnd, 0, i' + 1, j, n, n', e, e' => by
  simp at e; subst e
  simp only [rowsOf, List.nodup_cons] at hnd
  exact absurd (lC (by simpa using e')) hnd.1
 | x :: l, hnd, i + 1, 0, j, n, n', e, e' => by
  simp at e'; subst e'
  simp only [rowsOf, List.nodup_cons] at hnd
  exact absurd (lC (by simpa using e)) hnd.1
 | x :: l, hnd, i + 1, i' + 1, j, n, n', e, e' => by
  have hnd' : (rowsOf l).Nodup := by cases x <;> simp only [rowsOf] at hnd <;> first | exact hnd | exact (List.nodup_cons.1 hnd).2
  rw [rY hnd' (i := i) (i' := i') (by simpa using e) (by simpa using e')]
theorem u9 {s : St} : ∀ {cs : List Sv} {hs : List Hc}, nA s cs = some hs → cs.length = hs.length ∧ ∀ (j : Nat) y, hs[j]? = some y → ∃ x, cs[j]? = some x ∧ DE s x = some y
 | [], hs, h => by simp [nA] at h; subst h; exact ⟨rfl, fun j y e => by simp at e⟩
 | x :: l, hs, h => by
  simp only [nA] at h
  split at h
  ·rename_i y r hy hr
   cases h
   obtain ⟨h1, h2⟩ := u9 hr
   refine ⟨by simp [h1], fun j z e => ?_⟩
   cases j with
   | zero => simp at e; subst e; exact ⟨x, rfl, hy⟩
   | succ j => simpa using h2 j z (by simpa using e)
  ·cases h
def c7 : List Nat → St
 | [] => []
 | j :: l => (.t j, .gone) :: c7 l
theorem lR (s : St) (c : aI) : ∀ l : List Nat, ((∃ j ∈ l, c = .t j) ∧ get (c7 l ++ s) c = some .gone) ∨ ((∀ j ∈ l, c ≠ .t j) ∧ get (c7 l ++ s) c = get s c)
 | [] => .inr ⟨fun j h => by simp at h, rfl⟩
 | j :: l => by
  by_cases e : c = .t j
  ·exact .inl ⟨⟨j, by simp, e⟩, by simp [c7, get, e]⟩
  ·have hg : get (c7 (j :: l) ++ s) c = get (c7 l ++ s) c := by simp [c7, get, Ne.symm e]
   rw [hg]
   rcases lR s c l with ⟨⟨i, h1, h2⟩, h3⟩ | ⟨h1, h2⟩
   ·exact .inl ⟨⟨i, List.mem_cons_of_mem _ h1, h2⟩, h3⟩
   ·refine .inr ⟨fun i hi => ?_, h2⟩
    rcases List.mem_cons.1 hi with rfl | hi
    ·exact e
    ·exact h1 i hi
def Hp.set (H : Hp) (id : Nat) (hs : List Hc) : Hp := ⟨H.next, fun i => if i = id then some hs else H.obj i⟩
theorem Rel.cls {E : eB} {N : Nat} {G : Gh} {L : Loc} {a : Act} {w : World} {s : St} (h : Rel E N G L a w s) {k id : Nat} {cs : List Sv} {hs : List Hc} {H : Hp} (hk : get s (.b k) = some (.ob id cs)) (hH : get s .h = some (.hp H)) (hcs : nA s cs = some hs) (hnd : (rowsOf cs).Nodup) :
  Rel E N G L a w ((.b k, .gone) :: (c7 (rowsOf cs) ++ ((.h, .hp (H.set id hs)) :: s))) := by
 obtain ⟨blk, o, hb, hbase, hh, ⟨arr, el0, rfl, hsz, hc⟩, hno, hlk⟩ := h.box k _ hk rfl
 have hlk : G.ob id = some blk := hlk
 obtain ⟨H0, gH, hok, hmay⟩ := h.heap
 rw [hH] at gH; cases gH
 have hmine : owns s L (.b k) blk := ⟨⟨_, hk, rfl⟩, hb⟩
 obtain ⟨hl, hcg⟩ := u9 hcs
 -- a row's cell
 have hrow1 : ∀ j el esz xs, hs[j]? = some (.row el esz xs) → ∃ t n, cs[j]? = some (.om t n) ∧ get s (.t t) = some (.tk true el esz xs) ∧ L.tok t = some (arr.getD j undef) ∧ fG G w true el esz (arr.getD j undef) xs ∧ ∀ b, (arr.getD j undef).ownBlock = some b → owns s L (.t t) b ∧ E.may b ∧ ∀ i, G.ob i ≠ some b := by
  intro j el esz xs e
  obtain ⟨x, hx, hy⟩ := hcg j _ e
  cases x <;> simp only [DE, Option.some.injEq, reduceCtorEq] at hy
  rename_i t n
  split at hy
  ·rename_i el2 esz2 xs2 gt
   cases hy
   obtain ⟨_, hsv⟩ := hc j _ hx
   obtain ⟨htk, _⟩ := hsv
   obtain ⟨v, hv, hr, hm⟩ := h.tok t _ _ _ _ gt
   rw [htk] at hv; cases hv
   exact ⟨t, n, hx, gt, htk, hr, fun b e2 => ⟨⟨⟨_, _, _, _, gt⟩, _, htk, e2⟩, hm b e2⟩⟩
  ·cases hy
 have hobj : ∀ i hs2, (H.set id hs).obj i = some hs2 → (i = id ∧ hs2 = hs) ∨ (i ≠ id ∧ H.obj i = some hs2) := by
  intro i hs2 e
  by_cases e2 : i = id
  ·have e3 : (if i = id then some hs else H.obj i) = some hs2 := e
   rw [if_pos e2] at e3; cases e3; exact .inl ⟨e2, rfl⟩
  ·have e3 : (if i = id then some hs else H.obj i) = some hs2 := e
   rw [if_neg e2] at e3; exact .inr ⟨e2, e3⟩
 have hhr : ∀ i j b, bw G (H.set id hs) w i j b → (i = id ∧ ∃ el esz xs, hs[j]? = some (.row el esz xs) ∧ (arr.getD j undef).ownBlock = some b) ∨ (i ≠ id ∧ bw G H w i j b) := by
  rintro i j b ⟨cs2, el, esz, xs, b0, arr2, t2, fr, h1, h2, h3, h4, h5⟩
  rcases hobj _ _ h1 with ⟨rfl, rfl⟩ | ⟨e1, e2⟩
  ·rw [hlk] at h3; cases h3
   rw [hh] at h4; cases h4
   exact .inl ⟨rfl, el, esz, xs, h2, h5⟩
  ·exact .inr ⟨e1, cs2, el, esz, xs, b0, arr2, t2, fr, e2, h2, h3, h4, h5⟩
 have hft : ∀ b, aa G (H.set id hs) w b → aa G H w b ∨ b = blk ∨ ∃ t ∈ rowsOf cs, owns s L (.t t) b := by
  rintro b (⟨i, ⟨hs2, h1⟩, h2⟩ | ⟨i, j, h1⟩)
  ·rcases hobj _ _ h1 with ⟨rfl, rfl⟩ | ⟨e1, e2⟩
   ·rw [hlk] at h2; cases h2; exact .inr (.inl rfl)
   ·exact .inl (.inl ⟨i, ⟨hs2, e2⟩, h2⟩)
  ·rcases hhr _ _ _ h1 with ⟨rfl, el, esz, xs, e1, e2⟩ | ⟨e1, e2⟩
   ·obtain ⟨t, n, q1, q2, q3, q4, q5⟩ := hrow1 j _ _ _ e1
    exact .inr (.inr ⟨t, lC q1, (q5 b e2).1⟩)
   ·exact .inl (.inr ⟨i, j, e2⟩)
 have hg : ∀ c, get ((.b k, .gone) :: (c7 (rowsOf cs) ++ ((.h, .hp (H.set id hs)) :: s))) c = some .gone ∨ (c ≠ .b k ∧ (∀ j ∈ rowsOf cs, c ≠ .t j) ∧ get ((.b k, .gone) :: (c7 (rowsOf cs) ++ ((.h, .hp (H.set id hs)) :: s))) c = get ((.h, .hp (H.set id hs)) :: s) c) := by
  intro c
  by_cases e : c = .b k
  ·exact .inl (by simp [get, e])
  ·have e2 : get ((.b k, .gone) :: (c7 (rowsOf cs) ++ ((.h, .hp (H.set id hs)) :: s))) c = get (c7 (rowsOf cs) ++ ((.h, .hp (H.set id hs)) :: s)) c := by simp [get, Ne.symm e]
   rw [e2]
   rcases lR ((.h, .hp (H.set id hs)) :: s) c (rowsOf cs) with ⟨_, h3⟩ | ⟨h1, h2⟩
   ·exact .inl h3
   ·exact .inr ⟨e, h1, h2⟩
 have hown : ∀ c b, owns ((.b k, .gone) :: (c7 (rowsOf cs) ++ ((.h, .hp (H.set id hs)) :: s))) L c b → c ≠ .b k ∧ (∀ j ∈ rowsOf cs, c ≠ .t j) ∧ owns s L c b := by
  intro c b hc2
  rcases hg c with e | ⟨e1, e2, e3⟩
  ·cases c with
   | b j => obtain ⟨⟨cv, g, hl2⟩, _⟩ := hc2; rw [e] at g; cases g; cases hl2
   | t j => obtain ⟨⟨m, el, esz, xs, g⟩, _⟩ := hc2; rw [e] at g; cases g
   | s n => exact hc2.elim
   | h => exact hc2.elim
  ·refine ⟨e1, e2, ?_⟩
   cases c with
   | b j => obtain ⟨⟨cv, g, hl2⟩, hb2⟩ := hc2; rw [e3] at g; exact ⟨⟨cv, by simpa [get] using g, hl2⟩, hb2⟩
   | t j => obtain ⟨⟨m, el, esz, xs, g⟩, hb2⟩ := hc2; rw [e3] at g; exact ⟨⟨m, el, esz, xs, by simpa [get] using g⟩, hb2⟩
   | s n => exact hc2.elim
   | h => exact hc2.elim
 have hinj : ∀ i i' b, G.ob i = some b → G.ob i' = some b → (∃ c, (H.set id hs).obj i = some c) → (∃ c, (H.set id hs).obj i' = some c) → i = i' := by
  rintro i i' b e e' ⟨c, k1⟩ ⟨c', k2⟩
  rcases hobj _ _ k1 with ⟨rfl, _⟩ | ⟨n1, p1⟩ <;> rcases hobj _ _ k2 with ⟨rfl, _⟩ | ⟨n2, p2⟩
  ·rfl
  ·rw [hlk] at e; cases e
   exact absurd (.inl ⟨i', ⟨_, p2⟩, e'⟩) (h.hdisj _ _ hmine H hH)
  ·rw [hlk] at e'; cases e'
   exact absurd (.inl ⟨i, ⟨_, p1⟩, e⟩) (h.hdisj _ _ hmine H hH)
  ·exact hok.inj i i' b e e' ⟨_, p1⟩ ⟨_, p2⟩
 have hgh : get ((.b k, .gone) :: (c7 (rowsOf cs) ++ ((.h, .hp (H.set id hs)) :: s))) .h = some (.hp (H.set id hs)) := by
  have e2 : get ((.b k, .gone) :: (c7 (rowsOf cs) ++ ((.h, .hp (H.set id hs)) :: s))) .h = get (c7 (rowsOf cs) ++ ((.h, .hp (H.set id hs)) :: s)) .h := by simp [get]
  rw [e2]
  rcases lR ((.h, .hp (H.set id hs)) :: s) .h (rowsOf cs) with ⟨⟨j, _, h3⟩, _⟩ | ⟨h1, h2⟩
  ·cases h3
  ·rw [h2]; simp [get]
 refine ⟨h.size, h.defs, h.ge, h.kn, h.old, h.obs, h.obn, h.fr, ?_, ?_, ?_, fun c d b hc hd => h.disj c d b (hown _ _ hc).2.2 (hown _ _ hd).2.2, ⟨H.set id hs, hgh, ⟨hok.lt, hinj, ?_, ?_⟩, ?_⟩, ?_, ?_, ?_⟩
 ·intro n x g
  rcases hg (.s n) with e | ⟨_, _, e3⟩
  ·rw [e] at g; cases g
  ·rw [e3] at g; exact h.slot n x (by simpa [get] using g)
 ·intro j cv g hl2
  rcases hg (.b j) with e | ⟨_, _, e3⟩
  ·rw [e] at g; cases g; cases hl2
  ·rw [e3] at g; exact h.box j cv (by simpa [get] using g) hl2
 ·intro j m el esz xs g
  rcases hg (.t j) with e | ⟨_, _, e3⟩
  ·rw [e] at g; cases g
  ·rw [e3] at g; exact h.tok j m el esz xs (by simpa [get] using g)
 ·intro i hs2 e
  rcases hobj _ _ e with ⟨rfl, rfl⟩ | ⟨e1, e2⟩
  ·refine ⟨blk, arr, el0, hlk, hh, ⟨by rw [← hl]; exact hsz.1, hsz.2⟩, fun j y ey => ?_, hno⟩
   cases y with
   | row el esz xs =>
    obtain ⟨t, n, q1, q2, q3, q4, q5⟩ := hrow1 j _ _ _ ey
    exact q4
   | v b =>
    obtain ⟨x, hx, hy⟩ := hcg j _ ey
    obtain ⟨q1, q2⟩ := hc j x hx
    cases x <;> simp only [DE, Option.some.injEq, reduceCtorEq, Hc.v.injEq] at hy
    ·subst hy; exact ⟨q1, q2⟩
    ·subst hy; exact ⟨rfl, q2.1⟩
    ·split at hy <;> cases hy
  ·exact hok.obj i hs2 e2
 ·intro i j b hr
  rcases hhr _ _ _ hr with ⟨rfl, el, esz, xs, e1, e2⟩ | ⟨e1, e2⟩
  ·obtain ⟨t, n, q1, q2, q3, q4, q5⟩ := hrow1 j _ _ _ e1
   obtain ⟨p1, p2, p3⟩ := q5 b e2
   refine ⟨p3, fun i' j' hr' => ?_⟩
   rcases hhr _ _ _ hr' with ⟨rfl, el', esz', xs', e1', e2'⟩ | ⟨e1', e2'⟩
   ·obtain ⟨t', n', q1', q2', q3', q4', q5'⟩ := hrow1 j' _ _ _ e1'
    have := h.disj _ _ b p1 (q5' b e2').1
    have ht : t = t' := by injection this
    subst ht
    exact ⟨rfl, (rY hnd q1 q1').symm⟩
   ·exact absurd (.inr ⟨i', j', e2'⟩) (h.hdisj _ _ p1 H hH)
  ·refine ⟨(hok.apart i j b e2).1, fun i' j' hr' => ?_⟩
   rcases hhr _ _ _ hr' with ⟨rfl, el', esz', xs', e1', e2'⟩ | ⟨e1', e2'⟩
   ·obtain ⟨t', n', q1', q2', q3', q4', q5'⟩ := hrow1 j' _ _ _ e1'
    exact absurd (.inr ⟨i, j, e2⟩) (h.hdisj _ _ (q5' b e2').1 H hH)
   ·exact (hok.apart i j b e2).2 i' j' e2'
 ·intro b hb2
  rcases hft b hb2 with e | rfl | ⟨t, _, e⟩
  ·exact hmay b e
  ·exact hbase
  ·exact (iy h e).2
 ·intro c b hc2 H2 g2 hf2
  rw [hgh] at g2; cases g2
  obtain ⟨e1, e2, e3⟩ := hown c b hc2
  rcases hft b hf2 with e | rfl | ⟨t, ht, e⟩
  ·exact h.hdisj c b e3 H hH e
  ·exact e1 (h.disj c (.b k) _ e3 hmine)
  ·exact e2 t ht (h.disj c (.t t) _ e3 e)
 ·intro j g
  rcases hg (.b j) with e | ⟨_, _, e3⟩
  ·rw [e] at g; cases g
  ·rw [e3] at g; exact h.nobox j (by simpa [get] using g)
 ·intro j g
  rcases hg (.t j) with e | ⟨_, _, e3⟩
  ·rw [e] at g; cases g
  ·rw [e3] at g; exact h.notok j (by simpa [get] using g)
def OJ : List Nat → Bool
 | [] => true
 | x :: l => !l.contains x && OJ l
theorem xb : ∀ {l : List Nat}, OJ l = true → l.Nodup
 | [], _ => List.nodup_nil
 | x :: l, h => by
  simp only [OJ, Bool.and_eq_true, Bool.not_eq_true', List.contains_eq_mem, decide_eq_false_iff_not] at h
  exact List.nodup_cons.2 ⟨h.1, xb h.2⟩
theorem Kept.cls {s : St} {Q : St → Prop} (k : Nat) {id : Nat} {cs : List Sv} {hs : List Hc} {H : Hp} (hk : get s (.b k) = some (.ob id cs)) (hH : get s .h = some (.hp H)) (hcs : nA s cs = some hs) (hnd : OJ (rowsOf cs) = true)
  (h : Kept ((.b k, .gone) :: (c7 (rowsOf cs) ++ ((.h, .hp (H.set id hs)) :: s))) Q) : Kept s Q := fun E N a w ⟨G, L, hr⟩ => h E N a w ⟨G, L, hr.cls hk hH hcs (xb hnd)⟩

theorem Rel.H7 {E : eB} {N : Nat} {G : Gh} {L : Loc} {a : Act} {w w' : World} {s : St} (h : Rel E N G L a w s) {k el esz blk : Nat} {xs ys : List AV} {v : Value} {cells : List Value} (hk : get s (.t k) = some (.tk true el esz xs)) (hv : L.tok k = some v) (hb : v.ownBlock = some blk)
  (h1 : w'.os = w.os) (h2 : w'.tape = w.tape) (h3 : w'.output = w.output) (h4 : w'.heap.size = w.heap.size) (h5 : ∀ j, j ≠ blk → w'.heap[j]? = w.heap[j]?) (hz : 0 < esz) (ho : w'.ownsRow 0 el esz v ys.length cells) (hL : Lay G esz ys cells) :
  Rel E N G L a w' ((.t k, .tk true el esz ys) :: s) := by
 obtain ⟨v', hv', ⟨cells0, _, _, _, _, hkn⟩, hm⟩ := h.tok k _ _ _ _ hk
 rw [hv] at hv'; cases hv'
 have hkn : ∀ o, G.kn blk o = none := hkn blk hb
 have hmine : owns s L (.t k) blk := ⟨⟨_, _, _, _, hk⟩, v, hv, hb⟩
 have hbase := (hm blk hb).1
 have hown : ∀ c b, owns ((.t k, .tk true el esz ys) :: s) L c b → owns s L c b := by
  intro c b hc
  by_cases e : c = .t k
  ·subst e
   obtain ⟨_, u, hu, hb2⟩ := hc
   exact ⟨⟨_, _, _, _, hk⟩, u, hu, hb2⟩
  ·exact dM e hc
 have hcell : ∀ p u, w.cell? p = some u → p.block ≠ blk → w'.cell? p = some u := by
  intro p u hc hne
  rw [World.cell?_of_block (w := w) (h5 p.block hne)]; exact hc
 obtain ⟨H0, gH, hokH, hmayH⟩ := h.heap
 have hst := hokH.stay (w' := w') (Gh.le.refl G) rfl (fun b hb => (hokH.aa hb).2) (fun b hb => h5 b (fun e => h.hdisj _ _ hmine H0 gH (e ▸ hb))) (by rw [h4]; exact Nat.le_refl _)
 refine ⟨h.size, h.defs, h.ge, fun b j u e => hcell _ _ (h.kn b j u e) (fun e' => ?_), h.old, h.obs, h.obn, ⟨h1.trans h.fr.os, h2.trans h.fr.tape, h3.trans h.fr.output, by rw [h4]; exact h.fr.size, fun j hj hno => ?_⟩, ?_, ?_, ?_, ?_, ?_, ?_, ?_, ?_⟩
 ·simp at e'; subst e'; rw [hkn j] at e; cases e
 ·rw [h5 j (fun e => by
   subst e
   rcases hbase with e | e
   ·omega
   ·exact hno e)]
  exact h.fr.block j hj hno
 ·intro n x g; exact h.slot n x (by simpa [get] using g)
 ·intro j cv g hl
  have g' : get s (.b j) = some cv := by simpa [get] using g
  refine (h.box j cv g' hl).stay (Gh.le.refl G) (fun _ _ e => .inl ⟨_, e⟩) (fun b hb' => h5 b (fun e => ?_)) (fun _ _ _ => rfl)
  subst e
  have := h.disj (.b j) (.t k) _ ⟨⟨cv, g', hl⟩, hb'⟩ hmine
  cases this
 ·intro j m el2 esz2 xs2 g
  by_cases e : j = k
  ·subst e
   simp [get] at g
   obtain ⟨rfl, rfl, rfl, rfl⟩ := g
   exact ⟨v, hv, ⟨cells, fun e => (by cases e), ho, hz, hL, fun b e => (by rw [hb] at e; cases e; exact hkn)⟩, hm⟩
  ·have g' : get s (.t j) = some (.tk m el2 esz2 xs2) := by simpa [get, Ne.symm e] using g
   refine (h.tok j m el2 esz2 xs2 g').stay (Gh.le.refl G) (fun _ _ e => .inl ⟨_, e⟩) (fun u b hu hb' => h5 b (fun e2 => ?_)) (fun _ _ _ _ _ => rfl)
   subst e2
   have := h.disj (.t j) (.t k) _ ⟨⟨_, _, _, _, g'⟩, u, hu, hb'⟩ hmine
   exact e (by injection this)
 ·intro c d b hc hd; exact h.disj c d b (hown _ _ hc) (hown _ _ hd)
 ·exact ⟨H0, by simpa [get] using gH, hst.1, fun b hb => hmayH b ((hst.2 b).1 hb)⟩
 ·intro c b hc H2 g2 e2
  have g3 : get s .h = some (.hp H2) := by simpa [get] using g2
  rw [gH] at g3; cases g3
  exact h.hdisj c b (hown _ _ hc) _ gH ((hst.2 b).1 e2)
 ·intro j g; exact h.nobox j (by simpa [get] using g)
 ·intro j g
  by_cases e : j = k
  ·subst e; simp [get] at g
  ·exact h.notok j (by simpa [get, Ne.symm e] using g)

theorem Rel.NG {E : eB} {N : Nat} {G : Gh} {L : Loc} {a : Act} {w : World} {s : St} (h : Rel E N G L a w s) {k : Nat} {cv : CV} {cs ds : List Sv} (hk : get s (.b k) = some cv) (hcv : cv.AP = some cs) (hl : cs.length = ds.length)
  (hc : ∀ (j : Nat) x y v, cs[j]? = some x → ds[j]? = some y → x.flat = true → SV G L v x → y.flat = true ∧ SV G L v y) : Rel E N G L a w ((.b k, cv.cM ds) :: s) := by
 have hlive := oq hcv
 have hlk : (cv.cM ds).link = cv.link := by cases cv <;> first | rfl | cases hcv
 have hlv : (cv.cM ds).live = true := by cases cv <;> rfl
 have hown : ∀ c b, owns ((.b k, cv.cM ds) :: s) L c b → owns s L c b := by
  intro c b hc
  by_cases e : c = .b k
  ·subst e; exact ⟨⟨cv, hk, hlive⟩, hc.2⟩
  ·exact dM e hc
 refine ⟨h.size, h.defs, h.ge, h.kn, h.old, h.obs, h.obn, h.fr, fun n x g => h.slot n x (by simpa [get] using g), ?_, fun j m el esz xs g => h.tok j m el esz xs (by simpa [get] using g),
  fun c d b hc hd => h.disj c d b (hown _ _ hc) (hown _ _ hd), by simpa [get] using h.heap, fun c b hc H g => h.hdisj c b (hown _ _ hc) H (by simpa [get] using g), ?_, fun j g => h.notok j (by simpa [get] using g)⟩
 ·intro j cv2 g hl2
  by_cases e : j = k
  ·subst e
   simp [get] at g
   subst g
   obtain ⟨blk, o, q1, q2, q3, q4, q5, q6⟩ := h.box j cv hk hlive
   obtain ⟨arr, el, rfl, e1, e2⟩ := wD hcv q4
   refine ⟨blk, _, q1, q2, q3, B9 hcv q4 hl.symm rfl (fun i y ey => ?_), q5, by rw [hlk]; exact q6⟩
   have hi : i < cs.length := by rw [hl]; exact (List.getElem?_eq_some_iff.1 ey).1
   obtain ⟨p1, p2⟩ := e2 i _ (List.getElem?_eq_getElem hi)
   exact hc i _ y _ (List.getElem?_eq_getElem hi) ey p1 p2
  ·exact h.box j cv2 (by simpa [get, Ne.symm e] using g) hl2
 ·intro j g
  by_cases e : j = k
  ·subst e; simp [get] at g
  ·exact h.nobox j (by simpa [get, Ne.symm e] using g)
section
variable {P : Program} {N : Nat} {s : St} {d : Nat} {ty : TypeId} {pos : String} {af : Array Edge} {g : Option (Nat × Bool)}
theorem FE {t1 e : TypeId} {x : Operand} {k n : Nat} (hN : d < N) (h1 : P.underlying t1 = some (.slice e)) (hx : gS x s = some (.om k n)) :
  aW P N ⟨some d, .call { callee := .builtin .len, args := #[x], argTypes := #[t1] }, ty, pos, af, g⟩ s (rd x) [(.s d, .sv (.v (.int .i64 n)))] :=
 aW.val rfl hN fun E G L a w t hr hR => by
  obtain ⟨_, b, cap, hv⟩ := bj hr hR hx
  refine ⟨.int .i64 n, ?_, .int _ _⟩
  simp [execOp, resolve, invoke, builtin, hv, Builtin.len_, run_underlying h1, goInt]

theorem vD {E : eB} {G : Gh} {L : Loc} {a : Act} {w : World} {t : St} (hr : Rel E N G L a w t) {k el esz : Nat} {m : Bool} {xs : List AV} (hk : get t (.t k) = some (.tk m el esz xs)) :
  ∃ v cells, L.tok k = some v ∧ w.ownsRow 0 el esz v xs.length cells ∧ 0 < esz ∧ Lay G esz xs cells := by
 obtain ⟨v, hv, ⟨cells, _, ho, hz, hL, _⟩, _⟩ := hr.tok k m el esz xs hk
 exact ⟨v, cells, hv, ho, hz, hL⟩
theorem FI {t1 : TypeId} {x i : Operand} {el esz k m : Nat} {ik : IntKind} {n : Int} {xs : List AV} (hN : d < N) (ht : ie P t1 = some esz) (hx : gS x s = some (.om k m)) (hk : get s (.t k) = some (.tk true el esz xs)) (hi : cV i s = some (.int ik n)) (h0 : 0 ≤ n) (h1 : n < m) :
  aW P N ⟨some d, .indexAddr t1 x i, ty, pos, af, g⟩ s (rd x ++ (rd i ++ [.t k])) [(.s d, .sv (.ta k (n.toNat * esz)))] :=
 aW.val rfl hN fun E G L a w t hr hR => by
  obtain ⟨htk, b, cap, hv⟩ := bj hr hR.left hx
  have hn := lb (aT hr hR.right.left hi)
  obtain ⟨el2, inf, hu, hinf, hsize⟩ := vu ht
  obtain ⟨v, cells, hv2, ho, hz, hL⟩ := vD hr (show get t (.t k) = some (.tk true el esz xs) by rw [hR (.t k) (by simp)]; exact hk)
  rw [htk] at hv2; cases hv2
  rcases ho.2 with ⟨e1, e2⟩ | ⟨q, cap2, cur, e1, _⟩
  ·rw [hv] at e1; cases e1; omega
  ·rw [hv] at e1; cases e1
   refine ⟨.pointer (some ⟨q, n.toNat * esz, none⟩), ?_, ⟨q, _, _, by rw [htk, hv], rfl⟩⟩
   simp [execOp, hv, hn, Instr.indexAt, asIntOf, run_underlying hu, h0, h1, sizeOf, typeInfo, hinf, hsize, Addr.add_lit]
theorem Lay.flat {G : Gh} {esz : Nat} {xs : List AV} {cells : List Value} (h : Lay G esz xs cells) (hz : 0 < esz) (j : Nat) (c : AV) (e : (xs.flatMap AV.cells)[j]? = some c) : c.flat = true ∧ V G (cells.getD j undef) c := by
 have hes : ∀ e ∈ xs, e.cells.length = esz := fun e he => by obtain ⟨i, hi⟩ := List.mem_iff_getElem?.1 he; exact h.1 i e hi
 have hlt : j < xs.length * esz := by rw [← dC hes]; exact (List.getElem?_eq_some_iff.1 e).1
 have hi : j / esz < xs.length := Nat.div_lt_of_lt_mul (by rw [Nat.mul_comm]; exact hlt)
 have hm : j % esz < esz := Nat.mod_lt _ hz
 have hj : j / esz * esz + j % esz = j := Nat.div_add_mod' j esz
 have e2 := jZ hes (j / esz) (j % esz) _ (List.getElem?_eq_getElem hi) hm
 rw [hj, e] at e2
 have := h.2 _ _ _ _ (List.getElem?_eq_getElem hi) e2.symm
 rwa [hj] at this
theorem wm {w : World} {el esz n : Nat} {v : Value} {cells : List Value} (ho : w.ownsRow 0 el esz v n cells) {blk m c : Nat} (hv : v = .slice (some ⟨blk, 0, none⟩) m c) : ∃ cur, w.heap[blk]? = some (.cells cur el (0, 0)) ∧ m = n ∧ n ≤ c ∧ c ≤ maxLen ∧ cur.size = c * esz ∧ cur.toList.take (n * esz) = cells := by
 rcases ho.2 with ⟨e1, _⟩ | ⟨q, cap, cur, e1, _, h1, h2, h3, h4, h5⟩
 ·rw [hv] at e1; cases e1
 ·rw [hv] at e1; cases e1
  exact ⟨cur, h1, rfl, h2, h3, h4, h5⟩
theorem Lv {t1 : TypeId} {x : Operand} {k off n el esz : Nat} {m b : Bool} {xs : List AV} {z : Sv} (hN : d < N) (hl : lk P t1 = some (b, n)) (hx : gS x s = some (.ta k off)) (hk : get s (.t k) = some (.tk m el esz xs)) (hz : wP b n (((xs.flatMap AV.cells).drop off).map .v) = some z) :
  aW P N ⟨some d, .load t1 x, ty, pos, af, g⟩ s (rd x ++ [.t k]) [(.s d, .sv z)] :=
 aW.val rfl hN fun E G L a w t hr hR => by
  obtain ⟨blk, mm, c, htk, hv⟩ := bj hr hR.left hx
  obtain ⟨v, cells, hv2, ho, hpos, hL⟩ := vD hr (show get t (.t k) = some (.tk m el esz xs) by rw [hR (.t k) (by simp)]; exact hk)
  rw [htk] at hv2; cases hv2
  obtain ⟨cur, q1, _, q2, q3, q4, q5⟩ := wm ho rfl
  have hes : ∀ e ∈ xs, e.cells.length = esz := fun e he => by obtain ⟨i, hi⟩ := List.mem_iff_getElem?.1 he; exact hL.1 i e hi
  have hcell : ∀ (j : Nat) y, (((xs.flatMap AV.cells).drop off).map Sv.v)[j]? = some y → w.cell? ((⟨blk, off, none⟩ : Addr).add j) = some (cells.getD (off + j) undef) ∧ y.flat = true ∧ SV G L (cells.getD (off + j) undef) y := by
   intro j y e
   simp only [List.getElem?_map, List.getElem?_drop] at e
   obtain ⟨c2, e1, rfl⟩ := Option.map_eq_some_iff.1 e
   obtain ⟨p1, p2⟩ := hL.flat hpos _ _ e1
   refine ⟨?_, p1, p2⟩
   have hlt : off + j < xs.length * esz := by rw [← dC hes]; exact (List.getElem?_eq_some_iff.1 e1).1
   rw [Addr.add_lit, cell_of_row w blk (off + j) cur el (0, 0) q1, List.getD_eq_getElem?_getD, ← q5, List.getElem?_take, if_pos hlt]
   have : off + j < cur.size := by rw [q4]; exact Nat.lt_of_lt_of_le hlt (Nat.mul_le_mul_right _ q2)
   simp [Array.getElem?_eq_getElem this]
  obtain ⟨u, hrun, hV⟩ := fm (P := P) hl hz hcell
  refine ⟨u, ?_, hV⟩
  simp [execOp, hv, Instr.loadAt, Instr.sureAddr, hrun]

end

section
variable {P : Program} {N : Nat} {s : St} {d : Nat} {ty : TypeId} {pos : String} {af : Array Edge} {g : Option (Nat × Bool)}
end

section
variable {P : Program} {N : Nat} {s : St} {d : Nat} {ty : TypeId} {pos : String} {af : Array Edge} {g : Option (Nat × Bool)}
def jz (xs : List AV) (lo : Nat) (zs : List AV) : List AV := xs.take lo ++ zs ++ xs.drop (lo + zs.length)
theorem yv {xs zs : List AV} {lo : Nat} (h : lo + zs.length ≤ xs.length) : (jz xs lo zs).length = xs.length := by simp only [jz, List.length_append, List.length_take, List.length_drop]; omega
theorem xh {G : Gh} {xs zs : List AV} {cells cs : List Value} {lo : Nat} (h : Lay G 1 xs cells) (k : Lay G 1 zs cs) (hl : cells.length = xs.length) (hl2 : cs.length = zs.length) (hf : lo + zs.length ≤ xs.length) : Lay G 1 (jz xs lo zs) (cells.take lo ++ cs ++ cells.drop (lo + cs.length)) := by
 have key : ∀ (i : Nat) e, (jz xs lo zs)[i]? = some e → (∃ (ys : List AV) (ds : List Value) (q : Nat), Lay G 1 ys ds ∧ ys[q]? = some e ∧ (cells.take lo ++ cs ++ cells.drop (lo + cs.length))[i]? = ds[q]?) := by
  intro i e he
  simp only [jz, List.append_assoc] at he ⊢
  have t1 : (xs.take lo).length = lo := by rw [List.length_take]; omega
  have t2 : (cells.take lo).length = lo := by rw [List.length_take]; omega
  by_cases h1 : i < lo
  ·rw [List.getElem?_append_left (by omega), List.getElem?_take, if_pos h1] at he
   exact ⟨xs, cells, i, h, he, by rw [List.getElem?_append_left (by omega), List.getElem?_take, if_pos h1]⟩
  ·rw [List.getElem?_append_right (by omega), t1] at he
   rw [List.getElem?_append_right (by omega), t2]
   by_cases h2 : i - lo < zs.length
   ·rw [List.getElem?_append_left (by omega)] at he
    exact ⟨zs, cs, i - lo, k, he, by rw [List.getElem?_append_left (by omega)]⟩
   ·rw [List.getElem?_append_right (by omega), List.getElem?_drop] at he
    refine ⟨xs, cells, _, h, he, ?_⟩
    rw [List.getElem?_append_right (by omega), List.getElem?_drop, hl2]
 refine ⟨fun i e he => ?_, fun i e j c he hj => ?_⟩
 ·obtain ⟨ys, ds, q, hy, hq, _⟩ := key i e he
  exact hy.1 q e hq
 ·obtain ⟨ys, ds, q, hy, hq, hd⟩ := key i e he
  have hj0 : j = 0 := by have := (List.getElem?_eq_some_iff.1 hj).1; rw [hy.1 q e hq] at this; omega
  subst hj0
  have := hy.2 q e 0 c hq hj
  simp only [Nat.mul_one, Nat.add_zero] at this ⊢
  rwa [List.getD_eq_getElem?_getD, hd, ← List.getD_eq_getElem?_getD]

end

section
variable {P : Program} {N : Nat} {s : St} {d : Nat} {ty : TypeId} {pos : String} {af : Array Edge} {g : Option (Nat × Bool)}
theorem aD.od {ops : Array Oper} {l : List Oper} {Q : St → Prop} {t1 e t2 : TypeId} {x : Operand} {xs : List AV} (hN : d < N) (hu : P.underlying t1 = some (.slice e)) (hx : cV x s = some (.sl xs)) (h : ∀ b : Bool, (b = true → xs = []) → aD P N ops l ((.s d, .sv (.v (.bool b))) :: s) Q) :
  aD P N ops (⟨some d, .binOp .eql t1 x (.const (.slice none 0 0)) t2, ty, pos, af, none⟩ :: l) s Q := by
 intro E a w ⟨G, L, hr⟩ QQ hQ
 have hV := aT hr (fun _ _ => rfl) hx
 obtain ⟨A, c, hv⟩ := Ny hV
 refine wpList_plain rfl fun K hK => ?_
 have hb : A.isNone = true → xs = [] := by
  have key : ∀ v, V G v (.sl xs) → ∀ A n c, v = .slice A n c → A.isNone = true → xs = [] := by
   intro v hV A n c e hA
   cases hV
   ·rfl
   ·cases e; cases hA
  exact key _ hV _ _ _ hv
 have hgd : (eqGuard .eql t1 x (.const (.slice none 0 0)) (.slice A xs.length c) (.slice none 0 0)).run P w = .ok () w := by simp [eqGuard]
 have he : a.eval (.const (.slice none 0 0)) = .slice none 0 0 := rfl
 unfold Oper.wp
 have hrun : (execOp a.eval ⟨some d, .binOp .eql t1 x (.const (.slice none 0 0)) t2, ty, pos, af, none⟩).run P w = .ok (.value (.bool A.isNone)) w := by
  simp only [execOp, Sem.run_bind, hv, he, hgd, Result.andThen_ok, binOp, run_equal_slice_nil w t1 e A xs.length c hu, Sem.run_pure]
 rw [hrun]
 exact hK _ _ (h A.isNone hb E _ _ ⟨G, L, hr.put d hN _ (.v (.bool A.isNone)) (.bool _)⟩ QQ hQ)
end
end Go.Proofs.YtgmdapgedlachaaGreatDoor.X
