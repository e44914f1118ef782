/- The program logic's rules: arrays in local boxes, an array given away as a slice, a store into a row. No condition. -/
import Derived.Test.YthoncmadikifnaaDoorXJ
set_option linter.unusedVariables false
set_option linter.unusedSimpArgs false
namespace Go.Proofs.YthoncmadikifnaaDoor.X
open Go Go.RowKit

/-- A local box of pure cells is never written again. -/
theorem Rel.frz0 {E : Ent} {N : Nat} {G : Gh} {L : Loc} {a : Act} {w : World} {s : St} (h : Rel E N G L a w s) {k blk : Nat} {xs : List AV} (hk : get s (.b k) = some (.bx (xs.map .v))) (hb : L.box k = some blk) :
    ∃ G', Rel E N G' L a w ((.b k, .gone) :: s) ∧ ∀ (j : Nat) x, xs[j]? = some x → ∃ v, G'.kn blk j = some v ∧ x.flat = true ∧ V G' v x := by
  obtain ⟨blk', o, hb', hbase, hh, ⟨arr, el, rfl, hsz, hc⟩, hno, hlk⟩ := h.box k _ hk rfl
  rw [hb] at hb'; cases hb'
  have hmine : owns s L (.b k) blk := ⟨⟨_, hk, rfl⟩, hb⟩
  let G' := G.add blk arr.toList
  have hle : G.le G' := Gh.add_le (fun o v e => by rw [hno o] at e; cases e)
  have hkn2 : ∀ c j, c ≠ blk → G'.kn c j = G.kn c j := fun c j e => by simp [G', Gh.add, e]
  have hown : ∀ c b, owns ((.b k, .gone) :: s) L c b → c ≠ .b k ∧ owns s L c b := by
    intro c b hc
    by_cases e : c = .b k
    · subst e
      obtain ⟨⟨cv, g, hl⟩, _⟩ := hc
      simp [get] at g; subst g; cases hl
    · exact ⟨e, owns_cons e hc⟩
  have hneb : ∀ c b, owns ((.b k, .gone) :: s) L c b → b ≠ blk := by
    rintro c b hc rfl
    obtain ⟨h1, h2⟩ := hown c _ hc
    exact h1 (h.disj c (.b k) _ h2 hmine)
  obtain ⟨H0, gH, hokH, hmayH⟩ := h.heap
  have hfb : ∀ c, foot G H0 w c → c ≠ blk := fun c hc e => h.hdisj _ _ hmine H0 gH (e ▸ hc)
  have hst := hokH.stay (w' := w) hle rfl (fun c hc o => (hkn2 c o (hfb c hc)).trans ((hokH.foot hc).2 o)) (fun c hc => rfl) (Nat.le_refl _)
  refine ⟨G', ⟨h.size, h.defs, h.ge, ?_, ?_, h.obs, h.obn, h.fr, ?_, ?_, ?_, fun c d b hc hd => h.disj c d b (hown _ _ hc).2 (hown _ _ hd).2, ⟨H0, by simpa [get] using gH, hst.1, fun b hb => hmayH b ((hst.2 b).1 hb)⟩, fun c b hc H2 g2 e2 => ?_, ?_, ?_⟩, ?_⟩
  · intro b j v e
    by_cases eb : b = blk
    · subst eb
      rw [add_kn] at e
      rw [cell_of_row w b j arr el (0, 0) hh]
      simpa using e
    · rw [hkn2 b j eb] at e; exact h.kn b j v e
  · intro b j hlt hm
    rw [hkn2 b j (fun e => by
      subst e
      rcases hbase with e | e
      · omega
      · exact hm e)]
    exact h.old b j hlt hm
  · intro n x g
    exact (h.slot n x (by simpa [get] using g)).mono hle
  · intro j cv g hl
    by_cases e : j = k
    · subst e; simp [get] at g; subst g; cases hl
    · have g' : get s (.b j) = some cv := by simpa [get, Ne.symm e] using g
      exact (h.box j cv g' hl).stay hle (fun _ _ e => .inl e) (fun _ _ => rfl) (fun b2 p1 o => hkn2 b2 o (fun e2 => by
        subst e2
        have := h.disj (.b j) (.b k) _ ⟨⟨cv, g', hl⟩, p1⟩ hmine
        exact e (by injection this)))
  · intro j m el' esz' ys g
    have g' : get s (.t j) = some (.tk m el' esz' ys) := by simpa [get] using g
    refine (h.tok j m el' esz' ys g').stay hle (fun _ _ e => .inl e) (fun _ _ _ _ => rfl) (fun v b2 hv hb2 o => hkn2 b2 o ?_)
    rintro rfl
    have := h.disj (.t j) (.b k) _ ⟨⟨_, _, _, _, g'⟩, v, hv, hb2⟩ hmine
    cases this
  · have g3 : get s .h = some (.hp H2) := by simpa [get] using g2
    rw [gH] at g3; cases g3
    exact h.hdisj c b (hown _ _ hc).2 _ gH ((hst.2 b).1 e2)
  · intro j g
    by_cases e : j = k
    · subst e; simp [get] at g
    · exact h.nobox j (by simpa [get, Ne.symm e] using g)
  · intro j g; exact h.notok j (by simpa [get] using g)
  · intro j x e
    have := hc j (.v x) (by simp [e])
    have hlt : j < arr.size := by rw [hsz]; have := (List.getElem?_eq_some_iff.1 e).1; simpa using this
    refine ⟨arr.getD j undef, ?_, this.1, V.mono hle this.2⟩
    rw [add_kn, Array.getElem?_toList, Array.getD_eq_getD_getElem?, Array.getElem?_eq_getElem hlt]; rfl
/-- What array a type is: its length, where an element has one cell. -/
def ia (P : Program) (t : TypeId) : Option Nat :=
  match P.underlying t with
  | some (.array n el) => match P.info? el with
    | some i => if i.size = 1 then some n else none
    | none => none
  | _ => none
theorem ia_run {P : Program} {t : TypeId} {n : Nat} (h : ia P t = some n) : ∃ el i, P.underlying t = some (.array n el) ∧ P.info? el = some i ∧ i.size = 1 := by
  unfold ia at h
  split at h
  · rename_i m el hu
    split at h
    · rename_i i hi
      split at h
      · rename_i h1; cases h; exact ⟨el, i, hu, hi, h1⟩
      · cases h
    · cases h
  · cases h
section
variable {P : Program} {N : Nat} {s : St} {d : Nat} {ty : TypeId} {pos : String} {af : Array Edge} {g : Option (Nat × Bool)}
/-- &a[i] of an array in a local box -/
theorem op_iaa {t1 : TypeId} {x i : Operand} {k off m : Nat} {ik : IntKind} {n : Int} (hN : d < N) (ht : ia P t1 = some m) (hx : opd x s = some (.lp k off)) (hi : opv i s = some (.int ik n)) (h0 : 0 ≤ n) (h1 : n < m) :
    OpOK P N ⟨some d, .indexAddr t1 x i, ty, pos, af, g⟩ s (rd x ++ rd i) [(.s d, .sv (.lp k (off + n.toNat)))] :=
  OpOK.val rfl hN fun E G L a w t hr hR => by
    obtain ⟨blk, hb, hv⟩ := opd_sound hr hR.left hx
    have hn := V_int (opv_sound hr hR.right hi)
    obtain ⟨el, inf, hu, hinf, hsize⟩ := ia_run ht
    refine ⟨.pointer (some ⟨blk, off + n.toNat, none⟩), ?_, ⟨blk, hb, rfl⟩⟩
    simp [execOp, hv, hn, Instr.indexAt, Instr.sureAddr, asIntOf, run_underlying hu, h0, h1, sizeOf, typeInfo, hinf, hsize, Addr.add_lit]
/-- a[:h] of an array in a local box: it is given away. -/
theorem op_sla {t1 : TypeId} {x : Operand} {hi : Option Operand} {k m : Nat} {xs : List AV} {h : Int} (hN : d < N) (ht : ia P t1 = some m) (hx : opd x s = some (.lp k 0)) (hk : get s (.b k) = some (.bx (xs.map .v))) (hm : m = xs.length) (h2 : obnd hi m s = some h) (h0 : 0 ≤ h) (hhc : h ≤ m) :
    OpOK P N ⟨some d, .slice t1 x none hi none, ty, pos, af, g⟩ s (rd x ++ (rdo hi ++ [.b k])) [(.s d, .sv (.v (.sl (xs.take h.toNat)))), (.b k, .gone)] := by
  intro t hR E G L a w hr K Q hK
  obtain ⟨blk, hb, hv⟩ := opd_sound hr hR.left hx
  obtain ⟨el, inf, hu, hinf, hsize⟩ := ia_run ht
  obtain ⟨G', hr', hkn⟩ := hr.frz0 (show get t (.b k) = some (.bx (xs.map .v)) by rw [hR (.b k) (by simp)]; exact hk) hb
  have hbn := bounds_run (P := P) (lo := none) (l := 0) hr false m m (fun c hc => by simp [rdo] at hc) hR.right.left rfl h2 (Int.le_refl _) h0 hhc
  have hlen : (xs.take h.toNat).length = h.toNat := by rw [List.length_take]; omega
  have hrun : (execOp a.eval ⟨some d, .slice t1 x none hi none, ty, pos, af, g⟩).run P w = .ok (.value (.slice (some ⟨blk, 0, none⟩) h.toNat m)) w := by
    have e1 : (Instr.sliceAt t1 (a.eval x) none (hi.map a.eval) none).run P w = .ok (.slice (some ⟨blk, 0, none⟩) h.toNat m) w := by
      have hbn' : (Instr.sliceBounds false m m none (hi.map a.eval) none).run P w = .ok (0, h.toNat, m) w := hbn
      simp only [Instr.sliceAt, Sem.run_bind, run_underlying hu, Result.andThen_ok, hv, Instr.sureAddr, Sem.run_pure, hbn', sizeOf, typeInfo, run_program, hinf, Nat.sub_zero]
      by_cases hm0 : m = 0
      · simp [hm0]
      · simp [hm0, Addr.add]
    simp only [execOp, Sem.run_bind, Option.map_none, e1, Result.andThen_ok, Sem.run_pure]
  unfold Oper.wp
  rw [hrun]
  refine hK _ _ G' _ (hr'.put d hN _ (.v (.sl (xs.take h.toNat))) ?_)
  show V G' _ _
  have hV := V.slN (G := G') blk 0 m 1 (xs.take h.toNat) (fun i j => ((G'.kn blk i).getD undef)) (by omega) (fun i e q => by
      have q' : xs[i]? = some e := by
        have hi2 : i < h.toNat := by have := (List.getElem?_eq_some_iff.1 q).1; omega
        rwa [List.getElem?_take, if_pos hi2] at q
      obtain ⟨v, p1, p2, p3⟩ := hkn i e q'
      rw [AV.cells_flat p2]; rfl) ?_ ?_ ?_
  · rw [hlen] at hV; exact hV
  all_goals
    intro i e j c q r
    have q' : xs[i]? = some e := by
      have hi2 : i < h.toNat := by have := (List.getElem?_eq_some_iff.1 q).1; omega
      rwa [List.getElem?_take, if_pos hi2] at q
    obtain ⟨v, p1, p2, p3⟩ := hkn i e q'
    rw [AV.cells_flat p2] at r
    have hj : j = 0 := by have := (List.getElem?_eq_some_iff.1 r).1; simp at this; exact this
    subst hj
    simp at r
    subst r
    try simp only [Nat.mul_one, Nat.zero_add, Nat.add_zero, p1, Option.getD_some]
    try first | exact p2 | exact p3
/-- xs[i] = y of a row that may be written, of elements of one cell -/
theorem op_stt {t1 : TypeId} {x y : Operand} {k off el : Nat} {b : Bool} {xs : List AV} {av : AV} (hl : lk P t1 = some (b, 1)) (hx : opd x s = some (.ta k off)) (hk : get s (.t k) = some (.tk true el 1 xs)) (hy : opv y s = some av) (hfl : av.flat = true) (hf : off < xs.length) :
    OpOK P N ⟨none, .store t1 x y, ty, pos, af, g⟩ s (rd x ++ (rd y ++ [.t k])) [(.t k, .tk true el 1 (splice xs off [av]))] := by
  intro t hR E G L a w hr K Q hK
  obtain ⟨blk, m, c, htk, hv⟩ := opd_sound hr hR.left hx
  have hz := opv_sound hr hR.right.left hy
  have hk' : get t (.t k) = some (.tk true el 1 xs) := by rw [hR (.t k) (by simp)]; exact hk
  obtain ⟨v, cells, hv2, ho, hpos, hLx⟩ := tok_row hr hk'
  rw [htk] at hv2; cases hv2
  obtain ⟨cur, q1, q0, q2, q3, q4, q5⟩ := row_cell ho rfl
  simp only [Nat.mul_one] at q4 q5 ⊢
  have hcl : cells.length = xs.length := by have := ho.1; omega
  have hone := hz.oneCell hfl
  have hcl1 : (a.eval y).cells = #[a.eval y] := vcells_one hone
  have hst := run_storeCells_at P blk off el [a.eval y] 0 cur w q1 (by simp; omega) (fun u hu => by simp at hu; subst hu; exact hone)
  obtain ⟨_, hs⟩ := lk_run hl w
  simp only [Nat.add_zero] at hst
  have hrun : (execOp a.eval ⟨none, .store t1 x y, ty, pos, af, g⟩).run P w = .ok .skip (w.setRow blk (cur.toList.take off ++ [a.eval y] ++ cur.toList.drop (off + [a.eval y].length)).toArray) := by
    have hne : ¬ ((a.eval y).cells.size ≠ 1) := by rw [hcl1]; simp
    simp only [execOp, Sem.run_bind, hv, Instr.storeAt, Instr.sureAddr, Sem.run_pure, Result.andThen_ok, storeVar, hs]
    rw [if_neg hne, hcl1]
    simp only [hst, Result.andThen_ok]
  have hL : Lay G 1 [av] [a.eval y] := by
    refine ⟨fun i e he => ?_, fun i e j c he hj => ?_⟩
    · have : i = 0 := by have := (List.getElem?_eq_some_iff.1 he).1; simp at this; exact this
      subst this; simp at he; subst he; rw [AV.cells_flat hfl]; rfl
    · have : i = 0 := by have := (List.getElem?_eq_some_iff.1 he).1; simp at this; exact this
      subst this; simp at he; subst he
      rw [AV.cells_flat hfl] at hj
      have : j = 0 := by have := (List.getElem?_eq_some_iff.1 hj).1; simp at this; exact this
      subst this; simp at hj; subst hj
      exact ⟨hfl, hz⟩
  have hw' := setRow_heap w blk cur (cur.toList.take off ++ [a.eval y] ++ cur.toList.drop (off + [a.eval y].length)).toArray el (0, 0) q1
  have hsl := splice_len (xs := xs) (zs := [av]) (lo := off) (by simp; omega)
  have hr2 := hr.turntok (blk := blk) (ys := splice xs off [av]) (cells := cells.take off ++ [a.eval y] ++ cells.drop (off + [a.eval y].length)) hk' htk rfl (w' := w.setRow blk (cur.toList.take off ++ [a.eval y] ++ cur.toList.drop (off + [a.eval y].length)).toArray) rfl rfl rfl (size_setRow w blk _) (fun j hj => setRow_other w blk j _ hj) hpos (by
    refine ⟨?_, .inr ⟨blk, c, (cur.toList.take off ++ [a.eval y] ++ cur.toList.drop (off + [a.eval y].length)).toArray, by rw [hsl, q0], Nat.zero_le _, hw', by rw [hsl]; exact q2, q3, ?_, ?_⟩⟩
    · simp only [List.length_append, List.length_take, List.length_drop, List.length_cons, List.length_nil]; omega
    · simp only [List.size_toArray, List.length_append, List.length_take, List.length_drop, Array.length_toList, List.length_cons, List.length_nil]; omega
    · rw [hsl, Nat.mul_one, ← q5]
      simp only [List.append_assoc, List.length_cons, List.length_nil]
      have e1 : (cur.toList.take off).length = off := by rw [List.length_take, Array.length_toList]; omega
      rw [List.take_append, e1, List.take_take, Nat.min_eq_right (by omega), List.take_append, List.take_of_length_le (l := [a.eval y]) (by simp; omega), List.take_take, Nat.min_eq_left (by omega), List.drop_take]
      congr 3) (lay1_splice hLx hL hcl rfl (by simp; omega))
  unfold Oper.wp
  rw [hrun]
  exact hK undef _ G L hr2
end
end Go.Proofs.YthoncmadikifnaaDoor.X
