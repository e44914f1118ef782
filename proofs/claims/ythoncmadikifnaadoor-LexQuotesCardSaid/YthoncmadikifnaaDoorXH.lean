/- The program logic's rules: rows that are cut short, copies into rows. No condition. -/
import Derived.Test.YthoncmadikifnaaDoorXG
import Derived.Laws.CopyRow
import Derived.Laws.IdiomCopy
set_option linter.unusedVariables false
set_option linter.unusedSimpArgs false
namespace Go.Proofs.YthoncmadikifnaaDoor.X
open Go Go.RowKit

theorem lay_take {G : Gh} {esz n : Nat} {xs : List AV} {cells : List Value} (h : Lay G esz xs cells) (hl : cells.length = xs.length * esz) : Lay G esz (xs.take n) (cells.take (n * esz)) := by
  have hg : ∀ (i : Nat) e, (xs.take n)[i]? = some e → i < n ∧ xs[i]? = some e := by
    intro i e he
    have hi : i < n := by have := (List.getElem?_eq_some_iff.1 he).1; simp at this; omega
    exact ⟨hi, by rwa [List.getElem?_take, if_pos hi] at he⟩
  refine ⟨fun i e he => h.1 i e (hg i e he).2, fun i e j c he hj => ?_⟩
  obtain ⟨hi, he'⟩ := hg i e he
  have hj' := (List.getElem?_eq_some_iff.1 hj).1
  rw [h.1 i e he'] at hj'
  have hb := lay_bound (j := j) hi hj'
  have := h.2 i e j c he' hj
  rwa [List.getD_eq_getElem?_getD, List.getElem?_take, if_pos hb, ← List.getD_eq_getElem?_getD]
section
variable {P : Program} {N : Nat} {s : St} {d : Nat} {ty : TypeId} {pos : String} {af : Array Edge} {g : Option (Nat × Bool)}
/-- xs[:hi] of a row that may be written: the row, cut short -/
theorem op_cutom {t1 : TypeId} {x : Operand} {hi : Option Operand} {el esz k n : Nat} {xs : List AV} {h : Int} (hN : d < N) (ht : ie P t1 = some esz) (hx : opd x s = some (.om k n)) (hk : get s (.t k) = some (.tk true el esz xs)) (hn : n = xs.length) (h2 : obnd hi n s = some h) (h0 : 0 ≤ h) (hhc : h ≤ n) (hd : get s (.t d) = none) :
    OpOK P N ⟨some d, .slice t1 x none hi none, ty, pos, af, g⟩ s (rd x ++ (rdo hi ++ [.t k, .t d])) [(.s d, .sv (.om d h.toNat)), (.t d, .tk true el esz (xs.take h.toNat)), (.t k, .gone)] := by
  intro t hR E G L a w hr K Q hK
  obtain ⟨htk, A, cap, hv⟩ := opd_sound hr hR.left hx
  have hk' : get t (.t k) = some (.tk true el esz xs) := by rw [hR (.t k) (by simp)]; exact hk
  have hd' : get t (.t d) = none := by rw [hR (.t d) (by simp)]; exact hd
  obtain ⟨v, hv2, ⟨cells, _, ho, hz, hL, hkn⟩, hm⟩ := hr.tok k _ _ _ _ hk'
  have hvv : v = .slice A n cap := by rw [htk] at hv2; cases hv2; exact hv
  subst hvv
  obtain ⟨el2, inf, hu, hinf, hsize⟩ := ie_run ht
  have hel : P.elem t1 = el2 := by simp [Program.elem, hu]
  have hu2 : P.underlying t1 = some (.slice (P.elem t1)) := by rw [hel]; exact hu
  have hsz : (sizeOf (P.elem t1)).run P w = .ok esz w := by simp [sizeOf, typeInfo, hel, hinf, hsize]
  have hnc : n ≤ cap := by
    rcases ho.2 with ⟨e1, e2⟩ | ⟨q, cap2, cur, e1, _, _, e2, _⟩
    · cases e1; exact Nat.le_refl _
    · cases e1; exact e2
  have hb := bounds_run (P := P) (s := s) (lo := none) hr true n cap (fun c hc => by simp [rdo] at hc) hR.right.left rfl h2 (Int.le_refl 0) h0 (by omega)
  have hrun : (execOp a.eval ⟨some d, .slice t1 x none hi none, ty, pos, af, g⟩).run P w = .ok (.value (.slice A h.toNat cap)) w := by
    simp only [execOp, Sem.run_bind, run_sliceAt_slice w t1 _ _ _ _ hu2, Option.map_none, Sem.run_pure]
    rw [hv, run_slice_any w t1 A n cap hu2]
    simp only [Option.map_none] at hb
    rw [hb]
    simp only [Result.andThen_ok, hsz, sliced, Int.toNat_zero, Nat.sub_zero, Nat.zero_mul]
    split
    · rfl
    · cases A with
      | none => rfl
      | some A => simp [Addr.add]
  unfold Oper.wp
  rw [hrun]
  have hlen : (xs.take h.toNat).length = h.toNat := by rw [List.length_take]; omega
  have hown1 : (Value.slice A h.toNat cap).ownBlock = (Value.slice A n cap).ownBlock := by cases A <;> rfl
  have ho1 : w.ownsRow 0 el esz (.slice A h.toNat cap) (xs.take h.toNat).length (cells.take (h.toNat * esz)) := by
    refine ⟨by rw [List.length_take, ho.1, hlen]; exact Nat.min_eq_left (Nat.mul_le_mul_right _ (by omega)), ?_⟩
    rcases ho.2 with ⟨e1, e2⟩ | ⟨q, cap2, cur, e1, e3, e4, e5, e6, e7, e8⟩
    · cases e1
      have : h.toNat = 0 := by omega
      exact .inl ⟨by rw [this], by rw [hlen]; exact this⟩
    · cases e1
      refine .inr ⟨q, cap, cur, by rw [hlen], e3, e4, by rw [hlen]; omega, e6, e7, ?_⟩
      rw [hlen, ← e8, List.take_take, Nat.min_eq_left]
      exact Nat.mul_le_mul_right _ (by omega)
  have hr1 := hr.gonetok hk'
  have hne : d ≠ k := by rintro rfl; rw [hk'] at hd'; cases hd'
  have hmine : ∀ b, (Value.slice A n cap).ownBlock = some b → owns t L (.t k) b := fun b e => ⟨⟨_, _, _, _, hk'⟩, _, hv2, e⟩
  have hr2 := hr1.addtok (d := d) (m := true) (el := el) (esz := esz) (xs := xs.take h.toNat) (v := .slice A h.toNat cap) (by simp [get, Ne.symm hne]; exact hd') ⟨_, fun e => (by cases e), ho1, hz, lay_take hL ho.1, fun b e => hkn b (hown1.symm.trans e)⟩ (fun b e => by
    have e := hown1.symm.trans e
    refine ⟨(hm b e).1, (hm b e).2, fun c hc => ?_, fun H g => hr.hdisj _ _ (hmine b e) H (by simpa [get] using g)⟩
    by_cases e2 : c = .t k
    · subst e2; obtain ⟨⟨m, el, esz, xs, g⟩, _⟩ := hc; simp [get] at g
    · exact e2 (hr.disj c (.t k) b (owns_cons e2 hc) (hmine b e)))
  exact hK _ _ G _ (hr2.put d hN _ (.om d h.toNat) ⟨by simp [Loc.setTok], _, _, rfl⟩)

/-- A row, some of its elements written. -/
def splice (xs : List AV) (lo : Nat) (zs : List AV) : List AV := xs.take lo ++ zs ++ xs.drop (lo + zs.length)
theorem splice_len {xs zs : List AV} {lo : Nat} (h : lo + zs.length ≤ xs.length) : (splice xs lo zs).length = xs.length := by simp only [splice, List.length_append, List.length_take, List.length_drop]; omega
theorem lay1_splice {G : Gh} {xs zs : List AV} {cells cs : List Value} {lo : Nat} (h : Lay G 1 xs cells) (k : Lay G 1 zs cs) (hl : cells.length = xs.length) (hl2 : cs.length = zs.length) (hf : lo + zs.length ≤ xs.length) : Lay G 1 (splice xs lo zs) (cells.take lo ++ cs ++ cells.drop (lo + cs.length)) := by
  have key : ∀ (i : Nat) e, (splice xs lo zs)[i]? = some e → (∃ (ys : List AV) (ds : List Value) (q : Nat), Lay G 1 ys ds ∧ ys[q]? = some e ∧ (cells.take lo ++ cs ++ cells.drop (lo + cs.length))[i]? = ds[q]?) := by
    intro i e he
    simp only [splice, List.append_assoc] at he ⊢
    have t1 : (xs.take lo).length = lo := by rw [List.length_take]; omega
    have t2 : (cells.take lo).length = lo := by rw [List.length_take]; omega
    by_cases h1 : i < lo
    · rw [List.getElem?_append_left (by omega), List.getElem?_take, if_pos h1] at he
      exact ⟨xs, cells, i, h, he, by rw [List.getElem?_append_left (by omega), List.getElem?_take, if_pos h1]⟩
    · rw [List.getElem?_append_right (by omega), t1] at he
      rw [List.getElem?_append_right (by omega), t2]
      by_cases h2 : i - lo < zs.length
      · rw [List.getElem?_append_left (by omega)] at he
        exact ⟨zs, cs, i - lo, k, he, by rw [List.getElem?_append_left (by omega)]⟩
      · rw [List.getElem?_append_right (by omega), List.getElem?_drop] at he
        refine ⟨xs, cells, _, h, he, ?_⟩
        rw [List.getElem?_append_right (by omega), List.getElem?_drop, hl2]
  refine ⟨fun i e he => ?_, fun i e j c he hj => ?_⟩
  · obtain ⟨ys, ds, q, hy, hq, _⟩ := key i e he
    exact hy.1 q e hq
  · obtain ⟨ys, ds, q, hy, hq, hd⟩ := key i e he
    have hj0 : j = 0 := by have := (List.getElem?_eq_some_iff.1 hj).1; rw [hy.1 q e hq] at this; omega
    subst hj0
    have := hy.2 q e 0 c hq hj
    simp only [Nat.mul_one, Nat.add_zero] at this ⊢
    rwa [List.getD_eq_getElem?_getD, hd, ← List.getD_eq_getElem?_getD]

theorem splice_nil (xs : List AV) (lo : Nat) : splice xs lo [] = xs := by simp [splice]
/-- copy into a row that may be written, of cells of one -/
theorem copy_core {E : Ent} {G : Gh} {L : Loc} {a : Act} {w : World} {t : St} (hr : Rel E N G L a w t) {t1 t2 e1 el k lo n sLen sCap : Nat} {xs zs : List AV} {dv : Value} {ad : Option Addr} {cs : List Value} (rt : TypeId)
    (hu : P.underlying t1 = some (.slice e1)) (hs : (P.info? e1).map (·.size) = some 1) (hk : get t (.t k) = some (.tk true el 1 xs)) (hd : SV G L dv (.ov k 1 lo n)) (hfit : lo + n ≤ xs.length)
    (hz : zs.length = Nat.min sLen n) (hl : cs.length = zs.length) (hsrc : zs.length ≠ 0 → ∃ b, ad = some b ∧ ∀ j v, cs[j]? = some v → w.cell? (b.add j) = some v) (h1 : ∀ v ∈ cs, v.oneCell' = true) (hL : Lay G 1 zs cs) :
    ∃ w', (Builtin.copy_ #[t1, t2] rt #[dv, .slice ad sLen sCap]).run P w = .ok (goInt zs.length) w' ∧ Rel E N G L a w' ((.t k, .tk true el 1 (splice xs lo zs)) :: t) := by
  have hmin : Nat.min sLen n ≤ n := Nat.min_le_right _ _
  have hdv : ∃ A c, dv = .slice A n c := by
    rcases hd with ⟨h0, A, c, rfl⟩ | ⟨blk, m, c, c', _, rfl⟩
    · exact ⟨A, c, by rw [h0]⟩
    · exact ⟨_, _, rfl⟩
  by_cases h0 : zs.length = 0
  · obtain ⟨A, c, rfl⟩ := hdv
    have hz0 : zs = [] := List.length_eq_zero_iff.1 h0
    refine ⟨w, by rw [run_copy_none (P := P) w t1 t2 rt e1 A ad n c sLen sCap hu hs (by omega), h0]; rfl, ?_⟩
    rw [hz0, splice_nil]
    refine hr.ext fun c => ?_
    simp only [get]
    split
    · rename_i e; subst e; exact hk.symm
    · rfl
  · obtain ⟨b, rfl, hsrc2⟩ := hsrc h0
    rcases hd with ⟨hn, _⟩ | ⟨blk, m, c, c', htk, rfl⟩
    · omega
    · obtain ⟨v, cells, hv2, ho, hpos, hLx⟩ := tok_row hr hk
      rw [htk] at hv2; cases hv2
      obtain ⟨cur, q1, q0, q2, q3, q4, q5⟩ := row_cell ho rfl
      simp only [Nat.mul_one] at q4 q5 ⊢
      have hcl : cells.length = xs.length := by have := ho.1; omega
      have hrun := run_copy_row (P := P) w t1 t2 rt e1 blk lo n c' b sLen sCap cur el cs hu hs q1 (by rw [hl, hz]) hsrc2 (by omega) h1
      refine ⟨_, by rw [hrun, show goInt cs.length = goInt zs.length by rw [hl]], ?_⟩
      have hw' := setRow_heap w blk cur (cur.toList.take lo ++ cs ++ cur.toList.drop (lo + cs.length)).toArray el (0, 0) q1
      refine hr.turntok (blk := blk) (cells := cells.take lo ++ cs ++ cells.drop (lo + cs.length)) hk htk rfl rfl rfl rfl (size_setRow w blk _) (fun j hj => setRow_other w blk j _ hj) hpos ?_ (lay1_splice hLx hL hcl hl (by omega))
      have hsl := splice_len (xs := xs) (zs := zs) (lo := lo) (by omega)
      refine ⟨?_, .inr ⟨blk, c, (cur.toList.take lo ++ cs ++ cur.toList.drop (lo + cs.length)).toArray, by rw [hsl, q0], Nat.zero_le _, hw', by rw [hsl]; exact q2, q3, ?_, ?_⟩⟩
      · simp only [List.length_append, List.length_take, List.length_drop]; omega
      · simp only [List.size_toArray, List.length_append, List.length_take, List.length_drop, Array.length_toList]; omega
      · rw [hsl, Nat.mul_one, ← q5]
        simp only [List.append_assoc]
        have e1 : (cur.toList.take lo).length = lo := by rw [List.length_take, Array.length_toList]; omega
        rw [List.take_append, e1, List.take_take, Nat.min_eq_right (by omega), List.take_append, List.take_of_length_le (l := cs) (by omega), List.take_take, Nat.min_eq_left (by omega), List.drop_take]
        congr 3
        omega
theorem ie_size {t1 : TypeId} (ht : ie P t1 = some 1) : ∃ e, P.underlying t1 = some (.slice e) ∧ (P.info? e).map (·.size) = some 1 := by
  obtain ⟨el, inf, hu, hinf, hsize⟩ := ie_run ht
  exact ⟨el, hu, by rw [hinf]; simp [hsize]⟩
/-- copy(row[..], ys) of a slice that is known -/
theorem op_cpl {t1 t2 : TypeId} {x y : Operand} {el k lo n : Nat} {xs ys : List AV} (hN : d < N) (ht : ie P t1 = some 1) (hx : opd x s = some (.ov k 1 lo n)) (hk : get s (.t k) = some (.tk true el 1 xs)) (hy : opv y s = some (.sl ys)) (hok : okEls 1 ys = true) (hfit : lo + n ≤ xs.length) :
    OpOK P N ⟨some d, .call { callee := .builtin .copy, args := #[x, y], argTypes := #[t1, t2] }, ty, pos, af, g⟩ s (rd x ++ (rd y ++ [.t k])) [(.s d, .sv (.v (.int .i64 (Nat.min ys.length n)))), (.t k, .tk true el 1 (splice xs lo (ys.take (Nat.min ys.length n))))] := by
  intro t hR E G L a w hr K Q hK
  obtain ⟨e1, hu, hs⟩ := ie_size ht
  have hk' : get t (.t k) = some (.tk true el 1 xs) := by rw [hR (.t k) (by simp)]; exact hk
  have hVx := opd_sound hr hR.left hx
  have hVy := opv_sound hr hR.right.left hy
  have hmin1 : Nat.min ys.length n ≤ ys.length := Nat.min_le_left _ _
  have hlen : (ys.take (Nat.min ys.length n)).length = Nat.min ys.length n := by rw [List.length_take]; omega
  obtain ⟨A, c, hay⟩ := V_sl hVy
  have hfin : ∃ w', (Builtin.copy_ #[t1, t2] ty #[a.eval x, .slice A ys.length c]).run P w = .ok (goInt (Nat.min ys.length n)) w' ∧ Rel E N G L a w' ((.t k, .tk true el 1 (splice xs lo (ys.take (Nat.min ys.length n)))) :: t) := by
    rcases V_sl_news hr.kn hVy hok (by omega) with ⟨rfl, _⟩ | ⟨ad, c2, news, hay2, hnl, hnews, hone, hLy⟩
    · have := copy_core (P := P) (N := N) hr (t2 := t2) (sLen := 0) (sCap := c) (zs := []) (ad := A) (cs := []) ty hu hs hk' hVx hfit (by simp) rfl (fun h => absurd rfl h) (fun v hv => by cases hv) ⟨fun i e h => by simp at h, fun i e j c h => by simp at h⟩
      simpa using this
    · rw [hay] at hay2
      have hA : A = some ad := by cases hay2; rfl
      have := copy_core (P := P) (N := N) hr (t2 := t2) (sLen := ys.length) (sCap := c) (zs := ys.take (Nat.min ys.length n)) (ad := A) (cs := news.take (Nat.min ys.length n)) ty hu hs hk' hVx hfit hlen (by rw [List.length_take, hlen, hnl]; omega)
        (fun _ => ⟨ad, hA, fun j v e => hnews j v (by
          have hj := (List.getElem?_eq_some_iff.1 e).1
          rw [List.length_take] at hj
          rw [List.getElem?_take, if_pos (Nat.lt_of_lt_of_le hj (Nat.min_le_left _ _))] at e; exact e)⟩) (fun v hv => hone v (List.mem_of_mem_take hv)) (by
          have := lay_take (n := Nat.min ys.length n) hLy hnl
          rwa [Nat.mul_one] at this)
      rwa [hlen] at this
  obtain ⟨w', hrun, hr'⟩ := hfin
  unfold Oper.wp
  have he : (execOp a.eval ⟨some d, .call { callee := .builtin .copy, args := #[x, y], argTypes := #[t1, t2] }, ty, pos, af, g⟩).run P w = .ok (.value (goInt (Nat.min ys.length n))) w' := by
    simp only [execOp, resolve, invoke, builtin, Sem.run_bind, Sem.run_pure, Result.andThen_ok, List.map_toArray, List.map_cons, List.map_nil, hay, hrun]
  rw [he]
  exact hK _ _ G _ (hr'.put d hN _ (.v (.int .i64 (Nat.min ys.length n))) (.int _ _))

theorem lay1_drop {G : Gh} {n : Nat} {xs : List AV} {cells : List Value} (h : Lay G 1 xs cells) : Lay G 1 (xs.drop n) (cells.drop n) := by
  refine ⟨fun i e he => h.1 (n + i) e (by rwa [List.getElem?_drop] at he), fun i e j c he hj => ?_⟩
  rw [List.getElem?_drop] at he
  have hj0 : j = 0 := by have := (List.getElem?_eq_some_iff.1 hj).1; rw [h.1 _ e he] at this; omega
  subst hj0
  have := h.2 _ e 0 c he hj
  simp only [Nat.mul_one, Nat.add_zero] at this ⊢
  rwa [List.getD_eq_getElem?_getD, List.getElem?_drop, ← List.getD_eq_getElem?_getD]
/-- copy(row[..], row[..]) within one row -/
theorem op_cpo {t1 t2 : TypeId} {x y : Operand} {el k lo n lo2 n2 : Nat} {xs : List AV} (hN : d < N) (ht : ie P t1 = some 1) (hx : opd x s = some (.ov k 1 lo n)) (hk : get s (.t k) = some (.tk true el 1 xs)) (hy : opd y s = some (.ov k 1 lo2 n2)) (hfit : lo + n ≤ xs.length) (hfit2 : lo2 + n2 ≤ xs.length) :
    OpOK P N ⟨some d, .call { callee := .builtin .copy, args := #[x, y], argTypes := #[t1, t2] }, ty, pos, af, g⟩ s (rd x ++ (rd y ++ [.t k])) [(.s d, .sv (.v (.int .i64 (Nat.min n2 n)))), (.t k, .tk true el 1 (splice xs lo ((xs.drop lo2).take (Nat.min n2 n))))] := by
  intro t hR E G L a w hr K Q hK
  obtain ⟨e1, hu, hs⟩ := ie_size ht
  have hk' : get t (.t k) = some (.tk true el 1 xs) := by rw [hR (.t k) (by simp)]; exact hk
  have hVx := opd_sound hr hR.left hx
  have hVy := opd_sound hr hR.right.left hy
  have hmin1 : Nat.min n2 n ≤ n2 := Nat.min_le_left _ _
  have hlen : ((xs.drop lo2).take (Nat.min n2 n)).length = Nat.min n2 n := by rw [List.length_take, List.length_drop]; omega
  obtain ⟨v, cells, hv2, ho, hpos, hLx⟩ := tok_row hr hk'
  have hcl : cells.length = xs.length := by have := ho.1; omega
  have hone : ∀ u ∈ cells, u.oneCell' = true := by
    intro u hu2
    obtain ⟨j, hj⟩ := List.mem_iff_getElem?.1 hu2
    have hjx : j < xs.length := by rw [← hcl]; exact (List.getElem?_eq_some_iff.1 hj).1
    have hel := hLx.1 j _ (List.getElem?_eq_getElem hjx)
    have := hLx.2 j _ 0 _ (List.getElem?_eq_getElem hjx) (List.getElem?_eq_getElem (by omega))
    simp only [Nat.mul_one, Nat.add_zero] at this
    rw [List.getD_eq_getElem?_getD, hj] at this
    exact this.2.oneCell this.1
  have hfin : ∃ A c, a.eval y = .slice A n2 c ∧ (Nat.min n2 n ≠ 0 → ∃ b, A = some b ∧ ∀ j u, ((cells.drop lo2).take (Nat.min n2 n))[j]? = some u → w.cell? (b.add j) = some u) := by
    rcases hVy with ⟨h0, A, c, e⟩ | ⟨blk, m, c, c', htk, e⟩
    · exact ⟨A, c, by rw [h0]; exact e, fun h => absurd (by omega) h⟩
    · refine ⟨_, _, e, fun _ => ⟨_, rfl, fun j u ej => ?_⟩⟩
      rw [htk] at hv2; cases hv2
      obtain ⟨cur, q1, q0, q2, q3, q4, q5⟩ := row_cell ho rfl
      have hj : j < Nat.min n2 n := by have := (List.getElem?_eq_some_iff.1 ej).1; rw [List.length_take] at this; exact Nat.lt_of_lt_of_le this (Nat.min_le_left _ _)
      rw [List.getElem?_take, if_pos hj, List.getElem?_drop] at ej
      rw [Addr.add_lit, cell_of_row w blk _ cur el (0, 0) q1, Nat.mul_one]
      rw [← q5, List.getElem?_take] at ej
      split at ej
      · simpa using ej
      · cases ej
  obtain ⟨A, c, hay, hsrc⟩ := hfin
  obtain ⟨w', hrun, hr'⟩ := copy_core (P := P) (N := N) hr (t2 := t2) (sLen := n2) (sCap := c) (zs := (xs.drop lo2).take (Nat.min n2 n)) (ad := A) (cs := (cells.drop lo2).take (Nat.min n2 n)) ty hu hs hk' hVx hfit hlen
    (by rw [hlen, List.length_take, List.length_drop]; omega) (by rw [hlen]; exact hsrc) (fun u hu2 => hone u (List.mem_of_mem_drop (List.mem_of_mem_take hu2))) (by
      have := lay_take (n := Nat.min n2 n) (lay1_drop (n := lo2) hLx) (by rw [List.length_drop, List.length_drop]; omega)
      rwa [Nat.mul_one] at this)
  rw [hlen] at hrun
  unfold Oper.wp
  have he : (execOp a.eval ⟨some d, .call { callee := .builtin .copy, args := #[x, y], argTypes := #[t1, t2] }, ty, pos, af, g⟩).run P w = .ok (.value (goInt (Nat.min n2 n))) w' := by
    simp only [execOp, resolve, invoke, builtin, Sem.run_bind, Sem.run_pure, Result.andThen_ok, List.map_toArray, List.map_cons, List.map_nil, hay, hrun]
  rw [he]
  exact hK _ _ G _ (hr'.put d hN _ (.v (.int .i64 (Nat.min n2 n))) (.int _ _))
end
end Go.Proofs.YthoncmadikifnaaDoor.X
