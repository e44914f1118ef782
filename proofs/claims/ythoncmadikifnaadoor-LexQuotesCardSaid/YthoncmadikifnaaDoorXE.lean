/- The program logic's rules: rows of one's own that may be written. No condition. -/
import Derived.Test.YthoncmadikifnaaDoorXD
import Derived.Laws.CopyRow
set_option linter.unusedVariables false
set_option linter.unusedSimpArgs false
namespace Go.Proofs.YthoncmadikifnaaDoor.X
open Go Go.RowKit

/-- The row k is written. -/
theorem Rel.turntok {E : Ent} {N : Nat} {G : Gh} {L : Loc} {a : Act} {w w' : World} {s : St} (h : Rel E N G L a w s) {k el esz blk : Nat} {xs ys : List AV} {v : Value} {cells : List Value} (hk : get s (.t k) = some (.tk true el esz xs)) (hv : L.tok k = some v) (hb : v.ownBlock = some blk)
    (h1 : w'.os = w.os) (h2 : w'.tape = w.tape) (h3 : w'.output = w.output) (h4 : w'.heap.size = w.heap.size) (h5 : ∀ j, j ≠ blk → w'.heap[j]? = w.heap[j]?) (hz : 0 < esz) (ho : w'.ownsRow 0 el esz v ys.length cells) (hL : Lay G esz ys cells) :
    Rel E N G L a w' ((.t k, .tk true el esz ys) :: s) := by
  obtain ⟨v', hv', ⟨cells0, _, _, _, _, hkn⟩, hm⟩ := h.tok k _ _ _ _ hk
  rw [hv] at hv'; cases hv'
  have hkn : ∀ o, G.kn blk o = none := hkn blk hb
  have hmine : owns s L (.t k) blk := ⟨⟨_, _, _, _, hk⟩, v, hv, hb⟩
  have hbase := (hm blk hb).1
  have hown : ∀ c b, owns ((.t k, .tk true el esz ys) :: s) L c b → owns s L c b := by
    intro c b hc
    by_cases e : c = .t k
    · subst e
      obtain ⟨_, u, hu, hb2⟩ := hc
      exact ⟨⟨_, _, _, _, hk⟩, u, hu, hb2⟩
    · exact owns_cons e hc
  have hcell : ∀ p u, w.cell? p = some u → p.block ≠ blk → w'.cell? p = some u := by
    intro p u hc hne
    rw [World.cell?_of_block (w := w) (h5 p.block hne)]; exact hc
  obtain ⟨H0, gH, hokH, hmayH⟩ := h.heap
  have hst := hokH.stay (w' := w') (Gh.le.refl G) rfl (fun b hb => (hokH.foot hb).2) (fun b hb => h5 b (fun e => h.hdisj _ _ hmine H0 gH (e ▸ hb))) (by rw [h4]; exact Nat.le_refl _)
  refine ⟨h.size, h.defs, h.ge, fun b j u e => hcell _ _ (h.kn b j u e) (fun e' => ?_), h.old, h.obs, h.obn, ⟨h1.trans h.fr.os, h2.trans h.fr.tape, h3.trans h.fr.output, by rw [h4]; exact h.fr.size, fun j hj hno => ?_⟩, ?_, ?_, ?_, ?_, ?_, ?_, ?_, ?_⟩
  · simp at e'; subst e'; rw [hkn j] at e; cases e
  · rw [h5 j (fun e => by
      subst e
      rcases hbase with e | e
      · omega
      · exact hno e)]
    exact h.fr.block j hj hno
  · intro n x g; exact h.slot n x (by simpa [get] using g)
  · intro j cv g hl
    have g' : get s (.b j) = some cv := by simpa [get] using g
    refine (h.box j cv g' hl).stay (Gh.le.refl G) (fun _ _ e => .inl e) (fun b hb' => h5 b (fun e => ?_)) (fun _ _ _ => rfl)
    subst e
    have := h.disj (.b j) (.t k) _ ⟨⟨cv, g', hl⟩, hb'⟩ hmine
    cases this
  · intro j m el2 esz2 xs2 g
    by_cases e : j = k
    · subst e
      simp [get] at g
      obtain ⟨rfl, rfl, rfl, rfl⟩ := g
      exact ⟨v, hv, ⟨cells, fun e => (by cases e), ho, hz, hL, fun b e => (by rw [hb] at e; cases e; exact hkn)⟩, hm⟩
    · have g' : get s (.t j) = some (.tk m el2 esz2 xs2) := by simpa [get, Ne.symm e] using g
      refine (h.tok j m el2 esz2 xs2 g').stay (Gh.le.refl G) (fun _ _ e => .inl e) (fun u b hu hb' => h5 b (fun e2 => ?_)) (fun _ _ _ _ _ => rfl)
      subst e2
      have := h.disj (.t j) (.t k) _ ⟨⟨_, _, _, _, g'⟩, u, hu, hb'⟩ hmine
      exact e (by injection this)
  · intro c d b hc hd; exact h.disj c d b (hown _ _ hc) (hown _ _ hd)
  · exact ⟨H0, by simpa [get] using gH, hst.1, fun b hb => hmayH b ((hst.2 b).1 hb)⟩
  · intro c b hc H2 g2 e2
    have g3 : get s .h = some (.hp H2) := by simpa [get] using g2
    rw [gH] at g3; cases g3
    exact h.hdisj c b (hown _ _ hc) _ gH ((hst.2 b).1 e2)
  · intro j g; exact h.nobox j (by simpa [get] using g)
  · intro j g
    by_cases e : j = k
    · subst e; simp [get] at g
    · exact h.notok j (by simpa [get, Ne.symm e] using g)

/-! ### A nil slice becomes a row of one's own -/
theorem Rel.niltok {E : Ent} {N : Nat} {G : Gh} {L : Loc} {a : Act} {w : World} {s : St} (h : Rel E N G L a w s) {t el esz : Nat} (ht : get s (.t t) = none) (hz : 0 < esz) : Rel E N G (L.setTok t (.slice none 0 0)) a w ((.t t, .tk true el esz []) :: s) := by
  obtain ⟨G', _, hle, hr⟩ := h.newtok true (xs := []) (v1 := .slice none 0 0) (row := none) (el := el) (esz := esz) (cells := []) ht hz (w1 := w) ⟨rfl, rfl, rfl, Nat.le_refl _, fun _ _ _ => rfl⟩ (by simp) (fun b hb => by simp [Value.ownBlock] at hb) (World.ownsRow_nil w 0 el esz) ⟨fun i e h => by simp at h, fun i e j c h => by simp at h⟩ (fun b hb => by simp [Value.ownBlock] at hb)
  have htok0 := h.notok t ht
  have htl := Loc.setTok_le (v := Value.slice none 0 0) htok0
  have hown : ∀ c b, owns ((.t t, .tk true el esz []) :: s) (L.setTok t (.slice none 0 0)) c b → owns s L c b := by
    intro c b hc
    by_cases e : c = .t t
    · subst e
      obtain ⟨_, v, hv, hb⟩ := hc
      simp [Loc.setTok] at hv
      subst hv; cases hb
    · have h2 := owns_cons e hc
      cases c with
      | b j => exact h2
      | t j =>
        obtain ⟨h3, v, hv, h4⟩ := h2
        have hj : j ≠ t := fun e' => e (by rw [e'])
        exact ⟨h3, v, by simpa [Loc.setTok, hj] using hv, h4⟩
      | s n => exact h2
      | h => exact h2
  refine ⟨h.size, h.defs, h.ge, h.kn, h.old, h.obs, h.obn, h.fr, fun n x g => (h.slot n x (by simpa [get] using g)).loc (L := L) (L' := L.setTok t (.slice none 0 0)) (fun _ _ e => e) htl, fun k cv g hl => (h.box k cv (by simpa [get] using g) hl).loc (L := L) (L' := L.setTok t (.slice none 0 0)) (fun _ _ e => e) htl, ?_,
    fun c d b hc hd => h.disj c d b (hown _ _ hc) (hown _ _ hd), by simpa [get] using h.heap, fun c b hc H g => h.hdisj c b (hown _ _ hc) H (by simpa [get] using g), fun k g => h.nobox k (by simpa [get] using g), ?_⟩
  · intro j m el2 esz2 xs2 g
    by_cases e : j = t
    · subst e
      simp [get] at g
      obtain ⟨rfl, rfl, rfl, rfl⟩ := g
      exact ⟨.slice none 0 0, by simp [Loc.setTok], ⟨[], fun e => (by cases e), World.ownsRow_nil w 0 el esz, hz, ⟨fun i e h => by simp at h, fun i e j c h => by simp at h⟩, fun b e => (by cases e)⟩, fun b e => (by cases e)⟩
    · obtain ⟨v, hv, rest⟩ := h.tok j m el2 esz2 xs2 (by simpa [get, Ne.symm e] using g)
      exact ⟨v, htl _ _ hv, rest⟩
  · intro j g
    by_cases e : j = t
    · subst e; simp [get] at g
    · have := h.notok j (by simpa [get, Ne.symm e] using g)
      simpa [Loc.setTok, e] using this
/-- The cells of a box, seen otherwise. -/
theorem Rel.rebox {E : Ent} {N : Nat} {G : Gh} {L : Loc} {a : Act} {w : World} {s : St} (h : Rel E N G L a w s) {k : Nat} {cv : CV} {cs ds : List Sv} (hk : get s (.b k) = some cv) (hcv : cv.box? = some cs) (hl : cs.length = ds.length)
    (hc : ∀ (j : Nat) x y v, cs[j]? = some x → ds[j]? = some y → x.flat = true → SV G L v x → y.flat = true ∧ SV G L v y) : Rel E N G L a w ((.b k, cv.setBox ds) :: s) := by
  have hlive := box_live hcv
  have hlk : (cv.setBox ds).link = cv.link := by cases cv <;> first | rfl | cases hcv
  have hlv : (cv.setBox ds).live = true := by cases cv <;> rfl
  have hown : ∀ c b, owns ((.b k, cv.setBox ds) :: s) L c b → owns s L c b := by
    intro c b hc
    by_cases e : c = .b k
    · subst e; exact ⟨⟨cv, hk, hlive⟩, hc.2⟩
    · exact owns_cons e hc
  refine ⟨h.size, h.defs, h.ge, h.kn, h.old, h.obs, h.obn, h.fr, fun n x g => h.slot n x (by simpa [get] using g), ?_, fun j m el esz xs g => h.tok j m el esz xs (by simpa [get] using g),
    fun c d b hc hd => h.disj c d b (hown _ _ hc) (hown _ _ hd), by simpa [get] using h.heap, fun c b hc H g => h.hdisj c b (hown _ _ hc) H (by simpa [get] using g), ?_, fun j g => h.notok j (by simpa [get] using g)⟩
  · intro j cv2 g hl2
    by_cases e : j = k
    · subst e
      simp [get] at g
      subst g
      obtain ⟨blk, o, q1, q2, q3, q4, q5, q6⟩ := h.box j cv hk hlive
      obtain ⟨arr, el, rfl, e1, e2⟩ := box_obj hcv q4
      refine ⟨blk, _, q1, q2, q3, box_set hcv (by rw [e1, hl]) (fun i y ey => ?_), q5, by rw [hlk]; exact q6⟩
      have hi : i < cs.length := by rw [hl]; exact (List.getElem?_eq_some_iff.1 ey).1
      obtain ⟨p1, p2⟩ := e2 i _ (List.getElem?_eq_getElem hi)
      exact hc i _ y _ (List.getElem?_eq_getElem hi) ey p1 p2
    · exact h.box j cv2 (by simpa [get, Ne.symm e] using g) hl2
  · intro j g
    by_cases e : j = k
    · subst e; simp [get] at g
    · exact h.nobox j (by simpa [get, Ne.symm e] using g)
/-- A cell that holds a nil slice becomes the slice over a new row t of its own. -/
theorem Kept.nilcell {s : St} {Q : St → Prop} (k i t el esz : Nat) {cv : CV} {cs : List Sv} (hk : get s (.b k) = some cv) (hcv : cv.box? = some cs) (hi : cs[i]? = some (.v .nsl)) (ht : get s (.t t) = none) (hz : 0 < esz)
    (h : Kept ((.b k, cv.setBox (cs.set i (.om t 0))) :: (.t t, .tk true el esz []) :: s) Q) : Kept s Q := fun E N a w ⟨G, L, hr⟩ => by
  have h1 := hr.niltok (el := el) ht hz
  refine h E N a w ⟨G, _, h1.rebox (cs := cs) (by simpa [get] using hk) hcv (by simp) fun j x y v hx hy hf hv => ?_⟩
  rw [List.getElem?_set] at hy
  split at hy
  · rename_i e
    subst e
    rw [hi] at hx; cases hx
    split at hy
    · cases hy
      have hV : V G v .nsl := hv
      cases hV
      exact ⟨rfl, by simp [Loc.setTok], none, 0, rfl⟩
    · cases hy
  · rw [hx] at hy; cases hy
    exact ⟨hf, hv⟩
section
variable {P : Program} {N : Nat} {s : St} {d : Nat} {ty : TypeId} {pos : String} {af : Array Edge} {g : Option (Nat × Bool)}
/-- len of a row that may be written -/
theorem op_lenom {t1 e : TypeId} {x : Operand} {k n : Nat} (hN : d < N) (h1 : P.underlying t1 = some (.slice e)) (hx : opd x s = some (.om k n)) :
    OpOK P N ⟨some d, .call { callee := .builtin .len, args := #[x], argTypes := #[t1] }, ty, pos, af, g⟩ s (rd x) [(.s d, .sv (.v (.int .i64 n)))] :=
  OpOK.val rfl hN fun E G L a w t hr hR => by
    obtain ⟨_, b, cap, hv⟩ := opd_sound hr hR hx
    refine ⟨.int .i64 n, ?_, .int _ _⟩
    simp [execOp, resolve, invoke, builtin, hv, Builtin.len_, run_underlying h1, goInt]

/-- What a row's token says. -/
theorem tok_row {E : Ent} {G : Gh} {L : Loc} {a : Act} {w : World} {t : St} (hr : Rel E N G L a w t) {k el esz : Nat} {m : Bool} {xs : List AV} (hk : get t (.t k) = some (.tk m el esz xs)) :
    ∃ v cells, L.tok k = some v ∧ w.ownsRow 0 el esz v xs.length cells ∧ 0 < esz ∧ Lay G esz xs cells := by
  obtain ⟨v, hv, ⟨cells, _, ho, hz, hL, _⟩, _⟩ := hr.tok k m el esz xs hk
  exact ⟨v, cells, hv, ho, hz, hL⟩
/-- &xs[i] of a row that may be written -/
theorem op_iam {t1 : TypeId} {x i : Operand} {el esz k m : Nat} {ik : IntKind} {n : Int} {xs : List AV} (hN : d < N) (ht : ie P t1 = some esz) (hx : opd x s = some (.om k m)) (hk : get s (.t k) = some (.tk true el esz xs)) (hi : opv i s = some (.int ik n)) (h0 : 0 ≤ n) (h1 : n < m) :
    OpOK P N ⟨some d, .indexAddr t1 x i, ty, pos, af, g⟩ s (rd x ++ (rd i ++ [.t k])) [(.s d, .sv (.ta k (n.toNat * esz)))] :=
  OpOK.val rfl hN fun E G L a w t hr hR => by
    obtain ⟨htk, b, cap, hv⟩ := opd_sound hr hR.left hx
    have hn := V_int (opv_sound hr hR.right.left hi)
    obtain ⟨el2, inf, hu, hinf, hsize⟩ := ie_run ht
    obtain ⟨v, cells, hv2, ho, hz, hL⟩ := tok_row hr (show get t (.t k) = some (.tk true el esz xs) by rw [hR (.t k) (by simp)]; exact hk)
    rw [htk] at hv2; cases hv2
    rcases ho.2 with ⟨e1, e2⟩ | ⟨q, cap2, cur, e1, _⟩
    · rw [hv] at e1; cases e1; omega
    · rw [hv] at e1; cases e1
      refine ⟨.pointer (some ⟨q, n.toNat * esz, none⟩), ?_, ⟨q, _, _, by rw [htk, hv], rfl⟩⟩
      simp [execOp, hv, hn, Instr.indexAt, asIntOf, run_underlying hu, h0, h1, sizeOf, typeInfo, hinf, hsize, Addr.add_lit]
/-- The cells that a row's elements have, one by one. -/
theorem Lay.flat {G : Gh} {esz : Nat} {xs : List AV} {cells : List Value} (h : Lay G esz xs cells) (hz : 0 < esz) (j : Nat) (c : AV) (e : (xs.flatMap AV.cells)[j]? = some c) : c.flat = true ∧ V G (cells.getD j undef) c := by
  have hes : ∀ e ∈ xs, e.cells.length = esz := fun e he => by obtain ⟨i, hi⟩ := List.mem_iff_getElem?.1 he; exact h.1 i e hi
  have hlt : j < xs.length * esz := by rw [← flat_len hes]; exact (List.getElem?_eq_some_iff.1 e).1
  have hi : j / esz < xs.length := Nat.div_lt_of_lt_mul (by rw [Nat.mul_comm]; exact hlt)
  have hm : j % esz < esz := Nat.mod_lt _ hz
  have hj : j / esz * esz + j % esz = j := Nat.div_add_mod' j esz
  have e2 := flat_get hes (j / esz) (j % esz) _ (List.getElem?_eq_getElem hi) hm
  rw [hj, e] at e2
  have := h.2 _ _ _ _ (List.getElem?_eq_getElem hi) e2.symm
  rwa [hj] at this
theorem row_cell {w : World} {el esz n : Nat} {v : Value} {cells : List Value} (ho : w.ownsRow 0 el esz v n cells) {blk m c : Nat} (hv : v = .slice (some ⟨blk, 0, none⟩) m c) : ∃ cur, w.heap[blk]? = some (.cells cur el (0, 0)) ∧ m = n ∧ n ≤ c ∧ c ≤ maxLen ∧ cur.size = c * esz ∧ cur.toList.take (n * esz) = cells := by
  rcases ho.2 with ⟨e1, _⟩ | ⟨q, cap, cur, e1, _, h1, h2, h3, h4, h5⟩
  · rw [hv] at e1; cases e1
  · rw [hv] at e1; cases e1
    exact ⟨cur, h1, rfl, h2, h3, h4, h5⟩
/-- a load out of a row that may be written -/
theorem op_ldt {t1 : TypeId} {x : Operand} {k off n el esz : Nat} {m b : Bool} {xs : List AV} {z : Sv} (hN : d < N) (hl : lk P t1 = some (b, n)) (hx : opd x s = some (.ta k off)) (hk : get s (.t k) = some (.tk m el esz xs)) (hz : ldc b n (((xs.flatMap AV.cells).drop off).map .v) = some z) :
    OpOK P N ⟨some d, .load t1 x, ty, pos, af, g⟩ s (rd x ++ [.t k]) [(.s d, .sv z)] :=
  OpOK.val rfl hN fun E G L a w t hr hR => by
    obtain ⟨blk, mm, c, htk, hv⟩ := opd_sound hr hR.left hx
    obtain ⟨v, cells, hv2, ho, hpos, hL⟩ := tok_row hr (show get t (.t k) = some (.tk m el esz xs) by rw [hR (.t k) (by simp)]; exact hk)
    rw [htk] at hv2; cases hv2
    obtain ⟨cur, q1, _, q2, q3, q4, q5⟩ := row_cell ho rfl
    have hes : ∀ e ∈ xs, e.cells.length = esz := fun e he => by obtain ⟨i, hi⟩ := List.mem_iff_getElem?.1 he; exact hL.1 i e hi
    have hcell : ∀ (j : Nat) y, (((xs.flatMap AV.cells).drop off).map Sv.v)[j]? = some y → w.cell? ((⟨blk, off, none⟩ : Addr).add j) = some (cells.getD (off + j) undef) ∧ y.flat = true ∧ SV G L (cells.getD (off + j) undef) y := by
      intro j y e
      simp only [List.getElem?_map, List.getElem?_drop] at e
      obtain ⟨c2, e1, rfl⟩ := Option.map_eq_some_iff.1 e
      obtain ⟨p1, p2⟩ := hL.flat hpos _ _ e1
      refine ⟨?_, p1, p2⟩
      have hlt : off + j < xs.length * esz := by rw [← flat_len hes]; exact (List.getElem?_eq_some_iff.1 e1).1
      rw [Addr.add_lit, cell_of_row w blk (off + j) cur el (0, 0) q1, List.getD_eq_getElem?_getD, ← q5, List.getElem?_take, if_pos hlt]
      have : off + j < cur.size := by rw [q4]; exact Nat.lt_of_lt_of_le hlt (Nat.mul_le_mul_right _ q2)
      simp [Array.getElem?_eq_getElem this]
    obtain ⟨u, hrun, hV⟩ := run_load_of (P := P) hl hz hcell
    refine ⟨u, ?_, hV⟩
    simp [execOp, hv, Instr.loadAt, Instr.sureAddr, hrun]

/-- xs[lo:hi] of a row that may be written: a view of it -/
theorem op_cutov {t1 : TypeId} {x : Operand} {lo hi : Option Operand} {el esz k n : Nat} {xs : List AV} {l h : Int} (hN : d < N) (ht : ie P t1 = some esz) (hx : opd x s = some (.om k n)) (hk : get s (.t k) = some (.tk true el esz xs)) (h1 : obnd lo 0 s = some l) (h2 : obnd hi n s = some h) (h0 : 0 ≤ l) (hlh : l ≤ h) (hhc : h ≤ n) :
    OpOK P N ⟨some d, .slice t1 x lo hi none, ty, pos, af, g⟩ s (rd x ++ (rdo lo ++ (rdo hi ++ [.t k]))) [(.s d, .sv (.ov k esz l.toNat (h.toNat - l.toNat)))] :=
  OpOK.val rfl hN fun E G L a w t hr hR => by
    obtain ⟨htk, A, cap, hv⟩ := opd_sound hr hR.left hx
    obtain ⟨v, cells, hv2, ho, hz, hL⟩ := tok_row hr (show get t (.t k) = some (.tk true el esz xs) by rw [hR (.t k) (by simp)]; exact hk)
    rw [htk] at hv2; cases hv2
    obtain ⟨el2, inf, hu, hinf, hsize⟩ := ie_run ht
    have hel : P.elem t1 = el2 := by simp [Program.elem, hu]
    have hu2 : P.underlying t1 = some (.slice (P.elem t1)) := by rw [hel]; exact hu
    have hsz : (sizeOf (P.elem t1)).run P w = .ok esz w := by simp [sizeOf, typeInfo, hel, hinf, hsize]
    have hnc : n ≤ cap ∧ (A = none ∧ n = 0 ∨ ∃ q, A = some ⟨q, 0, none⟩) := by
      rcases ho.2 with ⟨e1, e2⟩ | ⟨q, cap2, cur, e1, _, _, e2, _⟩
      · rw [hv] at e1; cases e1; exact ⟨Nat.le_refl _, .inl ⟨rfl, rfl⟩⟩
      · rw [hv] at e1; cases e1; exact ⟨e2, .inr ⟨q, rfl⟩⟩
    have hb := bounds_run (P := P) hr true n cap hR.right.left hR.right.right.left h1 h2 h0 hlh (by omega)
    have hrun : (execOp a.eval ⟨some d, .slice t1 x lo hi none, ty, pos, af, g⟩).run P w = .ok (.value (sliced A l.toNat h.toNat cap esz)) w := by
      simp only [execOp, Sem.run_bind, run_sliceAt_slice w t1 _ _ _ _ hu2, Option.map_none, Sem.run_pure]
      rw [hv, run_slice_any w t1 A n cap hu2, hb]
      simp [hsz]
    refine ⟨_, hrun, ?_⟩
    by_cases hlh' : h.toNat - l.toNat = 0
    · exact .inl ⟨hlh', by simp only [sliced, hlh']; exact ⟨_, _, rfl⟩⟩
    · rcases hnc.2 with ⟨rfl, e⟩ | ⟨q, rfl⟩
      · omega
      · have hne : cap ≠ l.toNat := by have := hnc.1; omega
        refine .inr ⟨q, n, cap, cap - l.toNat, by rw [htk, hv], ?_⟩
        simp only [sliced, if_neg hne, Option.map_some, Addr.add_lit, Nat.zero_add]
end
end Go.Proofs.YthoncmadikifnaaDoor.X
