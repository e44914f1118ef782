/- The program logic's rules: rows of one's own that may be written. No condition. -/
import Derived.Test.YtnpgcmeclkncnaaGreatDoorZN4B
import Derived.Laws.CopyRow
import Derived.Laws.IdiomCopy
import Derived.Laws.Cover3
import Derived.Scope
import Derived.Lib.AppendStr
import Derived.Test.YtnpgcmeclkncnaaGreatDoorRows
import Derived.WalkKit
import Derived.ProofKit
import Derived.OpenShut
import Derived.Carry
import Derived.JoinedCond
import Derived.Deep.Strs
import Derived.Deep.Slices
import Derived.Lib.SmallJoins
import Derived.SizedLaws
import Derived.Maps.Own
import Derived.Maps.OwnSet
import Derived.Maps.Views
set_option linter.unusedVariables false
set_option linter.unusedSimpArgs false
namespace Go.Proofs.YtnpgcmeclkncnaaGreatDoor.X
open Go Go.RowKit

/-- The row k is written. -/
theorem Rel.turntok {E : Ent} {N : Nat} {G : Gh} {L : Loc} {a : Act} {w w' : World} {s : St} (h : Rel E N G L a w s) {k el esz blk : Nat} {xs ys : List AV} {v : Value} {cells : List Value} (hk : get s (.t k) = some (.tk true el esz xs)) (hv : L.tok k = some v) (hb : v.ownBlock = some blk)
    (h1 : w'.os = w.os) (h2 : w'.tape = w.tape) (h3 : w'.output = w.output) (h4 : w'.heap.size = w.heap.size) (h5 : ∀ j, j ≠ blk → w'.heap[j]? = w.heap[j]?) (hz : 0 < esz) (ho : w'.ownsRow 0 el esz v ys.length cells) (hL : Lay G esz ys cells) :
    Rel E N G L a w' ((.t k, .tk true el esz ys) :: s) := by
  obtain ⟨v', hv', ⟨cells0, _, _, _, _, hkn⟩, hm⟩ := h.tok k _ _ _ _ hk
  rw [hv] at hv'; cases hv'
  have hkn : ∀ o, G.kn blk o = none := hkn blk hb
  have hmine : owns s L (.t k) blk := ⟨⟨_, _, _, _, hk⟩, v, hv, hb⟩
  have hbase := (hm blk hb).1
  have hown : ∀ c b, owns ((.t k, .tk true el esz ys) :: s) L c b → owns s L c b := by
    intro c b hc
    by_cases e : c = .t k
    · subst e
      obtain ⟨_, u, hu, hb2⟩ := hc
      exact ⟨⟨_, _, _, _, hk⟩, u, hu, hb2⟩
    · exact owns_cons e hc
  have hcell : ∀ p u, w.cell? p = some u → p.block ≠ blk → w'.cell? p = some u := by
    intro p u hc hne
    rw [World.cell?_of_block (w := w) (h5 p.block hne)]; exact hc
  obtain ⟨H0, gH, hokH, hmayH⟩ := h.heap
  have hst := hokH.stay (w' := w') (Gh.le.refl G) rfl (fun b hb => (hokH.foot hb).2) (fun b hb => h5 b (fun e => h.hdisj _ _ hmine H0 gH (e ▸ hb))) (by rw [h4]; exact Nat.le_refl _)
  refine ⟨h.size, h.defs, h.ge, fun b j u e => hcell _ _ (h.kn b j u e) (fun e' => ?_), h.old, h.obs, h.obn, ⟨h1.trans h.fr.os, h2.trans h.fr.tape, h3.trans h.fr.output, by rw [h4]; exact h.fr.size, fun j hj hno => ?_⟩, ?_, ?_, ?_, ?_, ?_, ?_, ?_, ?_⟩
  · simp at e'; subst e'; rw [hkn j] at e; cases e
  · rw [h5 j (fun e => by
      subst e
      rcases hbase with e | e
      · omega
      · exact hno e)]
    exact h.fr.block j hj hno
  · intro n x g; exact h.slot n x (by simpa [get] using g)
  · intro j cv g hl
    have g' : get s (.b j) = some cv := by simpa [get] using g
    refine (h.box j cv g' hl).stay (Gh.le.refl G) (fun _ _ e => .inl e) (fun b hb' => h5 b (fun e => ?_)) (fun _ _ _ => rfl)
    subst e
    have := h.disj (.b j) (.t k) _ ⟨⟨cv, g', hl⟩, hb'⟩ hmine
    cases this
  · intro j m el2 esz2 xs2 g
    by_cases e : j = k
    · subst e
      simp [get] at g
      obtain ⟨rfl, rfl, rfl, rfl⟩ := g
      exact ⟨v, hv, ⟨cells, fun e => (by cases e), ho, hz, hL, fun b e => (by rw [hb] at e; cases e; exact hkn)⟩, hm⟩
    · have g' : get s (.t j) = some (.tk m el2 esz2 xs2) := by simpa [get, Ne.symm e] using g
      refine (h.tok j m el2 esz2 xs2 g').stay (Gh.le.refl G) (fun _ _ e => .inl e) (fun u b hu hb' => h5 b (fun e2 => ?_)) (fun _ _ _ _ _ => rfl)
      subst e2
      have := h.disj (.t j) (.t k) _ ⟨⟨_, _, _, _, g'⟩, u, hu, hb'⟩ hmine
      exact e (by injection this)
  · intro c d b hc hd; exact h.disj c d b (hown _ _ hc) (hown _ _ hd)
  · exact ⟨H0, by simpa [get] using gH, hst.1, fun b hb => hmayH b ((hst.2 b).1 hb)⟩
  · intro c b hc H2 g2 e2
    have g3 : get s .h = some (.hp H2) := by simpa [get] using g2
    rw [gH] at g3; cases g3
    exact h.hdisj c b (hown _ _ hc) _ gH ((hst.2 b).1 e2)
  · intro j g; exact h.nobox j (by simpa [get] using g)
  · intro j g
    by_cases e : j = k
    · subst e; simp [get] at g
    · exact h.notok j (by simpa [get, Ne.symm e] using g)

/-! ### A nil slice becomes a row of one's own -/
theorem Rel.niltok {E : Ent} {N : Nat} {G : Gh} {L : Loc} {a : Act} {w : World} {s : St} (h : Rel E N G L a w s) {t el esz : Nat} (ht : get s (.t t) = none) (hz : 0 < esz) : Rel E N G (L.setTok t (.slice none 0 0)) a w ((.t t, .tk true el esz []) :: s) := by
  obtain ⟨G', _, hle, hr⟩ := h.newtok true (xs := []) (v1 := .slice none 0 0) (row := none) (el := el) (esz := esz) (cells := []) ht hz (w1 := w) ⟨rfl, rfl, rfl, Nat.le_refl _, fun _ _ _ => rfl⟩ (by simp) (fun b hb => by simp [Value.ownBlock] at hb) (World.ownsRow_nil w 0 el esz) ⟨fun i e h => by simp at h, fun i e j c h => by simp at h⟩ (fun b hb => by simp [Value.ownBlock] at hb)
  have htok0 := h.notok t ht
  have htl := Loc.setTok_le (v := Value.slice none 0 0) htok0
  have hown : ∀ c b, owns ((.t t, .tk true el esz []) :: s) (L.setTok t (.slice none 0 0)) c b → owns s L c b := by
    intro c b hc
    by_cases e : c = .t t
    · subst e
      obtain ⟨_, v, hv, hb⟩ := hc
      simp [Loc.setTok] at hv
      subst hv; cases hb
    · have h2 := owns_cons e hc
      cases c with
      | b j => exact h2
      | t j =>
        obtain ⟨h3, v, hv, h4⟩ := h2
        have hj : j ≠ t := fun e' => e (by rw [e'])
        exact ⟨h3, v, by simpa [Loc.setTok, hj] using hv, h4⟩
      | s n => exact h2
      | h => exact h2
  refine ⟨h.size, h.defs, h.ge, h.kn, h.old, h.obs, h.obn, h.fr, fun n x g => (h.slot n x (by simpa [get] using g)).loc (L := L) (L' := L.setTok t (.slice none 0 0)) (fun _ _ e => e) htl, fun k cv g hl => (h.box k cv (by simpa [get] using g) hl).loc (L := L) (L' := L.setTok t (.slice none 0 0)) (fun _ _ e => e) htl, ?_,
    fun c d b hc hd => h.disj c d b (hown _ _ hc) (hown _ _ hd), by simpa [get] using h.heap, fun c b hc H g => h.hdisj c b (hown _ _ hc) H (by simpa [get] using g), fun k g => h.nobox k (by simpa [get] using g), ?_⟩
  · intro j m el2 esz2 xs2 g
    by_cases e : j = t
    · subst e
      simp [get] at g
      obtain ⟨rfl, rfl, rfl, rfl⟩ := g
      exact ⟨.slice none 0 0, by simp [Loc.setTok], ⟨[], fun e => (by cases e), World.ownsRow_nil w 0 el esz, hz, ⟨fun i e h => by simp at h, fun i e j c h => by simp at h⟩, fun b e => (by cases e)⟩, fun b e => (by cases e)⟩
    · obtain ⟨v, hv, rest⟩ := h.tok j m el2 esz2 xs2 (by simpa [get, Ne.symm e] using g)
      exact ⟨v, htl _ _ hv, rest⟩
  · intro j g
    by_cases e : j = t
    · subst e; simp [get] at g
    · have := h.notok j (by simpa [get, Ne.symm e] using g)
      simpa [Loc.setTok, e] using this
/-- The cells of a box, seen otherwise. -/
theorem Rel.rebox {E : Ent} {N : Nat} {G : Gh} {L : Loc} {a : Act} {w : World} {s : St} (h : Rel E N G L a w s) {k : Nat} {cv : CV} {cs ds : List Sv} (hk : get s (.b k) = some cv) (hcv : cv.box? = some cs) (hl : cs.length = ds.length)
    (hc : ∀ (j : Nat) x y v, cs[j]? = some x → ds[j]? = some y → x.flat = true → SV G L v x → y.flat = true ∧ SV G L v y) : Rel E N G L a w ((.b k, cv.setBox ds) :: s) := by
  have hlive := box_live hcv
  have hlk : (cv.setBox ds).link = cv.link := by cases cv <;> first | rfl | cases hcv
  have hlv : (cv.setBox ds).live = true := by cases cv <;> rfl
  have hown : ∀ c b, owns ((.b k, cv.setBox ds) :: s) L c b → owns s L c b := by
    intro c b hc
    by_cases e : c = .b k
    · subst e; exact ⟨⟨cv, hk, hlive⟩, hc.2⟩
    · exact owns_cons e hc
  refine ⟨h.size, h.defs, h.ge, h.kn, h.old, h.obs, h.obn, h.fr, fun n x g => h.slot n x (by simpa [get] using g), ?_, fun j m el esz xs g => h.tok j m el esz xs (by simpa [get] using g),
    fun c d b hc hd => h.disj c d b (hown _ _ hc) (hown _ _ hd), by simpa [get] using h.heap, fun c b hc H g => h.hdisj c b (hown _ _ hc) H (by simpa [get] using g), ?_, fun j g => h.notok j (by simpa [get] using g)⟩
  · intro j cv2 g hl2
    by_cases e : j = k
    · subst e
      simp [get] at g
      subst g
      obtain ⟨blk, o, q1, q2, q3, q4, q5, q6⟩ := h.box j cv hk hlive
      obtain ⟨arr, el, rfl, e1, e2⟩ := box_obj hcv q4
      refine ⟨blk, _, q1, q2, q3, box_set hcv (by rw [e1, hl]) (fun i y ey => ?_), q5, by rw [hlk]; exact q6⟩
      have hi : i < cs.length := by rw [hl]; exact (List.getElem?_eq_some_iff.1 ey).1
      obtain ⟨p1, p2⟩ := e2 i _ (List.getElem?_eq_getElem hi)
      exact hc i _ y _ (List.getElem?_eq_getElem hi) ey p1 p2
    · exact h.box j cv2 (by simpa [get, Ne.symm e] using g) hl2
  · intro j g
    by_cases e : j = k
    · subst e; simp [get] at g
    · exact h.nobox j (by simpa [get, Ne.symm e] using g)
/-- A cell that holds a nil slice becomes the slice over a new row t of its own. -/
theorem Kept.nilcell {s : St} {Q : St → Prop} (k i t el esz : Nat) {cv : CV} {cs : List Sv} (hk : get s (.b k) = some cv) (hcv : cv.box? = some cs) (hi : cs[i]? = some (.v .nsl)) (ht : get s (.t t) = none) (hz : 0 < esz)
    (h : Kept ((.b k, cv.setBox (cs.set i (.om t 0))) :: (.t t, .tk true el esz []) :: s) Q) : Kept s Q := fun E N a w ⟨G, L, hr⟩ => by
  have h1 := hr.niltok (el := el) ht hz
  refine h E N a w ⟨G, _, h1.rebox (cs := cs) (by simpa [get] using hk) hcv (by simp) fun j x y v hx hy hf hv => ?_⟩
  rw [List.getElem?_set] at hy
  split at hy
  · rename_i e
    subst e
    rw [hi] at hx; cases hx
    split at hy
    · cases hy
      have hV : V G v .nsl := hv
      cases hV
      exact ⟨rfl, by simp [Loc.setTok], none, 0, rfl⟩
    · cases hy
  · rw [hx] at hy; cases hy
    exact ⟨hf, hv⟩
section
variable {P : Program} {N : Nat} {s : St} {d : Nat} {ty : TypeId} {pos : String} {af : Array Edge} {g : Option (Nat × Bool)}
/-- len of a row that may be written -/
theorem op_lenom {t1 e : TypeId} {x : Operand} {k n : Nat} (hN : d < N) (h1 : P.underlying t1 = some (.slice e)) (hx : opd x s = some (.om k n)) :
    OpOK P N ⟨some d, .call { callee := .builtin .len, args := #[x], argTypes := #[t1] }, ty, pos, af, g⟩ s (rd x) [(.s d, .sv (.v (.int .i64 n)))] :=
  OpOK.val rfl hN fun E G L a w t hr hR => by
    obtain ⟨_, b, cap, hv⟩ := opd_sound hr hR hx
    refine ⟨.int .i64 n, ?_, .int _ _⟩
    simp [execOp, resolve, invoke, builtin, hv, Builtin.len_, run_underlying h1, goInt]

/-- What a row's token says. -/
theorem tok_row {E : Ent} {G : Gh} {L : Loc} {a : Act} {w : World} {t : St} (hr : Rel E N G L a w t) {k el esz : Nat} {m : Bool} {xs : List AV} (hk : get t (.t k) = some (.tk m el esz xs)) :
    ∃ v cells, L.tok k = some v ∧ w.ownsRow 0 el esz v xs.length cells ∧ 0 < esz ∧ Lay G esz xs cells := by
  obtain ⟨v, hv, ⟨cells, _, ho, hz, hL, _⟩, _⟩ := hr.tok k m el esz xs hk
  exact ⟨v, cells, hv, ho, hz, hL⟩
/-- &xs[i] of a row that may be written -/
theorem op_iam {t1 : TypeId} {x i : Operand} {el esz k m : Nat} {ik : IntKind} {n : Int} {xs : List AV} (hN : d < N) (ht : ie P t1 = some esz) (hx : opd x s = some (.om k m)) (hk : get s (.t k) = some (.tk true el esz xs)) (hi : opv i s = some (.int ik n)) (h0 : 0 ≤ n) (h1 : n < m) :
    OpOK P N ⟨some d, .indexAddr t1 x i, ty, pos, af, g⟩ s (rd x ++ (rd i ++ [.t k])) [(.s d, .sv (.ta k (n.toNat * esz)))] :=
  OpOK.val rfl hN fun E G L a w t hr hR => by
    obtain ⟨htk, b, cap, hv⟩ := opd_sound hr hR.left hx
    have hn := V_int (opv_sound hr hR.right.left hi)
    obtain ⟨el2, inf, hu, hinf, hsize⟩ := ie_run ht
    obtain ⟨v, cells, hv2, ho, hz, hL⟩ := tok_row hr (show get t (.t k) = some (.tk true el esz xs) by rw [hR (.t k) (by simp)]; exact hk)
    rw [htk] at hv2; cases hv2
    rcases ho.2 with ⟨e1, e2⟩ | ⟨q, cap2, cur, e1, _⟩
    · rw [hv] at e1; cases e1; omega
    · rw [hv] at e1; cases e1
      refine ⟨.pointer (some ⟨q, n.toNat * esz, none⟩), ?_, ⟨q, _, _, by rw [htk, hv], rfl⟩⟩
      simp [execOp, hv, hn, Instr.indexAt, asIntOf, run_underlying hu, h0, h1, sizeOf, typeInfo, hinf, hsize, Addr.add_lit]
/-- The cells that a row's elements have, one by one. -/
theorem Lay.flat {G : Gh} {esz : Nat} {xs : List AV} {cells : List Value} (h : Lay G esz xs cells) (hz : 0 < esz) (j : Nat) (c : AV) (e : (xs.flatMap AV.cells)[j]? = some c) : c.flat = true ∧ V G (cells.getD j undef) c := by
  have hes : ∀ e ∈ xs, e.cells.length = esz := fun e he => by obtain ⟨i, hi⟩ := List.mem_iff_getElem?.1 he; exact h.1 i e hi
  have hlt : j < xs.length * esz := by rw [← flat_len hes]; exact (List.getElem?_eq_some_iff.1 e).1
  have hi : j / esz < xs.length := Nat.div_lt_of_lt_mul (by rw [Nat.mul_comm]; exact hlt)
  have hm : j % esz < esz := Nat.mod_lt _ hz
  have hj : j / esz * esz + j % esz = j := Nat.div_add_mod' j esz
  have e2 := flat_get hes (j / esz) (j % esz) _ (List.getElem?_eq_getElem hi) hm
  rw [hj, e] at e2
  have := h.2 _ _ _ _ (List.getElem?_eq_getElem hi) e2.symm
  rwa [hj] at this
theorem row_cell {w : World} {el esz n : Nat} {v : Value} {cells : List Value} (ho : w.ownsRow 0 el esz v n cells) {blk m c : Nat} (hv : v = .slice (some ⟨blk, 0, none⟩) m c) : ∃ cur, w.heap[blk]? = some (.cells cur el (0, 0)) ∧ m = n ∧ n ≤ c ∧ c ≤ maxLen ∧ cur.size = c * esz ∧ cur.toList.take (n * esz) = cells := by
  rcases ho.2 with ⟨e1, _⟩ | ⟨q, cap, cur, e1, _, h1, h2, h3, h4, h5⟩
  · rw [hv] at e1; cases e1
  · rw [hv] at e1; cases e1
    exact ⟨cur, h1, rfl, h2, h3, h4, h5⟩
/-- a load out of a row that may be written -/
theorem op_ldt {t1 : TypeId} {x : Operand} {k off n el esz : Nat} {m b : Bool} {xs : List AV} {z : Sv} (hN : d < N) (hl : lk P t1 = some (b, n)) (hx : opd x s = some (.ta k off)) (hk : get s (.t k) = some (.tk m el esz xs)) (hz : ldc b n (((xs.flatMap AV.cells).drop off).map .v) = some z) :
    OpOK P N ⟨some d, .load t1 x, ty, pos, af, g⟩ s (rd x ++ [.t k]) [(.s d, .sv z)] :=
  OpOK.val rfl hN fun E G L a w t hr hR => by
    obtain ⟨blk, mm, c, htk, hv⟩ := opd_sound hr hR.left hx
    obtain ⟨v, cells, hv2, ho, hpos, hL⟩ := tok_row hr (show get t (.t k) = some (.tk m el esz xs) by rw [hR (.t k) (by simp)]; exact hk)
    rw [htk] at hv2; cases hv2
    obtain ⟨cur, q1, _, q2, q3, q4, q5⟩ := row_cell ho rfl
    have hes : ∀ e ∈ xs, e.cells.length = esz := fun e he => by obtain ⟨i, hi⟩ := List.mem_iff_getElem?.1 he; exact hL.1 i e hi
    have hcell : ∀ (j : Nat) y, (((xs.flatMap AV.cells).drop off).map Sv.v)[j]? = some y → w.cell? ((⟨blk, off, none⟩ : Addr).add j) = some (cells.getD (off + j) undef) ∧ y.flat = true ∧ SV G L (cells.getD (off + j) undef) y := by
      intro j y e
      simp only [List.getElem?_map, List.getElem?_drop] at e
      obtain ⟨c2, e1, rfl⟩ := Option.map_eq_some_iff.1 e
      obtain ⟨p1, p2⟩ := hL.flat hpos _ _ e1
      refine ⟨?_, p1, p2⟩
      have hlt : off + j < xs.length * esz := by rw [← flat_len hes]; exact (List.getElem?_eq_some_iff.1 e1).1
      rw [Addr.add_lit, cell_of_row w blk (off + j) cur el (0, 0) q1, List.getD_eq_getElem?_getD, ← q5, List.getElem?_take, if_pos hlt]
      have : off + j < cur.size := by rw [q4]; exact Nat.lt_of_lt_of_le hlt (Nat.mul_le_mul_right _ q2)
      simp [Array.getElem?_eq_getElem this]
    obtain ⟨u, hrun, hV⟩ := run_load_of (P := P) hl hz hcell
    refine ⟨u, ?_, hV⟩
    simp [execOp, hv, Instr.loadAt, Instr.sureAddr, hrun]

/-- xs[lo:hi] of a row that may be written: a view of it -/
theorem op_cutov {t1 : TypeId} {x : Operand} {lo hi : Option Operand} {el esz k n : Nat} {xs : List AV} {l h : Int} (hN : d < N) (ht : ie P t1 = some esz) (hx : opd x s = some (.om k n)) (hk : get s (.t k) = some (.tk true el esz xs)) (h1 : obnd lo 0 s = some l) (h2 : obnd hi n s = some h) (h0 : 0 ≤ l) (hlh : l ≤ h) (hhc : h ≤ n) :
    OpOK P N ⟨some d, .slice t1 x lo hi none, ty, pos, af, g⟩ s (rd x ++ (rdo lo ++ (rdo hi ++ [.t k]))) [(.s d, .sv (.ov k esz l.toNat (h.toNat - l.toNat)))] :=
  OpOK.val rfl hN fun E G L a w t hr hR => by
    obtain ⟨htk, A, cap, hv⟩ := opd_sound hr hR.left hx
    obtain ⟨v, cells, hv2, ho, hz, hL⟩ := tok_row hr (show get t (.t k) = some (.tk true el esz xs) by rw [hR (.t k) (by simp)]; exact hk)
    rw [htk] at hv2; cases hv2
    obtain ⟨el2, inf, hu, hinf, hsize⟩ := ie_run ht
    have hel : P.elem t1 = el2 := by simp [Program.elem, hu]
    have hu2 : P.underlying t1 = some (.slice (P.elem t1)) := by rw [hel]; exact hu
    have hsz : (sizeOf (P.elem t1)).run P w = .ok esz w := by simp [sizeOf, typeInfo, hel, hinf, hsize]
    have hnc : n ≤ cap ∧ (A = none ∧ n = 0 ∨ ∃ q, A = some ⟨q, 0, none⟩) := by
      rcases ho.2 with ⟨e1, e2⟩ | ⟨q, cap2, cur, e1, _, _, e2, _⟩
      · rw [hv] at e1; cases e1; exact ⟨Nat.le_refl _, .inl ⟨rfl, rfl⟩⟩
      · rw [hv] at e1; cases e1; exact ⟨e2, .inr ⟨q, rfl⟩⟩
    have hb := bounds_run (P := P) hr true n cap hR.right.left hR.right.right.left h1 h2 h0 hlh (by omega)
    have hrun : (execOp a.eval ⟨some d, .slice t1 x lo hi none, ty, pos, af, g⟩).run P w = .ok (.value (sliced A l.toNat h.toNat cap esz)) w := by
      simp only [execOp, Sem.run_bind, run_sliceAt_slice w t1 _ _ _ _ hu2, Option.map_none, Sem.run_pure]
      rw [hv, run_slice_any w t1 A n cap hu2, hb]
      simp [hsz]
    refine ⟨_, hrun, ?_⟩
    by_cases hlh' : h.toNat - l.toNat = 0
    · exact .inl ⟨hlh', by simp only [sliced, hlh']; exact ⟨_, _, rfl⟩⟩
    · rcases hnc.2 with ⟨rfl, e⟩ | ⟨q, rfl⟩
      · omega
      · have hne : cap ≠ l.toNat := by have := hnc.1; omega
        refine .inr ⟨q, n, cap, cap - l.toNat, by rw [htk, hv], ?_⟩
        simp only [sliced, if_neg hne, Option.map_some, Addr.add_lit, Nat.zero_add]
end
end Go.Proofs.YtnpgcmeclkncnaaGreatDoor.X
/- The program logic's rules: calls whose result owns its row. No condition. -/
set_option linter.unusedVariables false
set_option linter.unusedSimpArgs false
namespace Go.Proofs.YtnpgcmeclkncnaaGreatDoor.X
open Go Go.RowKit

/-- A row comes that nobody has. -/
theorem Rel.addtok {E : Ent} {N : Nat} {G : Gh} {L : Loc} {a : Act} {w : World} {s : St} (h : Rel E N G L a w s) {d el esz : Nat} {m : Bool} {xs : List AV} {v : Value} (hd : get s (.t d) = none) (hr : RowOK G w m el esz v xs)
    (hb : ∀ b, v.ownBlock = some b → E.may b ∧ (∀ id, G.ob id ≠ some b) ∧ (∀ c, ¬ owns s L c b) ∧ ∀ H, get s .h = some (.hp H) → ¬ foot G H w b) : Rel E N G (L.setTok d v) a w ((.t d, .tk m el esz xs) :: s) := by
  have htok0 := h.notok d hd
  have htl := Loc.setTok_le (v := v) htok0
  have hown : ∀ c b, owns ((.t d, .tk m el esz xs) :: s) (L.setTok d v) c b → (c = .t d ∧ v.ownBlock = some b) ∨ owns s L c b := by
    intro c b hc
    by_cases e : c = .t d
    · subst e
      obtain ⟨_, u, hu, hb⟩ := hc
      simp [Loc.setTok] at hu
      subst hu
      exact .inl ⟨rfl, hb⟩
    · have h2 := owns_cons e hc
      refine .inr ?_
      cases c with
      | b j => exact h2
      | t j =>
        obtain ⟨h3, u, hu, h4⟩ := h2
        have hj : j ≠ d := fun e' => e (by rw [e'])
        exact ⟨h3, u, by simpa [Loc.setTok, hj] using hu, h4⟩
      | s n => exact h2
      | h => exact h2
  refine ⟨h.size, h.defs, h.ge, h.kn, h.old, h.obs, h.obn, h.fr, fun n x g => (h.slot n x (by simpa [get] using g)).loc (L := L) (L' := L.setTok d v) (fun _ _ e => e) htl, fun k cv g hl => (h.box k cv (by simpa [get] using g) hl).loc (L := L) (L' := L.setTok d v) (fun _ _ e => e) htl, ?_,
    ?_, by simpa [get] using h.heap, ?_, fun k g => h.nobox k (by simpa [get] using g), ?_⟩
  · intro j m2 el2 esz2 xs2 g
    by_cases e : j = d
    · subst e
      simp [get] at g
      obtain ⟨rfl, rfl, rfl, rfl⟩ := g
      exact ⟨v, by simp [Loc.setTok], hr, fun b e => ⟨(hb b e).1, (hb b e).2.1⟩⟩
    · obtain ⟨u, hu, rest⟩ := h.tok j m2 el2 esz2 xs2 (by simpa [get, Ne.symm e] using g)
      exact ⟨u, htl _ _ hu, rest⟩
  · intro c e b hc he
    rcases hown c b hc with ⟨rfl, h1⟩ | h1 <;> rcases hown e b he with ⟨rfl, h2⟩ | h2
    · rfl
    · exact absurd h2 ((hb b h1).2.2.1 e)
    · exact absurd h1 ((hb b h2).2.2.1 c)
    · exact h.disj c e b h1 h2
  · intro c b hc H g
    have g' : get s .h = some (.hp H) := by simpa [get] using g
    rcases hown c b hc with ⟨rfl, h1⟩ | h1
    · exact (hb b h1).2.2.2 H g'
    · exact h.hdisj c b h1 H g'
  · intro j g
    by_cases e : j = d
    · subst e; simp [get] at g
    · have := h.notok j (by simpa [get, Ne.symm e] using g)
      simpa [Loc.setTok, e] using this

/-- A CALL WHOSE RESULT OWNS ITS ROW: as 'Run'; the result is a slice whose row nobody else has. -/
def RunO (P : Program) (f : FuncId) (args : List AV) (H : Hp) (el esz : Nat) (xs : List AV) (H' : Hp) : Prop :=
  ∀ G w cargs, GE ⟨G, w, foot G H w⟩ → KnOK G w → HpOK G w H → VL G cargs args → Calls P f cargs w fun e w' =>
    ∃ v G', e = .returned v ∧ (RowOK G' w' false el esz v xs ∧ ∀ b, v.ownBlock = some b → (w.heap.size ≤ b ∨ foot G H w b) ∧ (∀ id, G'.ob id ≠ some b) ∧ ¬ foot G' H' w' b) ∧
      GExt (foot G H w) G G' w ∧ KnOK G' w' ∧ HpOK G' w' H' ∧ Fr (foot G H w) w w' ∧ ∀ b, foot G' H' w' b → w.heap.size ≤ b ∨ foot G H w b
def PureO (P : Program) (f : FuncId) (args : List AV) (el esz : Nat) (xs : List AV) : Prop := ∀ H, RunO P f args H el esz xs H
/-- It may be taken as any other call. -/
theorem RunO.run {P : Program} {f : FuncId} {args : List AV} {H H' : Hp} {el esz : Nat} {xs : List AV} (h : RunO P f args H el esz xs H') : Run P f args H (.sl xs) H' := fun G w cargs hg hk hH hV =>
  (h G w cargs hg hk hH hV).mono fun e w' ⟨v, G', he, ⟨⟨cells, hv, _⟩, _⟩, rest⟩ => ⟨v, G', he, hv rfl, rest⟩
theorem PureO.pure {P : Program} {f : FuncId} {args : List AV} {el esz : Nat} {xs : List AV} (h : PureO P f args el esz xs) : Pure P f args (.sl xs) := fun H => (h H).run
theorem RunO.of_tri {P : Program} {f : FuncId} {fn : Func} {c : Code} {N : Nat} {args : List AV} {H : Hp} {el esz : Nat} {xs : List AV} {H' : Hp} {tr : Nat} (hf : P.funcs[f]? = some fn) (hb : fn.body = some c) (hN : fn.ntmps = N) (hle : args.length ≤ N) (hres : fn.results = [ResultVar.tmp tr].toArray)
    (h : Tri P N c ((.h, .hp H) :: initS args 0) fun e s' => (e = .normal ∨ e = .ret) ∧ (∃ k, get s' (.s tr) = some (.sv (.ow k xs)) ∧ get s' (.t k) = some (.tk false el esz xs)) ∧ get s' .h = some (.hp H')) : RunO P f args H el esz xs H' := by
  intro G w cargs hg hk hH hV
  refine calls_of_wp hf hb ?_
  have h0 := fits0 hN hle hg hk hH hV
  refine wp_mono (h ⟨G, w, foot G H w⟩ _ w h0) ?_
  rintro e a' w' ⟨s', ⟨G', L', hr⟩, he, ⟨k, hs, ht⟩, hh⟩
  obtain ⟨v, hv, hV'⟩ := (ResOK.r1 (P := P) (fn := fn) (s := s') (x := .tmp tr) (a := .sl xs) hres (.tmp (by simp [opv, opd, hs, Sv.av]) .nil)) _ _ _ _ _ _ hr
  obtain ⟨H2, g, hok, hmay⟩ := hr.heap
  rw [hh] at g; cases g
  obtain ⟨u, hu, hrow, hm⟩ := hr.tok k _ _ _ _ ht
  obtain ⟨_, hu2⟩ := hr.slot tr _ hs
  rw [hu2] at hu; cases hu
  have hvu : v = a'.tmps.getD tr undef := by
    have : (results fn a'.tmps).run P w' = .ok (a'.tmps.getD tr undef) w' := by
      simp [results, hres]
    rw [this] at hv; cases hv; rfl
  subst hvu
  have hpost : ∃ v2 G', Ending.returned (a'.tmps.getD tr undef) = .returned v2 ∧ (RowOK G' w' false el esz v2 xs ∧ ∀ b, v2.ownBlock = some b → (w.heap.size ≤ b ∨ foot G H w b) ∧ (∀ id, G'.ob id ≠ some b) ∧ ¬ foot G' H' w' b) ∧
      GExt (foot G H w) G G' w ∧ KnOK G' w' ∧ HpOK G' w' H' ∧ Fr (foot G H w) w w' ∧ ∀ b, foot G' H' w' b → w.heap.size ≤ b ∨ foot G H w b :=
    ⟨_, G', rfl, ⟨hrow, fun b hb => ⟨(hm b hb).1, (hm b hb).2, hr.hdisj (.t k) b ⟨⟨_, _, _, _, ht⟩, _, hu2, hb⟩ H' hh⟩⟩, ⟨hr.old, hr.obs, hr.obn⟩, hr.kn, hok, hr.fr, hmay⟩
  rcases he with rfl | rfl
  · exact ⟨hr.defs, _, hv, hpost⟩
  · exact ⟨hr.defs, _, hv, hpost⟩
theorem PureO.of_tri {P : Program} {f : FuncId} {fn : Func} {c : Code} {N : Nat} {args : List AV} {el esz : Nat} {xs : List AV} {tr : Nat} (hf : P.funcs[f]? = some fn) (hb : fn.body = some c) (hN : fn.ntmps = N) (hle : args.length ≤ N) (hres : fn.results = [ResultVar.tmp tr].toArray)
    (h : ∀ H, Tri P N c ((.h, .hp H) :: initS args 0) fun e s' => (e = .normal ∨ e = .ret) ∧ (∃ k, get s' (.s tr) = some (.sv (.ow k xs)) ∧ get s' (.t k) = some (.tk false el esz xs)) ∧ get s' .h = some (.hp H)) : PureO P f args el esz xs := fun H => RunO.of_tri hf hb hN hle hres (h H)
section
variable {P : Program} {N : Nat} {s : St} {d : Nat} {ty : TypeId} {pos : String} {af : Array Edge} {g : Option (Nat × Bool)}
theorem call_pureO {o : Oper} {f : FuncId} {R : List Comp} {«as» : List AV} {el esz : Nat} {xs : List AV} (hp : PureO P f «as» el esz xs) (hd : o.dst = some d) (hN : d < N) (htd : get s (.t d) = none)
    (h : ∀ E G L a w t, Rel E N G L a w t → Reads R s t → ∃ cargs, (execOp a.eval o).run P w = .ok (.enter f cargs) w ∧ VL G cargs «as») : OpOK P N o s (R ++ [.t d]) [(.s d, .sv (.ow d xs)), (.t d, .tk false el esz xs)] := by
  intro t hR E G L a w hr K Q hK
  obtain ⟨cargs, he, hV⟩ := h E G L a w t hr hR.left
  obtain ⟨H, hH, hok, hmay⟩ := hr.heap
  have htd' : get t (.t d) = none := by rw [hR (.t d) (by simp)]; exact htd
  unfold Oper.wp
  rw [he]
  refine (hp H G w cargs (hr.geAt (by assumption)) hr.kn hok hV).mono ?_
  rintro e w' ⟨v, G', rfl, ⟨hrow, hbk⟩, hx, hkn, hok', hf, hft⟩
  have h1 := hr.called hH hx hkn hok' hf hft
  have hown : ∀ c b, owns ((.h, .hp H) :: t) L c b → owns t L c b := by
    intro c b hc
    cases c <;> simp only [owns, get, reduceCtorEq, if_false] at hc ⊢ <;> exact hc
  have h2 := h1.addtok (d := d) (by simpa [get] using htd') hrow (fun b hb => by
    obtain ⟨q1, q2, q3⟩ := hbk b hb
    refine ⟨?_, q2, fun c hc => ?_, fun H2 g2 => ?_⟩
    · rcases q1 with q | q
      · exact .inl (Nat.le_trans hr.base_le q)
      · exact hmay b q
    · have hc' := hown c b hc
      rcases q1 with q | q
      · have := (owns_lt hr hc').1; omega
      · exact hr.hdisj c b hc' H hH q
    · simp [get] at g2; subst g2; exact q3)
  obtain ⟨cells, hv, ho, _⟩ := hrow
  have h3 := h2.put d hN v (.ow d xs) ⟨hv rfl, by simp [Loc.setTok]⟩
  refine hK v w' G' (L.setTok d v) ?_
  rw [hd]
  refine h3.ext fun c => ?_
  simp only [List.cons_append, List.nil_append, get]
  split
  · rfl
  · split
    · rfl
    · split
      · rename_i h4; subst h4; exact hH
      · rfl
theorem op_callo {f : FuncId} {xs : Array Operand} {tys : Array TypeId} {«as» : List AV} {el esz : Nat} {r : List AV} (hN : d < N) (hf : isFn P f = true) (ha : opvs xs.toList s = some «as») (hp : PureO P f «as» el esz r) (htd : get s (.t d) = none) :
    OpOK P N ⟨some d, .call { callee := .value (.func f), args := xs, argTypes := tys }, ty, pos, af, g⟩ s (rds xs.toList ++ [.t d]) [(.s d, .sv (.ow d r)), (.t d, .tk false el esz r)] :=
  call_pureO hp rfl hN htd (enter_func hf ha)
end
end Go.Proofs.YtnpgcmeclkncnaaGreatDoor.X
/- The program logic's rules: rows that are cut short, copies into rows. No condition. -/
set_option linter.unusedVariables false
set_option linter.unusedSimpArgs false
namespace Go.Proofs.YtnpgcmeclkncnaaGreatDoor.X
open Go Go.RowKit

theorem lay_take {G : Gh} {esz n : Nat} {xs : List AV} {cells : List Value} (h : Lay G esz xs cells) (hl : cells.length = xs.length * esz) : Lay G esz (xs.take n) (cells.take (n * esz)) := by
  have hg : ∀ (i : Nat) e, (xs.take n)[i]? = some e → i < n ∧ xs[i]? = some e := by
    intro i e he
    have hi : i < n := by have := (List.getElem?_eq_some_iff.1 he).1; simp at this; omega
    exact ⟨hi, by rwa [List.getElem?_take, if_pos hi] at he⟩
  refine ⟨fun i e he => h.1 i e (hg i e he).2, fun i e j c he hj => ?_⟩
  obtain ⟨hi, he'⟩ := hg i e he
  have hj' := (List.getElem?_eq_some_iff.1 hj).1
  rw [h.1 i e he'] at hj'
  have hb := lay_bound (j := j) hi hj'
  have := h.2 i e j c he' hj
  rwa [List.getD_eq_getElem?_getD, List.getElem?_take, if_pos hb, ← List.getD_eq_getElem?_getD]
section
variable {P : Program} {N : Nat} {s : St} {d : Nat} {ty : TypeId} {pos : String} {af : Array Edge} {g : Option (Nat × Bool)}
/-- xs[:hi] of a row that may be written: the row, cut short -/
theorem op_cutom {t1 : TypeId} {x : Operand} {hi : Option Operand} {el esz k n : Nat} {xs : List AV} {h : Int} (hN : d < N) (ht : ie P t1 = some esz) (hx : opd x s = some (.om k n)) (hk : get s (.t k) = some (.tk true el esz xs)) (hn : n = xs.length) (h2 : obnd hi n s = some h) (h0 : 0 ≤ h) (hhc : h ≤ n) (hd : get s (.t d) = none) :
    OpOK P N ⟨some d, .slice t1 x none hi none, ty, pos, af, g⟩ s (rd x ++ (rdo hi ++ [.t k, .t d])) [(.s d, .sv (.om d h.toNat)), (.t d, .tk true el esz (xs.take h.toNat)), (.t k, .gone)] := by
  intro t hR E G L a w hr K Q hK
  obtain ⟨htk, A, cap, hv⟩ := opd_sound hr hR.left hx
  have hk' : get t (.t k) = some (.tk true el esz xs) := by rw [hR (.t k) (by simp)]; exact hk
  have hd' : get t (.t d) = none := by rw [hR (.t d) (by simp)]; exact hd
  obtain ⟨v, hv2, ⟨cells, _, ho, hz, hL, hkn⟩, hm⟩ := hr.tok k _ _ _ _ hk'
  have hvv : v = .slice A n cap := by rw [htk] at hv2; cases hv2; exact hv
  subst hvv
  obtain ⟨el2, inf, hu, hinf, hsize⟩ := ie_run ht
  have hel : P.elem t1 = el2 := by simp [Program.elem, hu]
  have hu2 : P.underlying t1 = some (.slice (P.elem t1)) := by rw [hel]; exact hu
  have hsz : (sizeOf (P.elem t1)).run P w = .ok esz w := by simp [sizeOf, typeInfo, hel, hinf, hsize]
  have hnc : n ≤ cap := by
    rcases ho.2 with ⟨e1, e2⟩ | ⟨q, cap2, cur, e1, _, _, e2, _⟩
    · cases e1; exact Nat.le_refl _
    · cases e1; exact e2
  have hb := bounds_run (P := P) (s := s) (lo := none) hr true n cap (fun c hc => by simp [rdo] at hc) hR.right.left rfl h2 (Int.le_refl 0) h0 (by omega)
  have hrun : (execOp a.eval ⟨some d, .slice t1 x none hi none, ty, pos, af, g⟩).run P w = .ok (.value (.slice A h.toNat cap)) w := by
    simp only [execOp, Sem.run_bind, run_sliceAt_slice w t1 _ _ _ _ hu2, Option.map_none, Sem.run_pure]
    rw [hv, run_slice_any w t1 A n cap hu2]
    simp only [Option.map_none] at hb
    rw [hb]
    simp only [Result.andThen_ok, hsz, sliced, Int.toNat_zero, Nat.sub_zero, Nat.zero_mul]
    split
    · rfl
    · cases A with
      | none => rfl
      | some A => simp [Addr.add]
  unfold Oper.wp
  rw [hrun]
  have hlen : (xs.take h.toNat).length = h.toNat := by rw [List.length_take]; omega
  have hown1 : (Value.slice A h.toNat cap).ownBlock = (Value.slice A n cap).ownBlock := by cases A <;> rfl
  have ho1 : w.ownsRow 0 el esz (.slice A h.toNat cap) (xs.take h.toNat).length (cells.take (h.toNat * esz)) := by
    refine ⟨by rw [List.length_take, ho.1, hlen]; exact Nat.min_eq_left (Nat.mul_le_mul_right _ (by omega)), ?_⟩
    rcases ho.2 with ⟨e1, e2⟩ | ⟨q, cap2, cur, e1, e3, e4, e5, e6, e7, e8⟩
    · cases e1
      have : h.toNat = 0 := by omega
      exact .inl ⟨by rw [this], by rw [hlen]; exact this⟩
    · cases e1
      refine .inr ⟨q, cap, cur, by rw [hlen], e3, e4, by rw [hlen]; omega, e6, e7, ?_⟩
      rw [hlen, ← e8, List.take_take, Nat.min_eq_left]
      exact Nat.mul_le_mul_right _ (by omega)
  have hr1 := hr.gonetok hk'
  have hne : d ≠ k := by rintro rfl; rw [hk'] at hd'; cases hd'
  have hmine : ∀ b, (Value.slice A n cap).ownBlock = some b → owns t L (.t k) b := fun b e => ⟨⟨_, _, _, _, hk'⟩, _, hv2, e⟩
  have hr2 := hr1.addtok (d := d) (m := true) (el := el) (esz := esz) (xs := xs.take h.toNat) (v := .slice A h.toNat cap) (by simp [get, Ne.symm hne]; exact hd') ⟨_, fun e => (by cases e), ho1, hz, lay_take hL ho.1, fun b e => hkn b (hown1.symm.trans e)⟩ (fun b e => by
    have e := hown1.symm.trans e
    refine ⟨(hm b e).1, (hm b e).2, fun c hc => ?_, fun H g => hr.hdisj _ _ (hmine b e) H (by simpa [get] using g)⟩
    by_cases e2 : c = .t k
    · subst e2; obtain ⟨⟨m, el, esz, xs, g⟩, _⟩ := hc; simp [get] at g
    · exact e2 (hr.disj c (.t k) b (owns_cons e2 hc) (hmine b e)))
  exact hK _ _ G _ (hr2.put d hN _ (.om d h.toNat) ⟨by simp [Loc.setTok], _, _, rfl⟩)

/-- A row, some of its elements written. -/
def splice (xs : List AV) (lo : Nat) (zs : List AV) : List AV := xs.take lo ++ zs ++ xs.drop (lo + zs.length)
theorem splice_len {xs zs : List AV} {lo : Nat} (h : lo + zs.length ≤ xs.length) : (splice xs lo zs).length = xs.length := by simp only [splice, List.length_append, List.length_take, List.length_drop]; omega
theorem lay1_splice {G : Gh} {xs zs : List AV} {cells cs : List Value} {lo : Nat} (h : Lay G 1 xs cells) (k : Lay G 1 zs cs) (hl : cells.length = xs.length) (hl2 : cs.length = zs.length) (hf : lo + zs.length ≤ xs.length) : Lay G 1 (splice xs lo zs) (cells.take lo ++ cs ++ cells.drop (lo + cs.length)) := by
  have key : ∀ (i : Nat) e, (splice xs lo zs)[i]? = some e → (∃ (ys : List AV) (ds : List Value) (q : Nat), Lay G 1 ys ds ∧ ys[q]? = some e ∧ (cells.take lo ++ cs ++ cells.drop (lo + cs.length))[i]? = ds[q]?) := by
    intro i e he
    simp only [splice, List.append_assoc] at he ⊢
    have t1 : (xs.take lo).length = lo := by rw [List.length_take]; omega
    have t2 : (cells.take lo).length = lo := by rw [List.length_take]; omega
    by_cases h1 : i < lo
    · rw [List.getElem?_append_left (by omega), List.getElem?_take, if_pos h1] at he
      exact ⟨xs, cells, i, h, he, by rw [List.getElem?_append_left (by omega), List.getElem?_take, if_pos h1]⟩
    · rw [List.getElem?_append_right (by omega), t1] at he
      rw [List.getElem?_append_right (by omega), t2]
      by_cases h2 : i - lo < zs.length
      · rw [List.getElem?_append_left (by omega)] at he
        exact ⟨zs, cs, i - lo, k, he, by rw [List.getElem?_append_left (by omega)]⟩
      · rw [List.getElem?_append_right (by omega), List.getElem?_drop] at he
        refine ⟨xs, cells, _, h, he, ?_⟩
        rw [List.getElem?_append_right (by omega), List.getElem?_drop, hl2]
  refine ⟨fun i e he => ?_, fun i e j c he hj => ?_⟩
  · obtain ⟨ys, ds, q, hy, hq, _⟩ := key i e he
    exact hy.1 q e hq
  · obtain ⟨ys, ds, q, hy, hq, hd⟩ := key i e he
    have hj0 : j = 0 := by have := (List.getElem?_eq_some_iff.1 hj).1; rw [hy.1 q e hq] at this; omega
    subst hj0
    have := hy.2 q e 0 c hq hj
    simp only [Nat.mul_one, Nat.add_zero] at this ⊢
    rwa [List.getD_eq_getElem?_getD, hd, ← List.getD_eq_getElem?_getD]

theorem splice_nil (xs : List AV) (lo : Nat) : splice xs lo [] = xs := by simp [splice]
/-- copy into a row that may be written, of cells of one -/
theorem copy_core {E : Ent} {G : Gh} {L : Loc} {a : Act} {w : World} {t : St} (hr : Rel E N G L a w t) {t1 t2 e1 el k lo n sLen sCap : Nat} {xs zs : List AV} {dv : Value} {ad : Option Addr} {cs : List Value} (rt : TypeId)
    (hu : P.underlying t1 = some (.slice e1)) (hs : (P.info? e1).map (·.size) = some 1) (hk : get t (.t k) = some (.tk true el 1 xs)) (hd : SV G L dv (.ov k 1 lo n)) (hfit : lo + n ≤ xs.length)
    (hz : zs.length = Nat.min sLen n) (hl : cs.length = zs.length) (hsrc : zs.length ≠ 0 → ∃ b, ad = some b ∧ ∀ j v, cs[j]? = some v → w.cell? (b.add j) = some v) (h1 : ∀ v ∈ cs, v.oneCell' = true) (hL : Lay G 1 zs cs) :
    ∃ w', (Builtin.copy_ #[t1, t2] rt #[dv, .slice ad sLen sCap]).run P w = .ok (goInt zs.length) w' ∧ Rel E N G L a w' ((.t k, .tk true el 1 (splice xs lo zs)) :: t) := by
  have hmin : Nat.min sLen n ≤ n := Nat.min_le_right _ _
  have hdv : ∃ A c, dv = .slice A n c := by
    rcases hd with ⟨h0, A, c, rfl⟩ | ⟨blk, m, c, c', _, rfl⟩
    · exact ⟨A, c, by rw [h0]⟩
    · exact ⟨_, _, rfl⟩
  by_cases h0 : zs.length = 0
  · obtain ⟨A, c, rfl⟩ := hdv
    have hz0 : zs = [] := List.length_eq_zero_iff.1 h0
    refine ⟨w, by rw [run_copy_none (P := P) w t1 t2 rt e1 A ad n c sLen sCap hu hs (by omega), h0]; rfl, ?_⟩
    rw [hz0, splice_nil]
    refine hr.ext fun c => ?_
    simp only [get]
    split
    · rename_i e; subst e; exact hk.symm
    · rfl
  · obtain ⟨b, rfl, hsrc2⟩ := hsrc h0
    rcases hd with ⟨hn, _⟩ | ⟨blk, m, c, c', htk, rfl⟩
    · omega
    · obtain ⟨v, cells, hv2, ho, hpos, hLx⟩ := tok_row hr hk
      rw [htk] at hv2; cases hv2
      obtain ⟨cur, q1, q0, q2, q3, q4, q5⟩ := row_cell ho rfl
      simp only [Nat.mul_one] at q4 q5 ⊢
      have hcl : cells.length = xs.length := by have := ho.1; omega
      have hrun := run_copy_row (P := P) w t1 t2 rt e1 blk lo n c' b sLen sCap cur el cs hu hs q1 (by rw [hl, hz]) hsrc2 (by omega) h1
      refine ⟨_, by rw [hrun, show goInt cs.length = goInt zs.length by rw [hl]], ?_⟩
      have hw' := setRow_heap w blk cur (cur.toList.take lo ++ cs ++ cur.toList.drop (lo + cs.length)).toArray el (0, 0) q1
      refine hr.turntok (blk := blk) (cells := cells.take lo ++ cs ++ cells.drop (lo + cs.length)) hk htk rfl rfl rfl rfl (size_setRow w blk _) (fun j hj => setRow_other w blk j _ hj) hpos ?_ (lay1_splice hLx hL hcl hl (by omega))
      have hsl := splice_len (xs := xs) (zs := zs) (lo := lo) (by omega)
      refine ⟨?_, .inr ⟨blk, c, (cur.toList.take lo ++ cs ++ cur.toList.drop (lo + cs.length)).toArray, by rw [hsl, q0], Nat.zero_le _, hw', by rw [hsl]; exact q2, q3, ?_, ?_⟩⟩
      · simp only [List.length_append, List.length_take, List.length_drop]; omega
      · simp only [List.size_toArray, List.length_append, List.length_take, List.length_drop, Array.length_toList]; omega
      · rw [hsl, Nat.mul_one, ← q5]
        simp only [List.append_assoc]
        have e1 : (cur.toList.take lo).length = lo := by rw [List.length_take, Array.length_toList]; omega
        rw [List.take_append, e1, List.take_take, Nat.min_eq_right (by omega), List.take_append, List.take_of_length_le (l := cs) (by omega), List.take_take, Nat.min_eq_left (by omega), List.drop_take]
        congr 3
        omega
theorem ie_size {t1 : TypeId} (ht : ie P t1 = some 1) : ∃ e, P.underlying t1 = some (.slice e) ∧ (P.info? e).map (·.size) = some 1 := by
  obtain ⟨el, inf, hu, hinf, hsize⟩ := ie_run ht
  exact ⟨el, hu, by rw [hinf]; simp [hsize]⟩
/-- copy(row[..], ys) of a slice that is known -/
theorem op_cpl {t1 t2 : TypeId} {x y : Operand} {el k lo n : Nat} {xs ys : List AV} (hN : d < N) (ht : ie P t1 = some 1) (hx : opd x s = some (.ov k 1 lo n)) (hk : get s (.t k) = some (.tk true el 1 xs)) (hy : opv y s = some (.sl ys)) (hok : okEls 1 ys = true) (hfit : lo + n ≤ xs.length) :
    OpOK P N ⟨some d, .call { callee := .builtin .copy, args := #[x, y], argTypes := #[t1, t2] }, ty, pos, af, g⟩ s (rd x ++ (rd y ++ [.t k])) [(.s d, .sv (.v (.int .i64 (Nat.min ys.length n)))), (.t k, .tk true el 1 (splice xs lo (ys.take (Nat.min ys.length n))))] := by
  intro t hR E G L a w hr K Q hK
  obtain ⟨e1, hu, hs⟩ := ie_size ht
  have hk' : get t (.t k) = some (.tk true el 1 xs) := by rw [hR (.t k) (by simp)]; exact hk
  have hVx := opd_sound hr hR.left hx
  have hVy := opv_sound hr hR.right.left hy
  have hmin1 : Nat.min ys.length n ≤ ys.length := Nat.min_le_left _ _
  have hlen : (ys.take (Nat.min ys.length n)).length = Nat.min ys.length n := by rw [List.length_take]; omega
  obtain ⟨A, c, hay⟩ := V_sl hVy
  have hfin : ∃ w', (Builtin.copy_ #[t1, t2] ty #[a.eval x, .slice A ys.length c]).run P w = .ok (goInt (Nat.min ys.length n)) w' ∧ Rel E N G L a w' ((.t k, .tk true el 1 (splice xs lo (ys.take (Nat.min ys.length n)))) :: t) := by
    rcases V_sl_news hr.kn hVy hok (by omega) with ⟨rfl, _⟩ | ⟨ad, c2, news, hay2, hnl, hnews, hone, hLy⟩
    · have := copy_core (P := P) (N := N) hr (t2 := t2) (sLen := 0) (sCap := c) (zs := []) (ad := A) (cs := []) ty hu hs hk' hVx hfit (by simp) rfl (fun h => absurd rfl h) (fun v hv => by cases hv) ⟨fun i e h => by simp at h, fun i e j c h => by simp at h⟩
      simpa using this
    · rw [hay] at hay2
      have hA : A = some ad := by cases hay2; rfl
      have := copy_core (P := P) (N := N) hr (t2 := t2) (sLen := ys.length) (sCap := c) (zs := ys.take (Nat.min ys.length n)) (ad := A) (cs := news.take (Nat.min ys.length n)) ty hu hs hk' hVx hfit hlen (by rw [List.length_take, hlen, hnl]; omega)
        (fun _ => ⟨ad, hA, fun j v e => hnews j v (by
          have hj := (List.getElem?_eq_some_iff.1 e).1
          rw [List.length_take] at hj
          rw [List.getElem?_take, if_pos (Nat.lt_of_lt_of_le hj (Nat.min_le_left _ _))] at e; exact e)⟩) (fun v hv => hone v (List.mem_of_mem_take hv)) (by
          have := lay_take (n := Nat.min ys.length n) hLy hnl
          rwa [Nat.mul_one] at this)
      rwa [hlen] at this
  obtain ⟨w', hrun, hr'⟩ := hfin
  unfold Oper.wp
  have he : (execOp a.eval ⟨some d, .call { callee := .builtin .copy, args := #[x, y], argTypes := #[t1, t2] }, ty, pos, af, g⟩).run P w = .ok (.value (goInt (Nat.min ys.length n))) w' := by
    simp only [execOp, resolve, invoke, builtin, Sem.run_bind, Sem.run_pure, Result.andThen_ok, List.map_toArray, List.map_cons, List.map_nil, hay, hrun]
  rw [he]
  exact hK _ _ G _ (hr'.put d hN _ (.v (.int .i64 (Nat.min ys.length n))) (.int _ _))

theorem lay1_drop {G : Gh} {n : Nat} {xs : List AV} {cells : List Value} (h : Lay G 1 xs cells) : Lay G 1 (xs.drop n) (cells.drop n) := by
  refine ⟨fun i e he => h.1 (n + i) e (by rwa [List.getElem?_drop] at he), fun i e j c he hj => ?_⟩
  rw [List.getElem?_drop] at he
  have hj0 : j = 0 := by have := (List.getElem?_eq_some_iff.1 hj).1; rw [h.1 _ e he] at this; omega
  subst hj0
  have := h.2 _ e 0 c he hj
  simp only [Nat.mul_one, Nat.add_zero] at this ⊢
  rwa [List.getD_eq_getElem?_getD, List.getElem?_drop, ← List.getD_eq_getElem?_getD]
/-- copy(row[..], row[..]) within one row -/
theorem op_cpo {t1 t2 : TypeId} {x y : Operand} {el k lo n lo2 n2 : Nat} {xs : List AV} (hN : d < N) (ht : ie P t1 = some 1) (hx : opd x s = some (.ov k 1 lo n)) (hk : get s (.t k) = some (.tk true el 1 xs)) (hy : opd y s = some (.ov k 1 lo2 n2)) (hfit : lo + n ≤ xs.length) (hfit2 : lo2 + n2 ≤ xs.length) :
    OpOK P N ⟨some d, .call { callee := .builtin .copy, args := #[x, y], argTypes := #[t1, t2] }, ty, pos, af, g⟩ s (rd x ++ (rd y ++ [.t k])) [(.s d, .sv (.v (.int .i64 (Nat.min n2 n)))), (.t k, .tk true el 1 (splice xs lo ((xs.drop lo2).take (Nat.min n2 n))))] := by
  intro t hR E G L a w hr K Q hK
  obtain ⟨e1, hu, hs⟩ := ie_size ht
  have hk' : get t (.t k) = some (.tk true el 1 xs) := by rw [hR (.t k) (by simp)]; exact hk
  have hVx := opd_sound hr hR.left hx
  have hVy := opd_sound hr hR.right.left hy
  have hmin1 : Nat.min n2 n ≤ n2 := Nat.min_le_left _ _
  have hlen : ((xs.drop lo2).take (Nat.min n2 n)).length = Nat.min n2 n := by rw [List.length_take, List.length_drop]; omega
  obtain ⟨v, cells, hv2, ho, hpos, hLx⟩ := tok_row hr hk'
  have hcl : cells.length = xs.length := by have := ho.1; omega
  have hone : ∀ u ∈ cells, u.oneCell' = true := by
    intro u hu2
    obtain ⟨j, hj⟩ := List.mem_iff_getElem?.1 hu2
    have hjx : j < xs.length := by rw [← hcl]; exact (List.getElem?_eq_some_iff.1 hj).1
    have hel := hLx.1 j _ (List.getElem?_eq_getElem hjx)
    have := hLx.2 j _ 0 _ (List.getElem?_eq_getElem hjx) (List.getElem?_eq_getElem (by omega))
    simp only [Nat.mul_one, Nat.add_zero] at this
    rw [List.getD_eq_getElem?_getD, hj] at this
    exact this.2.oneCell this.1
  have hfin : ∃ A c, a.eval y = .slice A n2 c ∧ (Nat.min n2 n ≠ 0 → ∃ b, A = some b ∧ ∀ j u, ((cells.drop lo2).take (Nat.min n2 n))[j]? = some u → w.cell? (b.add j) = some u) := by
    rcases hVy with ⟨h0, A, c, e⟩ | ⟨blk, m, c, c', htk, e⟩
    · exact ⟨A, c, by rw [h0]; exact e, fun h => absurd (by omega) h⟩
    · refine ⟨_, _, e, fun _ => ⟨_, rfl, fun j u ej => ?_⟩⟩
      rw [htk] at hv2; cases hv2
      obtain ⟨cur, q1, q0, q2, q3, q4, q5⟩ := row_cell ho rfl
      have hj : j < Nat.min n2 n := by have := (List.getElem?_eq_some_iff.1 ej).1; rw [List.length_take] at this; exact Nat.lt_of_lt_of_le this (Nat.min_le_left _ _)
      rw [List.getElem?_take, if_pos hj, List.getElem?_drop] at ej
      rw [Addr.add_lit, cell_of_row w blk _ cur el (0, 0) q1, Nat.mul_one]
      rw [← q5, List.getElem?_take] at ej
      split at ej
      · simpa using ej
      · cases ej
  obtain ⟨A, c, hay, hsrc⟩ := hfin
  obtain ⟨w', hrun, hr'⟩ := copy_core (P := P) (N := N) hr (t2 := t2) (sLen := n2) (sCap := c) (zs := (xs.drop lo2).take (Nat.min n2 n)) (ad := A) (cs := (cells.drop lo2).take (Nat.min n2 n)) ty hu hs hk' hVx hfit hlen
    (by rw [hlen, List.length_take, List.length_drop]; omega) (by rw [hlen]; exact hsrc) (fun u hu2 => hone u (List.mem_of_mem_drop (List.mem_of_mem_take hu2))) (by
      have := lay_take (n := Nat.min n2 n) (lay1_drop (n := lo2) hLx) (by rw [List.length_drop, List.length_drop]; omega)
      rwa [Nat.mul_one] at this)
  rw [hlen] at hrun
  unfold Oper.wp
  have he : (execOp a.eval ⟨some d, .call { callee := .builtin .copy, args := #[x, y], argTypes := #[t1, t2] }, ty, pos, af, g⟩).run P w = .ok (.value (goInt (Nat.min n2 n))) w' := by
    simp only [execOp, resolve, invoke, builtin, Sem.run_bind, Sem.run_pure, Result.andThen_ok, List.map_toArray, List.map_cons, List.map_nil, hay, hrun]
  rw [he]
  exact hK _ _ G _ (hr'.put d hN _ (.v (.int .i64 (Nat.min n2 n))) (.int _ _))
end
end Go.Proofs.YtnpgcmeclkncnaaGreatDoor.X
/- The program logic's rules: a row is lent to a call. No condition. -/
set_option linter.unusedVariables false
set_option linter.unusedSimpArgs false
namespace Go.Proofs.YtnpgcmeclkncnaaGreatDoor.X
open Go Go.RowKit

def isInt : AV → Bool
  | .int _ _ => true
  | _ => false
section
variable {P : Program} {N : Nat} {s : St} {d : Nat} {ty : TypeId} {pos : String} {af : Array Edge} {g : Option (Nat × Bool)}
/-- f(row): the row is only read; numbers come back, in a row of their own. -/
theorem op_callb {f : FuncId} {x : Operand} {tys : Array TypeId} {k n el esz el2 : Nat} {xs ys : List AV} (hN : d < N) (hf : isFn P f = true) (hx : opd x s = some (.om k n)) (hk : get s (.t k) = some (.tk true el esz xs)) (hp : PureO P f [.sl xs] el2 1 ys) (hi : ys.all isInt = true) (htd : get s (.t d) = none) :
    OpOK P N ⟨some d, .call { callee := .value (.func f), args := #[x], argTypes := tys }, ty, pos, af, g⟩ s (rd x ++ [.t k, .t d]) [(.s d, .sv (.ow d ys)), (.t d, .tk false el2 1 ys)] := by
  intro t hR E G L a w hr K Q hK
  have hk' : get t (.t k) = some (.tk true el esz xs) := by rw [hR (.t k) (by simp)]; exact hk
  have htd' : get t (.t d) = none := by rw [hR (.t d) (by simp)]; exact htd
  obtain ⟨htk, A, cap, hv⟩ := opd_sound hr hR.left hx
  obtain ⟨v, hv2, ⟨cells, _, ho, hz, hL, hkn⟩, hm⟩ := hr.tok k _ _ _ _ hk'
  rw [htk] at hv2; cases hv2
  obtain ⟨H, hH, hok, hmay⟩ := hr.heap
  -- what the callee knows
  let G1 : Gh := match (a.eval x).ownBlock with | some b => G.add b cells | none => G
  have hle1 : G.le G1 := by
    simp only [G1]; split
    · rename_i b hb; exact Gh.add_le (fun o u e => by rw [hkn b hb o] at e; cases e)
    · exact Gh.le.refl G
  have hG1 : ∀ b o, (a.eval x).ownBlock = some b → G1.kn b o = cells[o]? := by
    intro b o hb; simp only [G1, hb, Gh.add, if_pos]
  have hG2 : ∀ b o, (a.eval x).ownBlock ≠ some b → G1.kn b o = G.kn b o := by
    intro b o hb
    simp only [G1]; split
    · rename_i c hc; simp only [Gh.add]; rw [if_neg (fun e => hb (by rw [hc, e]))]
    · rfl
  have hob1 : G1.ob = G.ob := by simp only [G1]; split <;> rfl
  have hkn1 : KnOK G1 w := by
    intro b o u e
    by_cases hb : (a.eval x).ownBlock = some b
    · rw [hG1 b o hb] at e
      rcases ho.2 with ⟨e1, _⟩ | ⟨q, c2, cur, e1, _, q1, q2, q3, q4, q5⟩
      · rw [e1] at hb; cases hb
      · rw [e1] at hb; simp [Value.ownBlock] at hb; subst hb
        rw [cell_of_row w q o cur el (0, 0) q1]
        rw [← q5, List.getElem?_take] at e
        split at e
        · simpa using e
        · cases e
    · rw [hG2 b o hb] at e; exact hr.kn b o u e
  let H0 : Hp := ⟨H.next, fun _ => none⟩
  have hf0 : ∀ G2 w2 b, ¬ foot G2 H0 w2 b := by
    rintro G2 w2 b (⟨id, ⟨cs, h⟩, _⟩ | ⟨id, j, cs, el, esz, xs, b0, arr, t, fr, h, _⟩) <;> cases h
  have hok0 : HpOK G1 w H0 := ⟨fun id b e => hok.lt id b (by rw [hob1] at e; exact e), fun id id' b e e' => hok.inj id id' b (by rw [hob1] at e; exact e) (by rw [hob1] at e'; exact e'), fun id cs e => (by cases e), fun id j b hr => absurd (.inr ⟨id, j, hr⟩) (hf0 G1 w b)⟩
  have hV1 : V G1 (a.eval x) (.sl xs) := V_of_row ho (hL.mono hle1) fun b hb o _ => hG1 b o hb
  unfold Oper.wp
  have hrun : (execOp a.eval ⟨some d, .call { callee := .value (.func f), args := #[x], argTypes := tys }, ty, pos, af, g⟩).run P w = .ok (.enter f #[a.eval x]) w := by
    have e : #[] ++ Array.map a.eval #[x] ++ #[] = #[a.eval x] := by simp
    have he : a.eval (.func f) = .func (.func f) #[] #[] := rfl
    simp only [execOp, resolve, he, Deferred.ofValue, Sem.run_bind, Sem.run_pure, Result.andThen_ok, invoke, run_callFunc hf, e]
  rw [hrun]
  refine (hp H0 G1 w #[a.eval x] ⟨(hr.geAt hH).1, (hr.geAt hH).2.1, fun g _ h => hf0 _ _ _ h⟩ hkn1 hok0 ⟨rfl, fun j y e => ?_⟩).mono ?_
  · match j, e with
    | 0, e => cases e; exact hV1
    | j + 1, e => cases e
  rintro e w' ⟨v, G', rfl, ⟨⟨cells2, hv2, ho2, hz2, hL2, hkn2⟩, hbk⟩, hx', hknG', hok', hf', hft'⟩
  have hblk : ∀ b, b < w.heap.size → w'.heap[b]? = w.heap[b]? := fun b hb => hf'.block b hb (hf0 _ _ b)
  let G2 : Gh := ⟨fun b o => if b < w.heap.size then G.kn b o else G'.kn b o, G.ob⟩
  have hG2l : ∀ b o, b < w.heap.size → G2.kn b o = G.kn b o := fun b o hb => by show (if b < w.heap.size then G.kn b o else G'.kn b o) = _; rw [if_pos hb]
  have hG2h : ∀ b o, ¬ b < w.heap.size → G2.kn b o = G'.kn b o := fun b o hb => by show (if b < w.heap.size then G.kn b o else G'.kn b o) = _; rw [if_neg hb]
  have hle2 : G.le G2 := ⟨fun b o u e => by rw [hG2l b o (hr.knlt e)]; exact e, fun id b e => e⟩
  have hst := hok.stay (w' := w') hle2 rfl (fun b hb o => by rw [hG2l b o (hok.foot hb).1]; exact (hok.foot hb).2 o) (fun b hb => hblk b (hok.foot hb).1) hf'.size
  have hkn3 : KnOK G2 w' := by
    intro b o u e
    by_cases hb : b < w.heap.size
    · rw [hG2l b o hb] at e
      rw [World.cell?_of_block (w := w) (hblk b hb)]; exact hr.kn b o u e
    · rw [hG2h b o hb] at e; exact hknG' b o u e
  have h1 := hr.called (G' := G2) hH ⟨fun b o hb _ => hG2l b o hb, fun id b e => e, fun id b e => .inl e⟩ hkn3 hst.1 ⟨hf'.os, hf'.tape, hf'.output, hf'.size, fun b hb _ => hblk b hb⟩ (fun b hb => .inr ((hst.2 b).1 hb))
  have hown : ∀ c b, owns ((.h, .hp H) :: t) L c b → owns t L c b := by
    intro c b hc
    cases c <;> simp only [owns, get, reduceCtorEq, if_false] at hc ⊢ <;> exact hc
  have hnew : ∀ b, v.ownBlock = some b → w.heap.size ≤ b := fun b hb => by
    rcases (hbk b hb).1 with e | e
    · exact e
    · exact absurd e (hf0 _ _ b)
  have hint : ∀ e ∈ ys, ∃ kk nn, e = .int kk nn := fun e he => by
    have := List.all_eq_true.1 hi e he
    cases e <;> first | exact ⟨_, _, rfl⟩ | cases this
  have hL3 : Lay G2 1 ys cells2 := ⟨hL2.1, fun i e j c he hj => by
    obtain ⟨q1, q2⟩ := hL2.2 i e j c he hj
    obtain ⟨kk, nn, rfl⟩ := hint e (List.mem_of_getElem? he)
    have hc : c = .int kk nn := by
      cases j with
      | zero => simpa [AV.cells] using hj.symm
      | succ j => simp [AV.cells] at hj
    subst hc
    refine ⟨rfl, ?_⟩
    rw [V_int q2]; exact .int _ _⟩
  have hk3 : ∀ b, v.ownBlock = some b → ∀ o, G2.kn b o = G'.kn b o := fun b hb o => hG2h b o (by have := hnew b hb; omega)
  have hV3 : V G2 v (.sl ys) := V_of_row ho2 hL3 fun b hb o hlt => by rw [hk3 b hb o]; exact (hkn2 b hb).1 o hlt
  have hrow : RowOK G2 w' false el2 1 v ys := ⟨cells2, fun _ => hV3, ho2, hz2, hL3, fun b hb => ⟨fun o hlt => by rw [hk3 b hb o]; exact (hkn2 b hb).1 o hlt, fun o hlt => by rw [hk3 b hb o]; exact (hkn2 b hb).2 o hlt⟩⟩
  have h2 := h1.addtok (d := d) (by simpa [get] using htd') hrow (fun b hb => by
    have hb2 := hnew b hb
    refine ⟨.inl (Nat.le_trans hr.base_le hb2), fun id e => ?_, fun c hc => ?_, fun H2 g2 e => ?_⟩
    · have := (hok.lt id b e).2; omega
    · have := (owns_lt hr (hown c b hc)).1; omega
    · simp [get] at g2; subst g2
      have := (hok.foot ((hst.2 b).1 e)).1; omega)
  have h3 := h2.put d hN v (.ow d ys) ⟨hV3, by simp [Loc.setTok]⟩
  refine hK v w' G2 (L.setTok d v) (h3.ext fun c => ?_)
  simp only [List.cons_append, List.nil_append, get]
  split
  · rfl
  · split
    · rfl
    · split
      · rename_i h4; subst h4; exact hH
      · rfl
/-- xs == nil: of an empty slice it is not known. -/
theorem TriL.eqnil {ops : Array Oper} {l : List Oper} {Q : St → Prop} {t1 e t2 : TypeId} {x : Operand} {xs : List AV} (hN : d < N) (hu : P.underlying t1 = some (.slice e)) (hx : opv x s = some (.sl xs)) (h : ∀ b : Bool, (b = true → xs = []) → TriL P N ops l ((.s d, .sv (.v (.bool b))) :: s) Q) :
    TriL P N ops (⟨some d, .binOp .eql t1 x (.const (.slice none 0 0)) t2, ty, pos, af, none⟩ :: l) s Q := by
  intro E a w ⟨G, L, hr⟩ QQ hQ
  have hV := opv_sound hr (fun _ _ => rfl) hx
  obtain ⟨A, c, hv⟩ := V_sl hV
  refine wpList_plain rfl fun K hK => ?_
  have hb : A.isNone = true → xs = [] := by
    have key : ∀ v, V G v (.sl xs) → ∀ A n c, v = .slice A n c → A.isNone = true → xs = [] := by
      intro v hV A n c e hA
      cases hV
      · rfl
      · cases e; cases hA
    exact key _ hV _ _ _ hv
  have hgd : (eqGuard .eql t1 x (.const (.slice none 0 0)) (.slice A xs.length c) (.slice none 0 0)).run P w = .ok () w := by simp [eqGuard]
  have he : a.eval (.const (.slice none 0 0)) = .slice none 0 0 := rfl
  unfold Oper.wp
  have hrun : (execOp a.eval ⟨some d, .binOp .eql t1 x (.const (.slice none 0 0)) t2, ty, pos, af, none⟩).run P w = .ok (.value (.bool A.isNone)) w := by
    simp only [execOp, Sem.run_bind, hv, he, hgd, Result.andThen_ok, binOp, run_equal_slice_nil w t1 e A xs.length c hu, Sem.run_pure]
  rw [hrun]
  exact hK _ _ (h A.isNone hb E _ _ ⟨G, L, hr.put d hN _ (.v (.bool A.isNone)) (.bool _)⟩ QQ hQ)
end
end Go.Proofs.YtnpgcmeclkncnaaGreatDoor.X
/- The program logic's rules: a shared object read, and written, where it lies. No condition. -/
set_option linter.unusedVariables false
set_option linter.unusedSimpArgs false
namespace Go.Proofs.YtnpgcmeclkncnaaGreatDoor.X
open Go Go.RowKit

theorem TriL.ofKept {P : Program} {N : Nat} {ops : Array Oper} {l : List Oper} {s : St} {Q : St → Prop} (h : Kept s fun s' => TriL P N ops l s' Q) : TriL P N ops l s Q := by
  intro E a w hf
  obtain ⟨s', h1, h2⟩ := h E N a w hf
  exact h2 E a w h1
/-- The object id gets other cells; its rows stay. -/
theorem Rel.turnobj {E : Ent} {N : Nat} {G : Gh} {L : Loc} {a : Act} {w w' : World} {s : St} (h : Rel E N G L a w s) {H : Hp} {id blk : Nat} {cs cs' : List Hc} {arr arr' : Array Value} {el0 : TypeId} (hH : get s .h = some (.hp H)) (ho : H.obj id = some cs) (hb : G.ob id = some blk)
    (hh : w.heap[blk]? = some (.cells arr el0 (0, 0))) (h1 : w'.os = w.os) (h2 : w'.tape = w.tape) (h3 : w'.output = w.output) (h4 : w'.heap.size = w.heap.size) (h5 : ∀ j, j ≠ blk → w'.heap[j]? = w.heap[j]?) (h6 : w'.heap[blk]? = some (.cells arr' el0 (0, 0)))
    (hsz : arr'.size = cs'.length) (hc : ∀ (j : Nat) x, cs'[j]? = some x → HcOK G w (arr'.getD j undef) x) (hrw : ∀ (j : Nat) el esz xs, cs'[j]? = some (.row el esz xs) → cs[j]? = some (.row el esz xs) ∧ arr'.getD j undef = arr.getD j undef) :
    Rel E N G L a w' ((.h, .hp (H.set id cs')) :: s) := by
  obtain ⟨H0, gH, hok, hmay⟩ := h.heap
  rw [hH] at gH; cases gH
  obtain ⟨blk0, arr0, el1, p1, p2, p3, p4, p5⟩ := hok.obj id cs ho
  rw [hb] at p1; cases p1
  rw [hh] at p2; cases p2
  have hmine : foot G H w blk := .inl ⟨id, ⟨cs, ho⟩, hb⟩
  have hobj : ∀ i hs2, (H.set id cs').obj i = some hs2 → (i = id ∧ hs2 = cs') ∨ (i ≠ id ∧ H.obj i = some hs2) := by
    intro i hs2 e
    by_cases e2 : i = id
    · have e3 : (if i = id then some cs' else H.obj i) = some hs2 := e
      rw [if_pos e2] at e3; cases e3; exact .inl ⟨e2, rfl⟩
    · have e3 : (if i = id then some cs' else H.obj i) = some hs2 := e
      rw [if_neg e2] at e3; exact .inr ⟨e2, e3⟩
  have hhr : ∀ i j b, hrow G (H.set id cs') w' i j b → hrow G H w i j b := by
    rintro i j b ⟨cs2, el, esz, xs, b0, arr2, t2, fr, q1, q2, q3, q4, q5⟩
    rcases hobj _ _ q1 with ⟨rfl, rfl⟩ | ⟨e1, e2⟩
    · rw [hb] at q3; cases q3
      rw [h6] at q4; cases q4
      obtain ⟨r1, r2⟩ := hrw j el esz xs q2
      rw [r2] at q5
      exact ⟨cs, el, esz, xs, blk, arr, _, _, ho, r1, hb, hh, q5⟩
    · have hne : b0 ≠ blk := fun e => e1 (hok.inj _ _ _ (e ▸ q3) hb)
      rw [h5 b0 hne] at q4
      exact ⟨cs2, el, esz, xs, b0, arr2, t2, fr, e2, q2, q3, q4, q5⟩
  have hft : ∀ b, foot G (H.set id cs') w' b → foot G H w b := by
    rintro b (⟨i, ⟨hs2, q1⟩, q2⟩ | ⟨i, j, q1⟩)
    · rcases hobj _ _ q1 with ⟨rfl, rfl⟩ | ⟨e1, e2⟩
      · rw [hb] at q2; cases q2; exact hmine
      · exact .inl ⟨i, ⟨hs2, e2⟩, q2⟩
    · exact .inr ⟨i, j, hhr _ _ _ q1⟩
  have hown : ∀ c b, owns ((.h, .hp (H.set id cs')) :: s) L c b → owns s L c b := by
    intro c b hc
    cases c <;> simp only [owns, get, reduceCtorEq, if_false] at hc ⊢ <;> exact hc
  have hne : ∀ c b, owns s L c b → b ≠ blk := fun c b hc e => h.hdisj c b hc H hH (e ▸ hmine)
  have hcell : ∀ p v, w.cell? p = some v → p.block ≠ blk → w'.cell? p = some v := by
    intro p v hc hne
    rw [World.cell?_of_block (w := w) (h5 p.block hne)]; exact hc
  have hrow2 : ∀ (v : Value) (i j : Nat) el esz xs, RowOK G w true el esz v xs → (∀ b, v.ownBlock = some b → hrow G H w i j b) → RowOK G w' true el esz v xs := fun v i j el esz xs hr hv =>
    hr.stay (Gh.le.refl G) (fun b e => h5 b (fun e2 => (hok.apart i j b (hv b e)).1 id (e2 ▸ hb))) (fun _ _ _ => rfl)
  refine ⟨h.size, h.defs, h.ge, fun b j v e => hcell _ _ (h.kn b j v e) (fun e' => ?_), h.old, h.obs, h.obn, ⟨h1.trans h.fr.os, h2.trans h.fr.tape, h3.trans h.fr.output, by rw [h4]; exact h.fr.size, fun j hj hno => ?_⟩, ?_, ?_, ?_,
    fun c d b hc hd => h.disj c d b (hown _ _ hc) (hown _ _ hd), ⟨_, rfl, ⟨fun i b e => ⟨(hok.lt i b e).1, by rw [h4]; exact (hok.lt i b e).2⟩, hok.inj, ?_, ?_⟩, fun b hb2 => hmay b (hft b hb2)⟩, ?_, fun k g => h.nobox k (by simpa [get] using g), fun k g => h.notok k (by simpa [get] using g)⟩
  · simp at e'; subst e'; rw [p5 j] at e; cases e
  · rw [h5 j (fun e => by
      subst e
      rcases hmay j hmine with e | e
      · omega
      · exact hno e)]
    exact h.fr.block j hj hno
  · intro n x g; exact h.slot n x (by simpa [get] using g)
  · intro j cv g hl
    have g' : get s (.b j) = some cv := by simpa [get] using g
    exact (h.box j cv g' hl).stay (Gh.le.refl G) (fun _ _ e => .inl e) (fun b hb' => h5 b (hne (.b j) b ⟨⟨cv, g', hl⟩, hb'⟩)) (fun _ _ _ => rfl)
  · intro j m el esz xs g
    have g' : get s (.t j) = some (.tk m el esz xs) := by simpa [get] using g
    exact (h.tok j m el esz xs g').stay (Gh.le.refl G) (fun _ _ e => .inl e) (fun v b hv hb' => h5 b (hne (.t j) b ⟨⟨m, el, esz, xs, g'⟩, v, hv, hb'⟩)) (fun _ _ _ _ _ => rfl)
  · intro i hs2 e
    rcases hobj _ _ e with ⟨rfl, rfl⟩ | ⟨e1, e2⟩
    · refine ⟨blk, arr', el0, hb, h6, hsz, fun j x hx => ?_, p5⟩
      have := hc j x hx
      cases x with
      | v b => exact this
      | row el esz xs =>
        obtain ⟨r1, r2⟩ := hrw j el esz xs hx
        exact hrow2 _ i j el esz xs this (fun b e => ⟨cs, el, esz, xs, blk, arr, _, _, ho, r1, hb, hh, by rw [← r2]; exact e⟩)
    · obtain ⟨b2, arr2, el2, q1, q2, q3, q4, q5⟩ := hok.obj i hs2 e2
      have hne2 : b2 ≠ blk := fun e => e1 (hok.inj _ _ _ (e ▸ q1) hb)
      refine ⟨b2, arr2, el2, q1, by rw [h5 b2 hne2]; exact q2, q3, fun j x hx => ?_, q5⟩
      have := q4 j x hx
      cases x with
      | v b => exact this
      | row el esz xs => exact hrow2 _ i j el esz xs this (fun b e => ⟨hs2, el, esz, xs, b2, arr2, _, _, e2, hx, q1, q2, e⟩)
  · intro i j b hr
    obtain ⟨q1, q2⟩ := hok.apart i j b (hhr _ _ _ hr)
    exact ⟨q1, fun i' j' hr' => q2 i' j' (hhr _ _ _ hr')⟩
  · intro c b hc H2 g2 hf2
    simp [get] at g2
    subst g2
    exact h.hdisj c b (hown _ _ hc) H hH (hft b hf2)
/-- What is read of a cell of an object: of a row only how long it is. -/
def hcAv : Hc → AV
  | .v a => a
  | .row _ _ xs => .sll xs.length
theorem hc_read {G : Gh} {w : World} {v : Value} {x : Hc} (h : HcOK G w v x) : (hcAv x).flat = true ∧ V G v (hcAv x) := by
  cases x with
  | v a => exact h
  | row el esz xs =>
    have hr : RowOK G w true el esz v xs := h
    obtain ⟨cells, _, ho, _⟩ := hr
    refine ⟨rfl, ?_⟩
    show V G v (.sll xs.length)
    generalize xs.length = n at ho
    rcases ho.2 with hn | ⟨g, cap, cur, rfl, _⟩
    · have h1 := hn.1
      have h2 := hn.2
      subst h1; subst h2
      exact V.sll none 0 0
    · exact .sll _ _ _
section
variable {P : Program} {N : Nat} {s : St} {d : Nat} {ty : TypeId} {pos : String} {af : Array Edge} {g : Option (Nat × Bool)}
theorem op_lensl {t1 e : TypeId} {x : Operand} {n : Nat} (hN : d < N) (h1 : P.underlying t1 = some (.slice e)) (hx : opv x s = some (.sll n)) :
    OpOK P N ⟨some d, .call { callee := .builtin .len, args := #[x], argTypes := #[t1] }, ty, pos, af, g⟩ s (rd x) [(.s d, .sv (.v (.int .i64 n)))] :=
  OpOK.val rfl hN fun E G L a w t hr hR => by
    have hv := opv_sound hr hR hx
    generalize hav : a.eval x = u at hv
    cases hv
    refine ⟨.int .i64 n, ?_, .int _ _⟩
    simp [execOp, resolve, invoke, builtin, hav, Builtin.len_, run_underlying h1, goInt]
theorem op_nckc {x : Operand} {id off : Nat} (hN : d < N) (hx : opv x s = some (.op id off)) : OpOK P N ⟨some d, .nilCheck x, ty, pos, af, g⟩ s (rd x) [(.s d, .sv (.v (.op id off)))] :=
  OpOK.val rfl hN fun E G L a w t hr hR => by
    have hv := opv_sound hr hR hx
    generalize hav : a.eval x = u at hv
    cases hv
    rename_i blk hb
    exact ⟨.pointer (some ⟨blk, off, none⟩), by simp [execOp, hav], V.op id off blk hb⟩
theorem op_fac {t1 : TypeId} {x : Operand} {i id off o : Nat} (hN : d < N) (hf : fo P t1 i = some o) (hx : opv x s = some (.op id off)) :
    OpOK P N ⟨some d, .fieldAddr t1 x i, ty, pos, af, g⟩ s (rd x) [(.s d, .sv (.v (.op id (off + o))))] :=
  OpOK.val rfl hN fun E G L a w t hr hR => by
    have hv := opv_sound hr hR hx
    generalize hav : a.eval x = u at hv
    cases hv
    rename_i blk hb
    exact ⟨.pointer (some ⟨blk, off + o, none⟩), by simp [execOp, hav, fo_run hf, Addr.add_lit], V.op id (off + o) blk hb⟩
/-- load out of an object -/
theorem op_ldc {t1 : TypeId} {x : Operand} {id off n : Nat} {b : Bool} {cs : List Hc} {z : Sv} {H : Hp} (hN : d < N) (hl : lk P t1 = some (b, n)) (hx : opv x s = some (.op id off)) (hH : get s .h = some (.hp H)) (ho : H.obj id = some cs) (hz : ldc b n ((cs.map fun c => Sv.v (hcAv c)).drop off) = some z) :
    OpOK P N ⟨some d, .load t1 x, ty, pos, af, g⟩ s (rd x ++ [.h]) [(.s d, .sv z)] :=
  OpOK.val rfl hN fun E G L a w t hr hR => by
    have hv := opv_sound hr hR.left hx
    generalize hav : a.eval x = u at hv
    cases hv
    rename_i blk hb
    obtain ⟨H0, gH, hok, hmay⟩ := hr.heap
    rw [hR .h (by simp), hH] at gH; cases gH
    obtain ⟨blk0, arr, el1, p1, p2, p3, p4, p5⟩ := hok.obj id cs ho
    rw [hb] at p1; cases p1
    have hcell : ∀ (j : Nat) y, ((cs.map fun c => Sv.v (hcAv c)).drop off)[j]? = some y → w.cell? ((⟨blk, off, none⟩ : Addr).add j) = some (arr.getD (off + j) undef) ∧ y.flat = true ∧ SV G L (arr.getD (off + j) undef) y := by
      intro j y e
      rw [List.getElem?_drop, List.getElem?_map] at e
      cases hc : cs[off + j]? with
      | none => rw [hc] at e; cases e
      | some c =>
        rw [hc] at e; cases e
        have hlt : off + j < arr.size := by have := (List.getElem?_eq_some_iff.1 hc).1; omega
        refine ⟨?_, hc_read (p4 _ c hc)⟩
        rw [Addr.add_lit, cell_of_row w blk (off + j) arr el1 (0, 0) p2, Array.getD_eq_getD_getElem?, Array.getElem?_eq_getElem hlt]
        rfl
    obtain ⟨v, hrun, hV⟩ := run_load_of (P := P) hl hz hcell
    refine ⟨v, ?_, hV⟩
    simp [execOp, hav, Instr.loadAt, Instr.sureAddr, hrun]
/-- store into a cell of an object -/
theorem op_stc {t1 : TypeId} {x y : Operand} {id off : Nat} {b : Bool} {cs : List Hc} {av old : AV} {H : Hp} (hl : lk P t1 = some (b, 1)) (hx : opv x s = some (.op id off)) (hH : get s .h = some (.hp H)) (ho : H.obj id = some cs) (hy : opv y s = some av) (hfl : av.flat = true) (hold : cs[off]? = some (.v old)) :
    OpOK P N ⟨none, .store t1 x y, ty, pos, af, g⟩ s (rd x ++ (rd y ++ [.h])) [(.h, .hp (H.set id (cs.set off (.v av))))] := by
  intro t hR E G L a w hr K Q hK
  have hv := opv_sound hr hR.left hx
  have hz := opv_sound hr hR.right.left hy
  generalize hav : a.eval x = u at hv
  cases hv
  rename_i blk hb
  obtain ⟨H0, gH, hok, hmay⟩ := hr.heap
  have hHt : get t .h = some (.hp H) := by rw [hR .h (by simp)]; exact hH
  rw [hHt] at gH; cases gH
  obtain ⟨blk0, arr, el1, p1, p2, p3, p4, p5⟩ := hok.obj id cs ho
  rw [hb] at p1; cases p1
  have hone := hz.oneCell hfl
  have hcl : (a.eval y).cells = #[a.eval y] := vcells_one hone
  have hlt : off < cs.length := (List.getElem?_eq_some_iff.1 hold).1
  have hst := run_storeCells_at P blk off el1 [a.eval y] 0 arr w p2 (by simp; omega) (fun u hu => by simp at hu; subst hu; exact hone)
  obtain ⟨_, hs⟩ := lk_run hl w
  simp only [Nat.add_zero] at hst
  let arr' : Array Value := (arr.toList.take off ++ [a.eval y] ++ arr.toList.drop (off + [a.eval y].length)).toArray
  have hrun : (execOp a.eval ⟨none, .store t1 x y, ty, pos, af, g⟩).run P w = .ok .skip (w.setRow blk arr') := by
    have hne : ¬ ((a.eval y).cells.size ≠ 1) := by rw [hcl]; simp
    simp only [execOp, Sem.run_bind, hav, Instr.storeAt, Instr.sureAddr, Sem.run_pure, Result.andThen_ok, storeVar, hs]
    rw [if_neg hne, hcl]
    simp only [hst, Result.andThen_ok]
    rfl
  have hl1 : (arr.toList.take off).length = off := by rw [List.length_take, Array.length_toList]; omega
  have key : ∀ j, arr'.getD j undef = if j = off then a.eval y else arr.getD j undef := by
    intro j
    simp only [arr', Array.getD_eq_getD_getElem?, List.getElem?_toArray]
    rw [List.append_assoc]
    by_cases hj : j < off
    · rw [List.getElem?_append_left (by omega), List.getElem?_take, if_pos hj, Array.getElem?_toList, if_neg (by omega)]
    · rw [List.getElem?_append_right (by omega), hl1]
      by_cases hj2 : j = off
      · subst hj2; simp
      · rw [if_neg hj2, List.getElem?_append_right (by simp; omega), List.getElem?_drop, Array.getElem?_toList]
        congr 2
        simp; omega
  have hset : ∀ (j : Nat) x, (cs.set off (.v av))[j]? = some x → (j = off ∧ x = .v av) ∨ (j ≠ off ∧ cs[j]? = some x) := by
    intro j x e
    by_cases hj : j = off
    · subst hj
      rw [List.getElem?_set_self hlt] at e; cases e; exact .inl ⟨rfl, rfl⟩
    · rw [List.getElem?_set_ne (by omega)] at e; exact .inr ⟨hj, e⟩
  have hr2 := hr.turnobj (cs' := cs.set off (.v av)) (arr' := arr') (w' := w.setRow blk arr') hHt ho hb p2 rfl rfl rfl (size_setRow w blk arr') (fun j hj => setRow_other w blk j arr' hj) (setRow_heap w blk arr arr' el1 (0, 0) p2)
    (by simp only [arr', List.size_toArray, List.length_append, hl1, List.length_drop, Array.length_toList, List.length_set, List.length_cons, List.length_nil]; omega)
    (fun j x e => by
      rw [key j]
      rcases hset j x e with ⟨rfl, rfl⟩ | ⟨h1, h2⟩
      · rw [if_pos rfl]; exact ⟨hfl, hz⟩
      · rw [if_neg h1]; exact p4 j x h2)
    (fun j el esz xs e => by
      rcases hset j _ e with ⟨rfl, h2⟩ | ⟨h1, h2⟩
      · cases h2
      · exact ⟨h2, by rw [key j, if_neg h1]⟩)
  unfold Oper.wp
  rw [hrun]
  exact hK undef _ G L hr2
end
end Go.Proofs.YtnpgcmeclkncnaaGreatDoor.X
/- The program logic's rules: arrays in local boxes, an array given away as a slice, a store into a row. No condition. -/
set_option linter.unusedVariables false
set_option linter.unusedSimpArgs false
namespace Go.Proofs.YtnpgcmeclkncnaaGreatDoor.X
open Go Go.RowKit

/-- A local box of pure cells is never written again. -/
theorem Rel.frz0 {E : Ent} {N : Nat} {G : Gh} {L : Loc} {a : Act} {w : World} {s : St} (h : Rel E N G L a w s) {k blk : Nat} {xs : List AV} (hk : get s (.b k) = some (.bx (xs.map .v))) (hb : L.box k = some blk) :
    ∃ G', Rel E N G' L a w ((.b k, .gone) :: s) ∧ ∀ (j : Nat) x, xs[j]? = some x → ∃ v, G'.kn blk j = some v ∧ x.flat = true ∧ V G' v x := by
  obtain ⟨blk', o, hb', hbase, hh, ⟨arr, el, rfl, hsz, hc⟩, hno, hlk⟩ := h.box k _ hk rfl
  rw [hb] at hb'; cases hb'
  have hmine : owns s L (.b k) blk := ⟨⟨_, hk, rfl⟩, hb⟩
  let G' := G.add blk arr.toList
  have hle : G.le G' := Gh.add_le (fun o v e => by rw [hno o] at e; cases e)
  have hkn2 : ∀ c j, c ≠ blk → G'.kn c j = G.kn c j := fun c j e => by simp [G', Gh.add, e]
  have hown : ∀ c b, owns ((.b k, .gone) :: s) L c b → c ≠ .b k ∧ owns s L c b := by
    intro c b hc
    by_cases e : c = .b k
    · subst e
      obtain ⟨⟨cv, g, hl⟩, _⟩ := hc
      simp [get] at g; subst g; cases hl
    · exact ⟨e, owns_cons e hc⟩
  have hneb : ∀ c b, owns ((.b k, .gone) :: s) L c b → b ≠ blk := by
    rintro c b hc rfl
    obtain ⟨h1, h2⟩ := hown c _ hc
    exact h1 (h.disj c (.b k) _ h2 hmine)
  obtain ⟨H0, gH, hokH, hmayH⟩ := h.heap
  have hfb : ∀ c, foot G H0 w c → c ≠ blk := fun c hc e => h.hdisj _ _ hmine H0 gH (e ▸ hc)
  have hst := hokH.stay (w' := w) hle rfl (fun c hc o => (hkn2 c o (hfb c hc)).trans ((hokH.foot hc).2 o)) (fun c hc => rfl) (Nat.le_refl _)
  refine ⟨G', ⟨h.size, h.defs, h.ge, ?_, ?_, h.obs, h.obn, h.fr, ?_, ?_, ?_, fun c d b hc hd => h.disj c d b (hown _ _ hc).2 (hown _ _ hd).2, ⟨H0, by simpa [get] using gH, hst.1, fun b hb => hmayH b ((hst.2 b).1 hb)⟩, fun c b hc H2 g2 e2 => ?_, ?_, ?_⟩, ?_⟩
  · intro b j v e
    by_cases eb : b = blk
    · subst eb
      rw [add_kn] at e
      rw [cell_of_row w b j arr el (0, 0) hh]
      simpa using e
    · rw [hkn2 b j eb] at e; exact h.kn b j v e
  · intro b j hlt hm
    rw [hkn2 b j (fun e => by
      subst e
      rcases hbase with e | e
      · omega
      · exact hm e)]
    exact h.old b j hlt hm
  · intro n x g
    exact (h.slot n x (by simpa [get] using g)).mono hle
  · intro j cv g hl
    by_cases e : j = k
    · subst e; simp [get] at g; subst g; cases hl
    · have g' : get s (.b j) = some cv := by simpa [get, Ne.symm e] using g
      exact (h.box j cv g' hl).stay hle (fun _ _ e => .inl e) (fun _ _ => rfl) (fun b2 p1 o => hkn2 b2 o (fun e2 => by
        subst e2
        have := h.disj (.b j) (.b k) _ ⟨⟨cv, g', hl⟩, p1⟩ hmine
        exact e (by injection this)))
  · intro j m el' esz' ys g
    have g' : get s (.t j) = some (.tk m el' esz' ys) := by simpa [get] using g
    refine (h.tok j m el' esz' ys g').stay hle (fun _ _ e => .inl e) (fun _ _ _ _ => rfl) (fun v b2 hv hb2 o => hkn2 b2 o ?_)
    rintro rfl
    have := h.disj (.t j) (.b k) _ ⟨⟨_, _, _, _, g'⟩, v, hv, hb2⟩ hmine
    cases this
  · have g3 : get s .h = some (.hp H2) := by simpa [get] using g2
    rw [gH] at g3; cases g3
    exact h.hdisj c b (hown _ _ hc).2 _ gH ((hst.2 b).1 e2)
  · intro j g
    by_cases e : j = k
    · subst e; simp [get] at g
    · exact h.nobox j (by simpa [get, Ne.symm e] using g)
  · intro j g; exact h.notok j (by simpa [get] using g)
  · intro j x e
    have := hc j (.v x) (by simp [e])
    have hlt : j < arr.size := by rw [hsz]; have := (List.getElem?_eq_some_iff.1 e).1; simpa using this
    refine ⟨arr.getD j undef, ?_, this.1, V.mono hle this.2⟩
    rw [add_kn, Array.getElem?_toList, Array.getD_eq_getD_getElem?, Array.getElem?_eq_getElem hlt]; rfl
/-- What array a type is: its length, where an element has one cell. -/
def ia (P : Program) (t : TypeId) : Option Nat :=
  match P.underlying t with
  | some (.array n el) => match P.info? el with
    | some i => if i.size = 1 then some n else none
    | none => none
  | _ => none
theorem ia_run {P : Program} {t : TypeId} {n : Nat} (h : ia P t = some n) : ∃ el i, P.underlying t = some (.array n el) ∧ P.info? el = some i ∧ i.size = 1 := by
  unfold ia at h
  split at h
  · rename_i m el hu
    split at h
    · rename_i i hi
      split at h
      · rename_i h1; cases h; exact ⟨el, i, hu, hi, h1⟩
      · cases h
    · cases h
  · cases h
section
variable {P : Program} {N : Nat} {s : St} {d : Nat} {ty : TypeId} {pos : String} {af : Array Edge} {g : Option (Nat × Bool)}
/-- &a[i] of an array in a local box -/
theorem op_iaa {t1 : TypeId} {x i : Operand} {k off m : Nat} {ik : IntKind} {n : Int} (hN : d < N) (ht : ia P t1 = some m) (hx : opd x s = some (.lp k off)) (hi : opv i s = some (.int ik n)) (h0 : 0 ≤ n) (h1 : n < m) :
    OpOK P N ⟨some d, .indexAddr t1 x i, ty, pos, af, g⟩ s (rd x ++ rd i) [(.s d, .sv (.lp k (off + n.toNat)))] :=
  OpOK.val rfl hN fun E G L a w t hr hR => by
    obtain ⟨blk, hb, hv⟩ := opd_sound hr hR.left hx
    have hn := V_int (opv_sound hr hR.right hi)
    obtain ⟨el, inf, hu, hinf, hsize⟩ := ia_run ht
    refine ⟨.pointer (some ⟨blk, off + n.toNat, none⟩), ?_, ⟨blk, hb, rfl⟩⟩
    simp [execOp, hv, hn, Instr.indexAt, Instr.sureAddr, asIntOf, run_underlying hu, h0, h1, sizeOf, typeInfo, hinf, hsize, Addr.add_lit]
/-- a[:h] of an array in a local box: it is given away. -/
theorem op_sla {t1 : TypeId} {x : Operand} {hi : Option Operand} {k m : Nat} {xs : List AV} {h : Int} (hN : d < N) (ht : ia P t1 = some m) (hx : opd x s = some (.lp k 0)) (hk : get s (.b k) = some (.bx (xs.map .v))) (hm : m = xs.length) (h2 : obnd hi m s = some h) (h0 : 0 ≤ h) (hhc : h ≤ m) :
    OpOK P N ⟨some d, .slice t1 x none hi none, ty, pos, af, g⟩ s (rd x ++ (rdo hi ++ [.b k])) [(.s d, .sv (.v (.sl (xs.take h.toNat)))), (.b k, .gone)] := by
  intro t hR E G L a w hr K Q hK
  obtain ⟨blk, hb, hv⟩ := opd_sound hr hR.left hx
  obtain ⟨el, inf, hu, hinf, hsize⟩ := ia_run ht
  obtain ⟨G', hr', hkn⟩ := hr.frz0 (show get t (.b k) = some (.bx (xs.map .v)) by rw [hR (.b k) (by simp)]; exact hk) hb
  have hbn := bounds_run (P := P) (lo := none) (l := 0) hr false m m (fun c hc => by simp [rdo] at hc) hR.right.left rfl h2 (Int.le_refl _) h0 hhc
  have hlen : (xs.take h.toNat).length = h.toNat := by rw [List.length_take]; omega
  have hrun : (execOp a.eval ⟨some d, .slice t1 x none hi none, ty, pos, af, g⟩).run P w = .ok (.value (.slice (some ⟨blk, 0, none⟩) h.toNat m)) w := by
    have e1 : (Instr.sliceAt t1 (a.eval x) none (hi.map a.eval) none).run P w = .ok (.slice (some ⟨blk, 0, none⟩) h.toNat m) w := by
      have hbn' : (Instr.sliceBounds false m m none (hi.map a.eval) none).run P w = .ok (0, h.toNat, m) w := hbn
      simp only [Instr.sliceAt, Sem.run_bind, run_underlying hu, Result.andThen_ok, hv, Instr.sureAddr, Sem.run_pure, hbn', sizeOf, typeInfo, run_program, hinf, Nat.sub_zero]
      by_cases hm0 : m = 0
      · simp [hm0]
      · simp [hm0, Addr.add]
    simp only [execOp, Sem.run_bind, Option.map_none, e1, Result.andThen_ok, Sem.run_pure]
  unfold Oper.wp
  rw [hrun]
  refine hK _ _ G' _ (hr'.put d hN _ (.v (.sl (xs.take h.toNat))) ?_)
  show V G' _ _
  have hV := V.slN (G := G') blk 0 m 1 (xs.take h.toNat) (fun i j => ((G'.kn blk i).getD undef)) (by omega) (fun i e q => by
      have q' : xs[i]? = some e := by
        have hi2 : i < h.toNat := by have := (List.getElem?_eq_some_iff.1 q).1; omega
        rwa [List.getElem?_take, if_pos hi2] at q
      obtain ⟨v, p1, p2, p3⟩ := hkn i e q'
      rw [AV.cells_flat p2]; rfl) ?_ ?_ ?_
  · rw [hlen] at hV; exact hV
  all_goals
    intro i e j c q r
    have q' : xs[i]? = some e := by
      have hi2 : i < h.toNat := by have := (List.getElem?_eq_some_iff.1 q).1; omega
      rwa [List.getElem?_take, if_pos hi2] at q
    obtain ⟨v, p1, p2, p3⟩ := hkn i e q'
    rw [AV.cells_flat p2] at r
    have hj : j = 0 := by have := (List.getElem?_eq_some_iff.1 r).1; simp at this; exact this
    subst hj
    simp at r
    subst r
    try simp only [Nat.mul_one, Nat.zero_add, Nat.add_zero, p1, Option.getD_some]
    try first | exact p2 | exact p3
end
end Go.Proofs.YtnpgcmeclkncnaaGreatDoor.X
/- The program logic's rules: a struct that is built and boxed at once, its parts kept as they are. No condition. -/
set_option linter.unusedVariables false
set_option linter.unusedSimpArgs false
namespace Go.Proofs.YtnpgcmeclkncnaaGreatDoor.X
open Go Go.RowKit

end Go.Proofs.YtnpgcmeclkncnaaGreatDoor.X
/- The program logic's rules: operations that a guard leaves out, so that what hangs on them is left out too. No condition. -/
set_option linter.unusedVariables false
set_option linter.unusedSimpArgs false
namespace Go.Proofs.YtnpgcmeclkncnaaGreatDoor.X
open Go Go.RowKit
section
variable {P : Program} {N : Nat} {ops : Array Oper} {l : List Oper} {s : St} {Q : St → Prop} {o : Oper}
theorem TriL.step {R : List Comp} {ws : St} (hs : StepOK P N ops o s R ws) (h : TriL P N ops l (ws ++ s) Q) : TriL P N ops (o :: l) s Q := by
  intro E a w ⟨G, L, hr⟩ QQ hQ
  refine wpList_step fun K hK => ?_
  exact hs s (fun _ _ => rfl) E G L a w hr K QQ fun a' w' G' L' hr' => hK _ _ (h E _ _ ⟨G', L', hr'⟩ QQ hQ)
theorem V_undef (G : Gh) : V G undef (.tup []) := V.tup #[] [] rfl (fun j c h => by simp at h)
theorem StepOK.offu {d e : Nat} {b : Bool} (hN : d < N) (he : e < N) (hd : o.dst = some e) (hg : gslot ops o = some (d, b)) (hc : get s (.s d) = some (.sv (.v (.bool (!b))))) : StepOK P N ops o s [.s d] [(.s e, .sv (.v (.tup [])))] := by
  intro t hR E G L a w hr K Q hK
  rw [wanted_of hr hN hg (by rw [hR (.s d) (List.mem_cons_self ..)]; exact hc), if_neg (by cases b <;> simp), hd]
  exact hK _ _ G L (hr.put e he undef (.v (.tup [])) (V_undef G))
theorem wanted_un {E : Ent} {G : Gh} {L : Loc} {a : Act} {w : World} (hr : Rel E N G L a w s) {d : Nat} {b : Bool} (hN : d < N) (hg : gslot ops o = some (d, b)) (hc : get s (.s d) = some (.sv (.v (.tup [])))) : Region.wanted o (yielded ops a.tmps) = false := by
  unfold gslot at hg
  split at hg
  · rename_i j b' hgd
    cases hd : (ops[j]?).bind (·.dst) with
    | none => rw [hd] at hg; cases hg
    | some d' =>
      rw [hd] at hg
      simp only [Option.map_some, Option.some.injEq, Prod.mk.injEq] at hg
      obtain ⟨rfl, rfl⟩ := hg
      have hv : V G (a.tmps.getD d' undef) (.tup []) := hr.slot d' _ hc
      have hsz := hr.size
      have hlt : d' < a.tmps.size := by rw [hsz]; exact hN
      rw [Array.getD_eq_getD_getElem?, Array.getElem?_eq_getElem hlt] at hv
      simp only [Option.getD_some] at hv
      simp only [Region.wanted, hgd, yielded, hd, Option.bind_some, Array.getElem?_eq_getElem hlt]
      generalize a.tmps[d'] = u at hv
      cases hv
      cases b' <;> rfl
  · cases hg
theorem StepOK.offg {d e : Nat} {b : Bool} (hN : d < N) (he : e < N) (hd : o.dst = some e) (hg : gslot ops o = some (d, b)) (hc : get s (.s d) = some (.sv (.v (.tup [])))) : StepOK P N ops o s [.s d] [(.s e, .sv (.v (.tup [])))] := by
  intro t hR E G L a w hr K Q hK
  rw [wanted_un hr hN hg (by rw [hR (.s d) (List.mem_cons_self ..)]; exact hc), if_neg (by simp), hd]
  exact hK _ _ G L (hr.put e he undef (.v (.tup [])) (V_undef G))
/-- left out by a guard that is not met -/
theorem TriL.skipu {e d : Nat} {b b' : Bool} (hd : o.dst = some e) (hg : gslot ops o = some (d, b)) (hN : d < N) (he : e < N) (hc : get s (.s d) = some (.sv (.v (.bool b')))) (hb : b' = !b) (h : TriL P N ops l ((.s e, .sv (.v (.tup []))) :: s) Q) : TriL P N ops (o :: l) s Q :=
  TriL.step (StepOK.offu hN he hd hg (hb ▸ hc)) h
/-- left out as its guard was -/
theorem TriL.skipg {e d : Nat} {b : Bool} (hd : o.dst = some e) (hg : gslot ops o = some (d, b)) (hN : d < N) (he : e < N) (hc : get s (.s d) = some (.sv (.v (.tup [])))) (h : TriL P N ops l ((.s e, .sv (.v (.tup []))) :: s) Q) : TriL P N ops (o :: l) s Q :=
  TriL.step (StepOK.offg hN he hd hg hc) h
theorem TriD.skipu {A : List (List Nat)} {acc : List (List Comp × St)} {e d : Nat} {b b' : Bool} (hd : o.dst = some e) (hg : gslot ops o = some (d, b)) (hN : d < N) (he : e < N) (hc : get s (.s d) = some (.sv (.v (.bool b')))) (hb : b' = !b) (h : TriD P N ops A Q (acc ++ [([.s d], [(.s e, .sv (.v (.tup [])))])]) l ((.s e, .sv (.v (.tup []))) :: s)) : TriD P N ops A Q acc (o :: l) s :=
  TriD.cons (StepOK.offu hN he hd hg (hb ▸ hc)) h
theorem TriD.skipg {A : List (List Nat)} {acc : List (List Comp × St)} {e d : Nat} {b : Bool} (hd : o.dst = some e) (hg : gslot ops o = some (d, b)) (hN : d < N) (he : e < N) (hc : get s (.s d) = some (.sv (.v (.tup [])))) (h : TriD P N ops A Q (acc ++ [([.s d], [(.s e, .sv (.v (.tup [])))])]) l ((.s e, .sv (.v (.tup []))) :: s)) : TriD P N ops A Q acc (o :: l) s :=
  TriD.cons (StepOK.offg hN he hd hg hc) h
end
/-- Ways meet. -/
theorem Tri.join {P : Program} {N : Nat} {c d : Code} {s : St} {Q : Exit → St → Prop} (J : St → Prop) (h1 : Tri P N c s fun e s' => match e with | .normal => J s' | e => Q e s') (h2 : ∀ s', J s' → Tri P N d s' Q) : Tri P N (.seq c d) s Q :=
  Tri.seq (h1.mono fun e s' h => by
    cases e <;> first | exact h2 s' h | exact h)
end Go.Proofs.YtnpgcmeclkncnaaGreatDoor.X
/- The program logic's rules: a text appended to a row; to a fresh conversion. No condition. -/
set_option linter.unusedVariables false
set_option linter.unusedSimpArgs false
namespace Go.Proofs.YtnpgcmeclkncnaaGreatDoor.X
open Go Go.RowKit
section
variable {P : Program} {N : Nat} {s : St} {d : Nat} {ty : TypeId} {pos : String} {af : Array Edge} {g : Option (Nat × Bool)}
end
end Go.Proofs.YtnpgcmeclkncnaaGreatDoor.X
/- The law frame: from a call in the program logic to what a statement asks. No condition. -/
set_option linter.unusedVariables false
namespace Go.Proofs.YtnpgcmeclkncnaaGreatDoor.X
open Go Go.RowKit Go.ChangeShapes Go.WideShapes Go.ChangeAt
open Go.ChangeMaps (open_string shut_string)

/-- What is known when a law is called: all that there is. -/
def gh0 (W : World) : Gh := ⟨fun b o => W.cell? ⟨b, o, none⟩, fun _ => none⟩
def hp0 : Hp := ⟨0, fun _ => none⟩
theorem hp0_foot (G : Gh) (W : World) (b : Nat) : ¬ foot G hp0 W b := by
  rintro (⟨id, ⟨cs, h⟩, _⟩ | ⟨id, j, cs, el, esz, xs, b0, arr, t, fr, h, _⟩) <;> cases h
theorem hp0_ok (G : Gh) (W : World) (h : ∀ i, G.ob i = none) : HpOK G W hp0 := by
  refine ⟨fun id b e => ?_, fun id id' b e => ?_, fun id cs e => (by cases e), fun id j blk hr => ?_⟩
  · rw [h] at e; cases e
  · rw [h] at e; cases e
  · exact absurd (.inr ⟨id, j, hr⟩) (hp0_foot G W blk)
/-- A law's call. -/
theorem law_run {P : Program} {f : FuncId} {xs : List AV} {H' : Hp} (h : Run P f xs hp0 (.bool true) H') {W : World} {args : Array Value} (hg : gok W ∧ gN ≤ W.heap.size) (hv : VL (gh0 W) args xs) :
    Calls P f args W fun e w' => e = .returned (.bool true) ∧ Below W.heap.size W w' := by
  refine (h (gh0 W) W args ⟨hg.1, hg.2, fun g _ => hp0_foot _ _ g⟩ (fun b o v e => e) (hp0_ok _ _ fun _ => rfl) hv).mono fun e w' ⟨v, G', he, hV, _, _, _, hf, _⟩ => ?_
  cases hV
  exact ⟨he, hf.os, hf.tape, hf.output, hf.size, fun k hk => hf.block k hk (hp0_foot _ _ k)⟩

section
variable {H : Type} {enc : TypeId × Value → H} {P : Program} {W W' : World}
theorem below_trodAll (hl : laidOutB P = true) (hb : Below W.heap.size W W') : ∀ {ts : List TypeId} {vs : List Value} {ds : List (DataW H)} {ps : List MemPlace},
    ts.all (fun t => P.readableRec t && decide (t < P.types.size)) = true → DataW.TrodAll enc P W 0 (fun _ => true) true ts vs ds ps → DataW.TrodAll enc P W' 0 (fun b => decide (b < W.heap.size)) true ts vs ds ps
  | [], vs, ds, ps, _, h => by
    obtain ⟨rfl, rfl, rfl⟩ := trodAll_nil h
    exact trodAll_mk0
  | t :: ts, vs, ds, ps, hr, h => by
    have hlt := h.lt
    obtain ⟨v, vs1, d, ds1, a, b, rfl, rfl, rfl, h1, h2⟩ := trodAll_cons h
    simp only [List.all_cons, Bool.and_eq_true, decide_eq_true_eq] at hr
    exact trodAll_cons_mk (Below.trod hl hr.1.1 hr.1.2 h1 hb fun x hx => hlt x (by simp [hx])) (below_trodAll hl hb hr.2 h2)
/-- What a statement asks of a law that answers true and leaves all that was. -/
theorem post_true {f : Func} {s : ChangeSpec} {t : TypeId} {args : Array Value} {ds gs : List (DataW H)} {before : List MemPlace} (hl : laidOutB P = true)
    (hr : f.params.toList.all (fun t => P.readableRec t && decide (t < P.types.size)) = true) (hvr : s.vars = []) (hW : DataW.Whole enc P f.params.toList s.vars false W args.toList ds gs before) (hb : Below W.heap.size W W')
    (hs : s.fn H (ds ++ gs) = { results := [.lit (.bool true)], args := ds, vars := gs }) (ht : f.resultTypes = #[t]) (hu : P.underlying t = some .bool) :
    s.post enc P f false true false false W args (.bool true) W' := by
  have hW' := hW
  obtain ⟨p, q, hA, hV, rfl, hfz, hnd⟩ := hW
  refine ⟨ds, gs, p ++ q, [], p, q, hW', ?_, ?_, ?_, ?_, fun h => by cases h⟩
  · rw [hs, ht]
    exact trodAll_cons_mk (shut_bool hu true) trodAll_mk0
  · rw [hs]; exact below_trodAll hl hb hr hA
  · rw [hvr] at hV ⊢
    obtain ⟨rfl, rfl⟩ := trodVars_none hV
    rw [hs]; rfl
  · exact hb.frame _

/-! ### Arguments -/
theorem open_str {r : Reach} {b0 : Nat} {t : TypeId} {v : Value} {d : DataW H} {ps : List MemPlace} (ht : P.underlying t = some .string) (hval : Value.okWide P W r b0 t v) (hd : DataW.Trod enc P W 0 (fun _ => true) true t v d ps) :
    ∃ l : List UInt8, V (gh0 W) v (.str l) ∧ d = .lit (.string l) := by
  obtain ⟨s, rfl, rfl, rfl, _⟩ := open_string ht hval hd
  have e : s = ⟨s.data.toList.toArray⟩ := by cases s; simp
  refine ⟨s.data.toList, ?_, rfl⟩
  have := V.str (G := gh0 W) s.data.toList
  rwa [← e] at this
end
end Go.Proofs.YtnpgcmeclkncnaaGreatDoor.X
/- The program logic's rules: a call of which only the answer is told. No condition. -/
set_option linter.unusedVariables false
set_option linter.unusedSimpArgs false
namespace Go.Proofs.YtnpgcmeclkncnaaGreatDoor.X
open Go Go.RowKit
/-- It answers what stands for 'r'; of the old blocks it turns the objects' alone. -/
def RunX (P : Program) (f : FuncId) (args : List AV) (H : Hp) (r : AV) : Prop :=
  ∀ G w cargs, GE ⟨G, w, foot G H w⟩ → KnOK G w → HpOK G w H → VL G cargs args → Calls P f cargs w fun e w' => ∃ v G', e = .returned v ∧ V G' v r ∧ Fr (foot G H w) w w'
theorem RunX.of_tri {P : Program} {f : FuncId} {fn : Func} {c : Code} {N : Nat} {args : List AV} {H : Hp} {r : AV} (hf : P.funcs[f]? = some fn) (hb : fn.body = some c) (hN : fn.ntmps = N) (hle : args.length ≤ N)
    (h : Tri P N c ((.h, .hp H) :: initS args 0) fun e s' => (e = .normal ∨ e = .ret) ∧ ResOK P fn s' r) : RunX P f args H r := by
  intro G w cargs hg hk hH hV
  refine calls_of_wp hf hb ?_
  have h0 := fits0 hN hle hg hk hH hV
  refine wp_mono (h ⟨G, w, foot G H w⟩ _ w h0) ?_
  rintro e a' w' ⟨s', ⟨G', L', hr⟩, he, hres⟩
  obtain ⟨v, hv, hV'⟩ := hres _ _ _ _ _ _ hr
  have hpost : ∃ v2 G', Ending.returned v = .returned v2 ∧ V G' v2 r ∧ Fr (foot G H w) w w' := ⟨v, G', rfl, hV', hr.fr⟩
  rcases he with rfl | rfl
  · exact ⟨hr.defs, v, hv, hpost⟩
  · exact ⟨hr.defs, v, hv, hpost⟩
end Go.Proofs.YtnpgcmeclkncnaaGreatDoor.X
/- The law frame: lists of texts, numbers. No condition. -/
set_option linter.unusedVariables false
namespace Go.Proofs.YtnpgcmeclkncnaaGreatDoor.X
open Go Go.RowKit Go.ChangeShapes Go.WideShapes Go.ChangeAt
section
variable {H : Type} {enc : TypeId × Value → H} {P : Program} {W W' : World}
theorem cell_spot {a : Addr} {v : Value} (h : W.cell? a = some v) : a.spot = none := by
  unfold World.cell? at h
  split at h
  · split at h
    · cases h
    · rename_i hns; simpa using hns
  · cases h
theorem str_arr (s : ByteArray) : s = ⟨s.data.toList.toArray⟩ := by cases s; simp
end
end Go.Proofs.YtnpgcmeclkncnaaGreatDoor.X
/- The law frame: slices of whatever. No condition. -/
set_option linter.unusedVariables false
namespace Go.Proofs.YtnpgcmeclkncnaaGreatDoor.X
open Go Go.RowKit Go.ChangeShapes Go.WideShapes Go.ChangeAt
section
variable {H : Type} {enc : TypeId × Value → H} {P : Program} {W W' : World}
end
end Go.Proofs.YtnpgcmeclkncnaaGreatDoor.X
/- The program logic's rules: contracts of the library, said of worlds, as calls of the logic. No condition. -/
set_option linter.unusedVariables false
namespace Go.Proofs.YtnpgcmeclkncnaaGreatDoor.X
open Go Go.RowKit
/-- A call that leaves all that was there as it was, and answers with what is known of. -/
theorem Pure.of_calls {P : Program} {f : FuncId} {args : List AV} {r : AV}
    (h : ∀ G w cargs, gok w → gN ≤ w.heap.size → KnOK G w → VL G cargs args → Calls P f cargs w fun e w' => ∃ v, e = .returned v ∧ V G v r ∧ Below w.heap.size w w') : Pure P f args r := by
  intro H G w cargs hg hk hH hV
  refine (h G w cargs hg.1 hg.2.1 hk hV).mono ?_
  rintro e w' ⟨v, he, hv, hb⟩
  obtain ⟨h1, h2⟩ := hH.stay (G' := G) (Gh.le.refl G) rfl (fun b hb' o => (hH.foot hb').2 o) (fun b hb' => hb.block b (hH.foot hb').1) hb.size
  refine ⟨v, G, he, hv, ⟨fun _ _ _ _ => rfl, fun _ _ h => h, fun _ _ h => .inl h⟩, fun b o u e2 => ?_, h1, ⟨hb.os, hb.tape, hb.output, hb.size, fun k hk' _ => hb.block k hk'⟩, fun b hb' => .inr ((h2 b).1 hb')⟩
  rw [World.cell?_of_block (w := w) (hb.block b (hk.lt e2))]
  exact hk b o u e2
theorem VL.one {G : Gh} {c : Array Value} {a : AV} (h : VL G c [a]) : ∃ x, c = #[x] ∧ V G x a := by
  obtain ⟨h1, h2⟩ := h
  obtain ⟨l⟩ := c
  match l, h1 with
  | [x], _ => exact ⟨x, rfl, h2 0 a rfl⟩
theorem V.str_eq {G : Gh} {v : Value} {s : List UInt8} (h : V G v (.str s)) : v = .string ⟨s.toArray⟩ := by cases h; rfl
theorem V.int_eq {G : Gh} {v : Value} {k : IntKind} {n : Int} (h : V G v (.int k n)) : v = .int k n := by cases h; rfl
section
variable {P : Program} {N : Nat} {s : St} {d : Nat} {ty : TypeId} {pos : String} {af : Array Edge} {g : Option (Nat × Bool)}
end
end Go.Proofs.YtnpgcmeclkncnaaGreatDoor.X
/- The law frame: whatever comes in of plain types, opened at once. No condition. -/
set_option linter.unusedVariables false
namespace Go.Proofs.YtnpgcmeclkncnaaGreatDoor.X
open Go Go.RowKit Go.ChangeShapes Go.WideShapes Go.ChangeAt
/-- The value of a type that has such cells. -/
def pack (P : Program) (t : TypeId) (cs : List AV) : AV :=
  match P.underlying t with
  | some (.struct _) | some (.array _ _) => .agg cs
  | _ => cs.headD .junk
def TyF (P : Program) (R : TypeId → List AV → Prop) : List TypeId → List AV → Prop
  | [], cs => cs = []
  | t :: ts, cs => ∃ a b, cs = a ++ b ∧ a.length = P.cellsOf t ∧ R t a ∧ TyF P R ts b
/-- Cells of a value of a plain type, so deep. -/
def Ty (P : Program) : Nat → TypeId → List AV → Prop
  | 0, _, _ => False
  | n + 1, t, cs =>
    match P.underlying t with
    | some .bool => ∃ b, cs = [.bool b]
    | some (.int k) => ∃ m, cs = [.int k m] ∧ (Lit.int k m).wf = true
    | some .string => ∃ s : List UInt8, cs = [.str s] ∧ s.length ≤ reachBytes
    | some (.slice e) => ∃ css : List (List AV), cs = [.sl (css.map (pack P e))] ∧ css.length * P.bytesOf e ≤ reachBytes ∧ ∀ c ∈ css, Ty P n e c
    | some (.struct fs) => TyF P (Ty P n) (fs.toList.map (·.type)) cs
    | some (.array m e) => TyF P (Ty P n) (List.replicate m e) cs
    | _ => False
/-- Fields lie one behind the other. -/
def tiles (P : Program) : List Field → Nat → Nat → Bool
  | [], o, n => o == n
  | f :: fs, o, n => f.offset == o && tiles P fs (o + P.cellsOf f.type) n
def plainT (P : Program) (S : List TypeId) (t : TypeId) : Bool :=
  match P.underlying t with
  | some .bool | some (.int _) | some .string => P.cellsOf t == 1
  | some (.slice e) => P.cellsOf t == 1 && S.contains e && decide (0 < P.cellsOf e)
  | some (.struct fs) => (fs.toList.all fun f => S.contains f.type) && tiles P fs.toList 0 (P.cellsOf t)
  | some (.array n e) => S.contains e && P.cellsOf t == n * P.cellsOf e
  | _ => false
section
variable {H : Type} {enc : TypeId × Value → H} {P : Program} {W : World}
def Stands (W : World) (cs : List Value) (acs : List AV) : Prop := acs.length = cs.length ∧ ∀ (j : Nat) c, acs[j]? = some c → c.flat = true ∧ V (gh0 W) (cs.getD j undef) c
theorem Stands.one {v : Value} {a : AV} (hf : a.flat = true) (h : V (gh0 W) v a) : Stands W [v] [a] :=
  ⟨rfl, fun j c hc => by
    match j, hc with
    | 0, hc => cases hc; exact ⟨hf, h⟩⟩
theorem Stands.app {a b : List Value} {x y : List AV} (h1 : Stands W a x) (h2 : Stands W b y) : Stands W (a ++ b) (x ++ y) := by
  refine ⟨by simp [h1.1, h2.1], fun j c hc => ?_⟩
  by_cases hj : j < x.length
  · rw [List.getElem?_append_left hj] at hc
    have := h1.2 j c hc
    rwa [List.getD_eq_getElem?_getD, List.getElem?_append_left (by rw [← h1.1]; exact hj), ← List.getD_eq_getElem?_getD]
  · rw [List.getElem?_append_right (by omega)] at hc
    have := h2.2 _ c hc
    rwa [List.getD_eq_getElem?_getD, List.getElem?_append_right (by rw [← h1.1]; omega), ← List.getD_eq_getElem?_getD, ← h1.1]
theorem pack_cells {S : List TypeId} {t : TypeId} {cs : List Value} {acs : List AV} (h : Stands W cs acs) (hc : cs.length = P.cellsOf t) (hp : plainT P S t = true) : (pack P t acs).cells = acs ∧ ∀ vs, pack P t acs ≠ .tup vs := by
  unfold pack
  unfold plainT at hp
  split
  · exact ⟨rfl, fun _ h => by cases h⟩
  · exact ⟨rfl, fun _ h => by cases h⟩
  · have h1 : P.cellsOf t = 1 := by
      split at hp <;> simp_all
    obtain ⟨h2, h3⟩ := h
    match acs, h2 with
    | [a], _ =>
      have hf := (h3 0 a rfl).1
      exact ⟨AV.cells_flat hf, fun vs e => by simp at e; subst e; simp [AV.flat] at hf⟩
    | [], h2 => simp at h2; omega
    | _ :: _ :: _, h2 => simp at h2; omega
theorem weightsAll_mem {P : Program} {e : TypeId} : ∀ {l : List (DataW H)} {d : DataW H} {n : Nat}, d ∈ l → n ∈ d.weights P e → n ∈ DataW.weightsAll P e l
  | x :: l, d, n, hd, hn => by
    simp only [DataW.weightsAll, List.mem_append]
    rcases List.mem_cons.1 hd with rfl | hd
    · exact .inl hn
    · exact .inr (weightsAll_mem hd hn)
/-- WHATEVER COMES IN OF A PLAIN TYPE. -/
theorem open_trod (S : List TypeId) (hS : S.all (plainT P S) = true) : ∀ (n : Nat) (t : TypeId) (cs : List Value) (y : DataW H × List MemPlace), t ∈ S → DataW.trod enc P W 0 (fun _ => true) true n t cs = some y → (∀ k ∈ y.1.weights P t, k ≤ reachBytes) →
    cs.length = P.cellsOf t ∧ ∃ acs, Stands W cs acs ∧ Ty P n t acs
  | 0, _, _, _, _, h, _ => by simp [DataW.trod] at h
  | n + 1, t, cs, y, ht, h, hw => by
    have hp := List.all_eq_true.1 hS t ht
    have hp0 := hp
    unfold plainT at hp
    split at hp
    · rename_i hu
      obtain ⟨b, rfl, _⟩ := DataW.trod_bool hu h
      exact ⟨by simpa using (eq_of_beq hp).symm, [.bool b], Stands.one rfl (.bool b), by unfold Ty; rw [hu]; exact ⟨b, rfl⟩⟩
    · rename_i k hu
      obtain ⟨m, rfl, _, hwf⟩ := DataW.trod_int hu h
      exact ⟨by simpa using (eq_of_beq hp).symm, [.int k m], Stands.one rfl (.int k m), by unfold Ty; rw [hu]; exact ⟨m, rfl, hwf⟩⟩
    · rename_i hu
      obtain ⟨s, rfl, rfl, _⟩ := DataW.trod_string hu h
      have hw' : s.data.toList.length ≤ reachBytes := hw _ (by simp [DataW.weights])
      refine ⟨by simpa using (eq_of_beq hp).symm, [.str s.data.toList], Stands.one rfl ?_, by unfold Ty; rw [hu]; exact ⟨_, rfl, hw'⟩⟩
      have := V.str (G := gh0 W) s.data.toList
      rwa [← str_arr] at this
    · rename_i e hu
      simp only [Bool.and_eq_true, decide_eq_true_eq, List.contains_iff_mem] at hp
      obtain ⟨⟨hp1, hp2⟩, hp3⟩ := hp
      rcases DataW.trod_slice hu h with ⟨rfl, _⟩ | ⟨a, len, cap, elems, rest, n', hn, rfl, hy, _, hl, hm, hlen, hel, _, _⟩
      · exact ⟨by simpa using (eq_of_beq hp1).symm, [.sl []], Stands.one rfl (.slE _ _), by unfold Ty; rw [hu]; exact ⟨[], rfl, by simp, by simp⟩⟩
      · cases hn
        rw [hy] at hw
        simp only [DataW.weights, hu] at hw
        have hwl := hw _ (List.mem_cons_self ..)
        have each : ∀ i, i < len → ∃ q : List AV × List Value, q.2.length = P.cellsOf e ∧ Stands W q.2 q.1 ∧ Ty P n e q.1 ∧ ∀ j, j < P.cellsOf e → W.cell? ((a.add (i * P.cellsOf e)).add j) = q.2[j]? := by
          intro i hi
          have h1 := hel i hi
          rw [List.getElem?_eq_getElem (by omega)] at h1
          obtain ⟨cs', h2, h3⟩ := Option.bind_eq_some_iff.1 h1
          obtain ⟨_, h4, h5⟩ := World.cells?_some h2
          obtain ⟨_, acs, h6, h7⟩ := open_trod S hS n e cs' _ hp2 h3 (fun k hk => hw k (List.mem_cons_of_mem _ (List.mem_append.2 (.inl (weightsAll_mem (List.mem_map.2 ⟨_, List.getElem_mem (show i < elems.length by omega), rfl⟩) hk)))))
          exact ⟨(acs, cs'), h4, h6, h7, h5⟩
        obtain ⟨q, hq⟩ : ∃ q : Nat → List AV × List Value, ∀ i, i < len → (q i).2.length = P.cellsOf e ∧ Stands W (q i).2 (q i).1 ∧ Ty P n e (q i).1 ∧ ∀ j, j < P.cellsOf e → W.cell? ((a.add (i * P.cellsOf e)).add j) = (q i).2[j]? :=
          ⟨fun i => if h : i < len then (each i h).choose else ([], []), fun i hi => by simp only [dif_pos hi]; exact (each i hi).choose_spec⟩
        let css : List (List AV) := (List.range len).map fun i => (q i).1
        let l : List AV := css.map (pack P e)
        have hll : l.length = len := by simp [l, css]
        have hg : ∀ (i : Nat) x, l[i]? = some x → i < len ∧ x = pack P e (q i).1 := by
          intro i x hx
          have hi : i < len := by have := (List.getElem?_eq_some_iff.1 hx).1; omega
          simp only [l, css, List.map_map, List.getElem?_map, List.getElem?_range hi, Option.map_some, Function.comp] at hx
          cases hx; exact ⟨hi, rfl⟩
        have hpk : ∀ i, i < len → (pack P e (q i).1).cells = (q i).1 := fun i hi => (pack_cells (hq i hi).2.1 (hq i hi).1 (List.all_eq_true.1 hS e hp2)).1
        refine ⟨by simpa using (eq_of_beq hp1).symm, [.sl l], Stands.one rfl ?_, ?_⟩
        · by_cases h0 : len = 0
          · have : l = [] := List.length_eq_zero_iff.1 (by omega)
            rw [this, h0]; exact .slE _ _
          · have hsp : a.spot = none := by
              obtain ⟨h1, h2, _, h4⟩ := hq 0 (by omega)
              have := h4 0 hp3
              rw [List.getElem?_eq_getElem (by omega)] at this
              have := cell_spot this
              simpa [Addr.add] using this
            obtain ⟨b, o, sp⟩ := a
            simp only at hsp
            subst hsp
            have key : V (gh0 W) (.slice (some ⟨b, o, none⟩) l.length cap) (.sl l) := by
              refine V.slN b o cap (P.cellsOf e) l (fun i j => (q i).2.getD j undef) (by omega) ?_ ?_ ?_ ?_
              · intro i x hx
                obtain ⟨hi, rfl⟩ := hg i x hx
                rw [hpk i hi, (hq i hi).2.1.1, (hq i hi).1]
              · intro i x j c hx hj
                obtain ⟨hi, rfl⟩ := hg i x hx
                rw [hpk i hi] at hj
                have hj' : j < P.cellsOf e := by have := (List.getElem?_eq_some_iff.1 hj).1; rw [(hq i hi).2.1.1, (hq i hi).1] at this; exact this
                have := (hq i hi).2.2.2 j hj'
                rw [Addr.add_lit, Addr.add_lit] at this
                rw [List.getElem?_eq_getElem (by rw [(hq i hi).1]; exact hj')] at this
                rw [List.getD_eq_getElem?_getD, List.getElem?_eq_getElem (by rw [(hq i hi).1]; exact hj')]
                simpa [gh0] using this
              · intro i x j c hx hj
                obtain ⟨hi, rfl⟩ := hg i x hx
                rw [hpk i hi] at hj
                exact ((hq i hi).2.1.2 j c hj).1
              · intro i x j c hx hj
                obtain ⟨hi, rfl⟩ := hg i x hx
                rw [hpk i hi] at hj
                exact ((hq i hi).2.1.2 j c hj).2
            rw [hll] at key
            exact key
        · unfold Ty
          rw [hu]
          refine ⟨css, rfl, ?_, fun c hc => ?_⟩
          · have hcl : css.length = len := by simp [css]
            rw [hcl]
            refine Nat.le_trans (Nat.mul_le_mul_right _ ?_) hwl
            rw [List.length_map, List.length_map, hlen]; omega
          obtain ⟨i, hi, rfl⟩ := List.mem_map.1 hc
          exact (hq i (by simpa using hi)).2.2.1
    · rename_i fs hu
      simp only [Bool.and_eq_true, List.all_eq_true, List.contains_iff_mem] at hp
      obtain ⟨hp1, hp2⟩ := hp
      obtain ⟨xs, n', hn, hy, hl, hlen, hf⟩ := DataW.trod_struct hu h
      cases hn
      rw [hy] at hw
      simp only [DataW.weights, hu] at hw
      have key : ∀ (l : List Field) (o : Nat) (cs : List Value), (∀ f ∈ l, f.type ∈ S) → tiles P l o (o + cs.length) = true → (∀ f ∈ l, o ≤ f.offset → ∃ y, DataW.trod enc P W 0 (fun _ => true) true n f.type ((cs.drop (f.offset - o)).take (P.cellsOf f.type)) = some y ∧ ∀ k ∈ y.1.weights P f.type, k ≤ reachBytes) →
          ∃ acs, Stands W cs acs ∧ TyF P (Ty P n) (l.map (·.type)) acs := by
        intro l
        induction l with
        | nil =>
          intro o cs _ ht _
          have : cs = [] := List.length_eq_zero_iff.1 (by simp only [tiles, beq_iff_eq] at ht; omega)
          subst this
          exact ⟨[], ⟨rfl, by simp⟩, rfl⟩
        | cons f l ih =>
          intro o cs hin ht hx
          simp only [tiles, Bool.and_eq_true, beq_iff_eq] at ht
          obtain ⟨ho, ht⟩ := ht
          obtain ⟨y, hy, hyw⟩ := hx f (by simp) (by omega)
          rw [ho, Nat.sub_self, List.drop_zero] at hy
          obtain ⟨h1, a, h2, h3⟩ := open_trod S hS n f.type _ y (hin f (by simp)) hy hyw
          rw [List.length_take] at h1
          have hle : ∀ (l : List Field) (o m : Nat), tiles P l o m = true → (∀ g ∈ l, o ≤ g.offset) := by
            intro l
            induction l with
            | nil => intro o m _ g hg; cases hg
            | cons g' l ih2 =>
              intro o m hm g hg
              simp only [tiles, Bool.and_eq_true, beq_iff_eq] at hm
              rcases List.mem_cons.1 hg with rfl | hg
              · omega
              · have := ih2 _ _ hm.2 g hg; omega
          obtain ⟨b, h4, h5⟩ := ih (o + P.cellsOf f.type) (cs.drop (P.cellsOf f.type)) (fun g hg => hin g (by simp [hg])) (by rw [List.length_drop, show o + P.cellsOf f.type + (cs.length - P.cellsOf f.type) = o + cs.length by omega]; exact ht) (fun g hg hog => by
            obtain ⟨y2, hy2, hyw2⟩ := hx g (by simp [hg]) (by omega)
            refine ⟨y2, ?_, hyw2⟩
            rw [List.drop_drop, show P.cellsOf f.type + (g.offset - (o + P.cellsOf f.type)) = g.offset - o by omega]
            exact hy2)
          refine ⟨a ++ b, ?_, a, b, rfl, by rw [h2.1, List.length_take]; exact h1, h3, h5⟩
          have := h2.app h4
          rwa [List.take_append_drop] at this
      refine ⟨hl, ?_⟩
      obtain ⟨acs, h1, h2⟩ := key fs.toList 0 cs (fun f hf => hp1 f hf) (by rw [Nat.zero_add, hl]; exact hp2) (fun f hf' _ => by
        obtain ⟨i, hi⟩ := List.mem_iff_getElem?.1 hf'
        have hi' : fs[i]? = some f := by simpa using hi
        have h3 := hf i f hi'
        have hlt : i < xs.length := by rw [hlen]; exact (Array.getElem?_eq_some_iff.1 hi').1
        refine ⟨xs[i], by rw [Nat.sub_zero, h3, List.getElem?_eq_getElem hlt], fun k hk => hw k (DataW.weights_mem_each (j := i) (t := f.type) (d := xs[i].1) ?_ ?_ k hk)⟩
        · rw [List.getElem?_map, hi]; rfl
        · rw [List.getElem?_map, List.getElem?_eq_getElem hlt]; rfl)
      exact ⟨acs, h1, by unfold Ty; rw [hu]; exact h2⟩
    · rename_i m e hu
      simp only [Bool.and_eq_true, List.contains_iff_mem, beq_iff_eq] at hp
      obtain ⟨hp1, hp2⟩ := hp
      obtain ⟨xs, n', hn, hy, hl, hlen, hf⟩ := DataW.trod_array hu h
      cases hn
      rw [hy] at hw
      simp only [DataW.weights, hu] at hw
      have key : ∀ (k : Nat) (cs : List Value), cs.length = k * P.cellsOf e → (∀ i, i < k → ∃ y, DataW.trod enc P W 0 (fun _ => true) true n e ((cs.drop (i * P.cellsOf e)).take (P.cellsOf e)) = some y ∧ ∀ k ∈ y.1.weights P e, k ≤ reachBytes) →
          ∃ acs, Stands W cs acs ∧ TyF P (Ty P n) (List.replicate k e) acs := by
        intro k
        induction k with
        | zero =>
          intro cs hc _
          have : cs = [] := List.length_eq_zero_iff.1 (by omega)
          subst this
          exact ⟨[], ⟨rfl, by simp⟩, rfl⟩
        | succ k ih =>
          intro cs hc hx
          obtain ⟨y, hy, hyw⟩ := hx 0 (by omega)
          rw [Nat.zero_mul, List.drop_zero] at hy
          obtain ⟨h1, a, h2, h3⟩ := open_trod S hS n e _ y hp1 hy hyw
          obtain ⟨b, h4, h5⟩ := ih (cs.drop (P.cellsOf e)) (by rw [List.length_drop, hc, Nat.succ_mul]; omega) (fun i hi => by
            obtain ⟨y2, hy2, hyw2⟩ := hx (i + 1) (by omega)
            refine ⟨y2, ?_, hyw2⟩
            rw [List.drop_drop, show P.cellsOf e + i * P.cellsOf e = (i + 1) * P.cellsOf e by rw [Nat.succ_mul]; omega]
            exact hy2)
          refine ⟨a ++ b, ?_, a, b, rfl, by rw [h2.1]; exact h1, h3, h5⟩
          have := h2.app h4
          rwa [List.take_append_drop] at this
      obtain ⟨acs, h1, h2⟩ := key m cs (by rw [hl]; exact hp2) (fun i hi => by
        have h3 := hf i hi
        exact ⟨xs[i], by rw [h3, List.getElem?_eq_getElem (by omega)], fun k hk => hw k (weightsAll_mem (List.mem_map.2 ⟨_, List.getElem_mem (show i < xs.length by omega), rfl⟩) hk)⟩)
      exact ⟨hl, acs, h1, by unfold Ty; rw [hu]; exact h2⟩
    · cases hp
/-- .. as an argument. -/
theorem open_arg (S : List TypeId) (hS : S.all (plainT P S) = true) {r : Reach} {b0 : Nat} {t : TypeId} {v : Value} {d : DataW H} {ps : List MemPlace} (ht : t ∈ S) (hval : Value.okWide P W r b0 t v)
    (hd : DataW.Trod enc P W 0 (fun _ => true) true t v d ps) (hw : ∀ k ∈ d.weights P t, k ≤ reachBytes) : ∃ acs n, V (gh0 W) v (pack P t acs) ∧ Ty P n t acs := by
  obtain ⟨n, hd⟩ := hd
  obtain ⟨hl, acs, h1, h2⟩ := open_trod S hS n t _ _ ht hd hw
  refine ⟨acs, n, ?_, h2⟩
  have hp := List.all_eq_true.1 hS t ht
  have agg : ∀ cs, v = .agg cs → V (gh0 W) v (.agg acs) := by
    rintro cs rfl
    exact .agg cs acs (by have := h1.1; simpa [Value.cells] using this.symm) (fun j c hc => (h1.2 j c hc).1) fun j c hc => by
      have := (h1.2 j c hc).2
      simpa [Value.cells, List.getD_eq_getElem?_getD] using this
  unfold pack
  split
  · rename_i fs hu
    obtain ⟨cs, rfl, _⟩ := okWide_struct hu hval
    exact agg cs rfl
  · rename_i m e hu
    have : ∃ cs, v = .agg cs := by unfold Value.okWide at hval; rw [hu] at hval; obtain ⟨cs, h, _⟩ := hval; exact ⟨cs, h⟩
    obtain ⟨cs, rfl⟩ := this
    exact agg cs rfl
  · rename_i hn1 hn2
    have hone : ∀ u, v.cells.toList = [u] → u = v → V (gh0 W) v (acs.headD .junk) := by
      intro u hu e
      subst e
      obtain ⟨h3, h4⟩ := h1
      rw [hu] at h3 h4
      match acs, h3 with
      | [a], _ => exact (h4 0 a rfl).2
    unfold plainT at hp
    split at hp
    · rename_i hu
      obtain ⟨b, h3, _⟩ := DataW.trod_bool hu hd
      refine hone _ h3 ?_
      cases v <;> simp_all [Value.cells]
      all_goals first | (rename_i x; obtain ⟨l⟩ := x; simp_all [Value.okWide]; done) | skip
      all_goals (unfold Value.okWide at hval; rw [hu] at hval; simp [Cell.okWide, hu, Cell.ok] at hval)
    · rename_i k hu
      obtain ⟨m, h3, _⟩ := DataW.trod_int hu hd
      refine hone _ h3 ?_
      cases v <;> simp_all [Value.cells]
      all_goals (unfold Value.okWide at hval; rw [hu] at hval; simp [Cell.okWide, hu, Cell.ok] at hval)
    · rename_i hu
      obtain ⟨s, rfl⟩ := okWide_string hu hval
      exact hone _ rfl rfl
    · rename_i e hu
      obtain ⟨a, len, cap, rfl⟩ := okWide_slice hu hval
      exact hone _ rfl rfl
    · rename_i fs hu; exact absurd hu (hn1 fs)
    · rename_i m e hu; exact absurd hu (hn2 m e)
    · cases hp
end
end Go.Proofs.YtnpgcmeclkncnaaGreatDoor.X
/- The program logic's rules: loops that change a few slots; what a loop over a slice is told by. No condition. -/
set_option linter.unusedVariables false
set_option linter.unusedSimpArgs false
namespace Go.Proofs.YtnpgcmeclkncnaaGreatDoor.X
open Go Go.RowKit
section
variable {P : Program} {N : Nat} {s : St} {Q : Exit → St → Prop}
/-- A LOOP that changes what 'upd' tells, and leaves 'rest'. -/
theorem Tri.loopk {c : Code} {α : Type} (upd : α → St) (rest : St) (I : α → Prop) (m : α → Nat) (a0 : α) (hs : s = upd a0 ++ rest) (h0 : I a0)
    (hb : ∀ a, I a → Tri P N c (upd a ++ rest) fun e s' => match e with | .normal => ∃ b, m b < m a ∧ I b ∧ s' = upd b ++ rest | e => Q e s') : Tri P N (.loop c) s Q := by
  refine Tri.loop (fun n t => ∃ a, m a = n ∧ I a ∧ t = upd a ++ rest) ?_ (n := m a0) ⟨a0, rfl, h0, hs⟩
  rintro n t ⟨a, rfl, ha, rfl⟩
  refine (hb a ha).mono fun e s' h => ?_
  cases e with
  | normal => obtain ⟨b, h1, h2, h3⟩ := h; exact ⟨m b, h1, b, rfl, h2, h3⟩
  | _ => exact h
/-- WAYS MEET: behind them the slots that 'upd' tells, the rest as it was. -/
theorem Tri.joinu {c d : Code} {α : Type} (cs : List Comp) (upd : α → St) (F : α → Prop) {rest : St} (hr : X.keep cs s cs = some rest) (h1 : Tri P N c s fun e s' => match e with | .normal => ∃ a, F a ∧ s' = upd a ++ rest | e => Q e s')
    (h2 : ∀ a, F a → Tri P N d (upd a ++ rest) Q) : Tri P N (.seq c d) s Q :=
  Tri.join (fun s' => ∃ a, F a ∧ s' = upd a ++ rest) h1 fun s' ⟨a, ha, e⟩ => e ▸ h2 a ha
/-- a slot's number, told in another way -/
theorem Kept.seti {Q : St → Prop} (n : Nat) {k : IntKind} {v v' : Int} (h : get s (.s n) = some (.sv (.v (.int k v)))) (e : v = v') (hq : Kept ((.s n, .sv (.v (.int k v'))) :: s) Q) : Kept s Q := fun E N a w ⟨G, L, hr⟩ => by
  subst e
  refine hq E N a w ⟨G, L, hr.ext fun c => ?_⟩
  simp only [get]
  split
  · rename_i hc; subst hc; exact h.symm
  · rfl
/-- the objects, told in another way -/
theorem Kept.seth {Q : St → Prop} {H H' : Hp} (h : get s .h = some (.hp H)) (e : H = H') (hq : Kept ((.h, .hp H') :: s) Q) : Kept s Q := fun E N a w ⟨G, L, hr⟩ => by
  subst e
  refine hq E N a w ⟨G, L, hr.ext fun c => ?_⟩
  simp only [get]
  split
  · rename_i hc; subst hc; exact h.symm
  · rfl
end
theorem TriD.g3 {P : Program} {N : Nat} {ops : Array Oper} {l : List Oper} {s : St} {Q : St → Prop} {o : Oper} {R : List Comp} {A : List (List Nat)} {acc : List (List Comp × St)} {c c' c2 : Comp} {v u y : CV} {d : Nat} {b b' : Bool} (hg : gslot ops o = some (d, b)) (hN : d < N) (hc : get s (.s d) = some (.sv (.v (.bool b')))) (hb : b' = b) (ho : OpOK P N o s R [(c, v), (c', u), (c2, y)]) (h : TriD P N ops A Q (acc ++ [(.s d :: R, [(c, v), (c', u), (c2, y)])]) l ((c, v) :: (c', u) :: (c2, y) :: s)) : TriD P N ops A Q acc (o :: l) s := TriD.cons (StepOK.on hN hg (hb ▸ hc) ho) h
theorem fdiv_nat (a k : Nat) : ((a : Nat) : Int).fdiv (2 ^ k) = ((a / 2 ^ k : Nat) : Int) := by
  rw [Int.fdiv_eq_ediv_of_nonneg _ (by exact Int.le_of_lt (Int.pow_pos (by decide)))]
  norm_cast
section
variable {P : Program} {N : Nat} {s : St} {d : Nat} {ty : TypeId} {pos : String} {af : Array Edge} {g : Option (Nat × Bool)}
/-- a >> b of a number that is none below nought -/
theorem op_shr {t1 t2 : TypeId} {x y : Operand} {k k' : IntKind} {a : Nat} {b : Int} (hN : d < N) (hx : opv x s = some (.int k (a : Int))) (hy : opv y s = some (.int k' b)) (hb : 0 ≤ b) :
    OpOK P N ⟨some d, .binOp .shr t1 x y t2, ty, pos, af, g⟩ s (rd x ++ rd y) [(.s d, .sv (.v (.int k ((a / 2 ^ (min b.toNat k.bits) : Nat) : Int))))] :=
  op_bin hN hx hy (by
    show (if b < 0 then none else some (AV.int k (((a : Nat) : Int).fdiv (2 ^ (min b.toNat k.bits))))) = _
    rw [if_neg (by omega), fdiv_nat])
theorem op_maxi {ts : Array TypeId} {x y : Operand} {k k' : IntKind} {m n : Int} (hN : d < N) (hx : opv x s = some (.int k m)) (hy : opv y s = some (.int k' n)) :
    OpOK P N ⟨some d, .call { callee := .builtin .max, args := #[x, y], argTypes := ts }, ty, pos, af, g⟩ s (rd x ++ rd y) [(.s d, .sv (.v (.int k (if n > m then n else m))))] :=
  OpOK.val rfl hN fun _ G _ a w _ hr hR => by
    refine ⟨.int k (if n > m then n else m), ?_, .int _ _⟩
    have h1 := (opv_sound hr hR.left hx).int_eq
    have h2 := (opv_sound hr hR.right hy).int_eq
    simp [execOp, resolve, invoke, builtin, h1, h2, run_max_int2]
end
theorem Hp.set_set {H : Hp} {id : Nat} {a b : List Hc} : (H.set id a).set id b = H.set id b := by
  simp only [Hp.set]
  congr 1
  funext i
  split <;> rfl
theorem Hp.set_obj {H : Hp} {id : Nat} {hs : List Hc} : (H.set id hs).obj id = some hs := by simp [Hp.set]
theorem Hp.set_same {H : Hp} {id : Nat} {hs : List Hc} (h : H.obj id = some hs) : H.set id hs = H := by
  obtain ⟨n, o⟩ := H
  simp only [Hp.set]
  congr 1
  funext i
  split
  · rename_i e; subst e; exact h.symm
  · rfl
theorem Hp.del_set (H : Hp) (id : Nat) (hs : List Hc) : (H.del id).set id hs = H.set id hs := by
  simp only [Hp.del, Hp.set]
  congr 1
  funext i
  split <;> rfl
theorem inc {n : Nat} (h : n < 9223372036854775807) : IntKind.i64.wrap ((n : Int) + 1) = ((n + 1 : Nat) : Int) := by
  simp only [IntKind.wrap, IntKind.bits, IntKind.signed]; simp; omega
theorem ltm {α β : Type} {f : α → β} {xs : List α} {i : Nat} (h : decide ((i : Int) < ((xs.map f).length : Int)) = true) : i < xs.length := by
  have := of_decide_eq_true h; rw [List.length_map] at this; omega
theorem gem {α β : Type} {f : α → β} {xs : List α} {i : Nat} (h : decide ((i : Int) < ((xs.map f).length : Int)) = false) : xs.length ≤ i := by
  have := of_decide_eq_false h; rw [List.length_map] at this; omega
theorem ixm {α β : Type} {f : α → β} {xs : List α} {i : Nat} (h : i < xs.length) : (xs.map f)[((i : Nat) : Int).toNat]? = some (f xs[i]) := by
  simp [h]
theorem lts {xs : List UInt8} {i : Nat} (h : decide ((i : Int) < (xs.length : Int)) = true) : i < xs.length := by
  have := of_decide_eq_true h; omega
theorem ges {xs : List UInt8} {i : Nat} (h : decide ((i : Int) < (xs.length : Int)) = false) : xs.length ≤ i := by
  have := of_decide_eq_false h; omega
theorem ixs {xs : List UInt8} {i : Nat} (h : i < xs.length) : xs[((i : Nat) : Int).toNat]? = some xs[i] := by
  simp [h]
theorem ltz {i n : Nat} (h : decide ((i : Int) < (n : Int)) = true) : i < n := by
  have := of_decide_eq_true h; omega
theorem gez {i n : Nat} (h : decide ((i : Int) < (n : Int)) = false) : n ≤ i := by
  have := of_decide_eq_false h; omega
theorem ixm1 {α β : Type} {f : α → β} {xs : List α} {i : Nat} {j : Int} (hj : j = (i : Int)) (h : i < xs.length) : (xs.map f)[j.toNat]? = some (f xs[i]) := by
  subst hj; simp [h]
theorem dec1 {i : Nat} (h : 0 < i) (h2 : i ≤ 9223372036854775807) : IntKind.i64.wrap ((i : Int) - 1) = ((i - 1 : Nat) : Int) := by
  simp only [IntKind.wrap, IntKind.bits, IntKind.signed]; simp; omega
end Go.Proofs.YtnpgcmeclkncnaaGreatDoor.X
/- The program logic's rules: a local box is known for ever from now on; maps of one's own. No condition. -/
set_option linter.unusedVariables false
set_option linter.unusedSimpArgs false
namespace Go.Proofs.YtnpgcmeclkncnaaGreatDoor.X
open Go Go.RowKit
section
variable {N : Nat} {s : St}
def fzbSv (k : Nat) (cs : List AV) : Sv → Sv
  | .lp j o => if j = k then .v (.kp (cs.drop o)) else .lp j o
  | x => x
def fzbCV (k : Nat) (cs : List AV) : CV → CV
  | .sv x => .sv (fzbSv k cs x)
  | v => v
/-- the slots that point into a box that is written no more -/
def fzb (k : Nat) (cs : List AV) : St → St
  | [] => []
  | (c, v) :: s => (c, (if c = .b k then .gone else fzbCV k cs v)) :: fzb k cs s
theorem get_fzb {k : Nat} {cs : List AV} : ∀ {s : St} (c : Comp), get (fzb k cs s) c = (get s c).map (fun v => if c = .b k then .gone else fzbCV k cs v)
  | [], c => by simp [fzb, get]
  | (d, v) :: s, c => by
    simp only [fzb, get]
    split
    · rename_i e; subst e; rfl
    · exact get_fzb c
theorem Rel.fzb {E : Ent} {G : Gh} {L : Loc} {a : Act} {w : World} (h : Rel E N G L a w s) {k : Nat} {l : List Sv} {cs : List AV} (hk : get s (.b k) = some (.bx l)) (hcs : svavs l = some cs) : ∃ G', Rel E N G' L a w (fzb k cs s) := by
  obtain ⟨blk, o, hb, hbase, hh, ⟨arr, el, rfl, hsz, hc⟩, hno, _⟩ := h.box k _ hk rfl
  have hmine : owns s L (.b k) blk := ⟨⟨_, hk, rfl⟩, hb⟩
  obtain ⟨hl1, hl2⟩ := svavs_get hcs
  let G' := G.add blk arr.toList
  have hle : G.le G' := Gh.add_le (fun o v e => by rw [hno o] at e; cases e)
  have hcell : ∀ (j : Nat) c, cs[j]? = some c → c.flat = true ∧ V G (arr.getD j undef) c := fun j c e => by
    obtain ⟨y, hy, hav⟩ := hl2 j c e
    exact ⟨av_flat (hc j y hy).1 hav, (hc j y hy).2.av hav⟩
  have hkn2 : ∀ c j, c ≠ blk → G'.kn c j = G.kn c j := fun c j e => by simp [G', Gh.add, e]
  have hg := fun c => get_fzb (k := k) (cs := cs) (s := s) c
  have hsv : ∀ v x, SV G L v x → SV G' L v (fzbSv k cs x) := by
    intro v x hv
    cases x with
    | lp j n =>
      simp only [fzbSv]
      split
      · rename_i e; subst e
        obtain ⟨b2, h1, rfl⟩ := hv
        rw [hb] at h1; cases h1
        refine V.kp blk n (cs.drop n) (fun j => arr.getD (n + j) undef) (fun j c e => ?_) (fun j c e => ?_) (fun j c e => ?_)
        · rw [List.getElem?_drop] at e
          have hlt : n + j < arr.size := by have := (List.getElem?_eq_some_iff.1 e).1; omega
          rw [add_kn, Array.getElem?_toList, Array.getElem?_eq_getElem hlt, Array.getD_eq_getD_getElem?, Array.getElem?_eq_getElem hlt]; rfl
        · rw [List.getElem?_drop] at e; exact (hcell _ c e).1
        · rw [List.getElem?_drop] at e; exact ((hcell _ c e).2).mono hle
      · exact hv
    | v a => exact SV.mono hle hv
    | mv j o => exact hv
    | ow j ys => exact SV.mono hle hv
    | om j n => exact hv
    | ov j z l n => exact hv
    | ta j o => exact hv
    | mp j => exact hv
    | cd g b a => exact SV.mono hle hv
  have hlive : ∀ v, (fzbCV k cs v).live = v.live := by intro v; cases v <;> rfl
  have hown : ∀ c b, owns (X.fzb k cs s) L c b → c ≠ .b k ∧ owns s L c b := by
    intro c b hc
    cases c with
    | b j =>
      obtain ⟨⟨cv, g, hl⟩, hb'⟩ := hc
      rw [hg] at g
      obtain ⟨v, q1, q2⟩ := Option.map_eq_some_iff.1 g
      split at q2
      · subst q2; cases hl
      · rename_i e
        subst q2
        exact ⟨e, ⟨v, q1, by rw [← hlive]; exact hl⟩, hb'⟩
    | t j =>
      obtain ⟨⟨m, el, esz, ys, g⟩, v, hv, hb'⟩ := hc
      rw [hg] at g
      obtain ⟨v2, q1, q2⟩ := Option.map_eq_some_iff.1 g
      simp only [reduceCtorEq, if_false] at q2
      have hv2 : v2 = .tk m el esz ys := by cases v2 <;> simp [fzbCV] at q2 <;> first | exact q2 | (obtain ⟨rfl, rfl, rfl, rfl⟩ := q2; rfl)
      subst hv2
      exact ⟨by simp, ⟨_, _, _, _, q1⟩, v, hv, hb'⟩
    | s n => exact hc.elim
    | h => exact hc.elim
  have hneb : ∀ c b, owns (X.fzb k cs s) L c b → b ≠ blk := by
    rintro c b hc rfl
    obtain ⟨h1, h2⟩ := hown c _ hc
    exact h1 (h.disj c (.b k) _ h2 hmine)
  obtain ⟨H0, gH, hokH, hmayH⟩ := h.heap
  have hfb : ∀ c, foot G H0 w c → c ≠ blk := fun c hc e => h.hdisj _ _ hmine H0 gH (e ▸ hc)
  have hst := hokH.stay (w' := w) hle rfl (fun c hc o => (hkn2 c o (hfb c hc)).trans ((hokH.foot hc).2 o)) (fun c hc => rfl) (Nat.le_refl _)
  have hgh : ∀ H2, get (X.fzb k cs s) .h = some (.hp H2) → get s .h = some (.hp H2) := by
    intro H2 g2
    rw [hg] at g2
    obtain ⟨v, q1, q2⟩ := Option.map_eq_some_iff.1 g2
    simp only [reduceCtorEq, if_false] at q2
    have hv2 : v = .hp H2 := by cases v <;> simp [fzbCV] at q2; exact congrArg _ q2
    rw [hv2] at q1; exact q1
  refine ⟨G', h.size, h.defs, h.ge, ?_, ?_, h.obs, h.obn, h.fr, ?_, ?_, ?_, fun c d b hc hd => h.disj c d b (hown _ _ hc).2 (hown _ _ hd).2, ⟨H0, by rw [hg]; simp [gH, fzbCV], hst.1, fun b hb => hmayH b ((hst.2 b).1 hb)⟩, fun c b hc H2 g2 e2 => ?_, ?_, ?_⟩
  · intro b j v e
    by_cases eb : b = blk
    · subst eb
      rw [add_kn] at e
      rw [cell_of_row w b j arr el (0, 0) hh]
      simpa using e
    · rw [hkn2 b j eb] at e; exact h.kn b j v e
  · intro b j hlt hm
    rw [hkn2 b j (fun e => by
      subst e
      rcases hbase with e | e
      · omega
      · exact hm e)]
    exact h.old b j hlt hm
  · intro n x g
    rw [hg] at g
    obtain ⟨v, q1, q2⟩ := Option.map_eq_some_iff.1 g
    simp only [reduceCtorEq, if_false] at q2
    cases v <;> simp [fzbCV] at q2
    subst q2
    exact hsv _ _ (h.slot n _ q1)
  · intro j cv g hl
    rw [hg] at g
    obtain ⟨v, q1, q2⟩ := Option.map_eq_some_iff.1 g
    split at q2
    · subst q2; cases hl
    · rename_i e
      subst q2
      rw [hlive] at hl
      have hne : ∀ b2, L.box j = some b2 → b2 ≠ blk := by
        rintro b2 p1 rfl
        exact e (h.disj (.b j) (.b k) _ ⟨⟨v, q1, hl⟩, p1⟩ hmine)
      have e1 : fzbCV k cs v = v := by cases v <;> first | rfl | cases hl
      rw [e1]
      exact (h.box j v q1 hl).stay hle (fun _ _ e => .inl e) (fun _ _ => rfl) (fun b2 p1 o => hkn2 b2 o (hne b2 p1))
  · intro j m el' esz' ys g
    rw [hg] at g
    obtain ⟨v2, q1, q2⟩ := Option.map_eq_some_iff.1 g
    simp only [reduceCtorEq, if_false] at q2
    have hv2 : v2 = .tk m el' esz' ys := by cases v2 <;> simp [fzbCV] at q2 <;> first | exact q2 | (obtain ⟨rfl, rfl, rfl, rfl⟩ := q2; rfl)
    subst hv2
    refine (h.tok j m el' esz' ys q1).stay hle (fun _ _ e => .inl e) (fun _ _ _ _ => rfl) (fun v b2 hv hb2 o => hkn2 b2 o ?_)
    rintro rfl
    have := h.disj (.t j) (.b k) _ ⟨⟨_, _, _, _, q1⟩, v, hv, hb2⟩ hmine
    cases this
  · have := hgh H2 g2
    rw [gH] at this; cases this
    have e3 := (hst.2 b).1 e2
    exact h.hdisj c b (hown _ _ hc).2 _ gH e3
  · intro j g
    rw [hg] at g
    exact h.nobox j (by simpa using g)
  · intro j g
    rw [hg] at g
    exact h.notok j (by simpa using g)
theorem Kept.fzb {Q : St → Prop} (k : Nat) {l : List Sv} {cs : List AV} (hk : get s (.b k) = some (.bx l)) (hcs : svavs l = some cs) (h : Kept (X.fzb k cs s) Q) : Kept s Q := fun E N a w ⟨G, L, hr⟩ => by
  obtain ⟨G', hr'⟩ := hr.fzb hk hcs
  exact h E N a w ⟨G', L, hr'⟩
end
/-! ### arrays as values -/
section
variable {P : Program} {N : Nat} {s : St} {d : Nat} {ty : TypeId} {pos : String} {af : Array Edge} {g : Option (Nat × Bool)}
/-- An array type: how many elements, of which type, and how many cells one has. -/
def asz (P : Program) (t : TypeId) : Option (Nat × TypeId × Nat) :=
  match P.underlying t with
  | some (.array n e) => (P.info? e).map fun i => (n, e, i.size)
  | _ => none
theorem op_blda {t1 : TypeId} {ps : List (Nat × Operand)} {n sz : Nat} {e : TypeId} {zs : List AV} {qs : List (Nat × AV)} {r : List AV} (hN : d < N) (ht : asz P t1 = some (n, e, sz)) (hz : zeroA P t1 = some zs) (hq : opps ps s = some qs) (hf : afill (fun i => some (i * sz, sz)) zs qs = some r) :
    OpOK P N ⟨some d, .build t1 ps.toArray, ty, pos, af, g⟩ s (rds (ps.map (·.2))) [(.s d, .sv (.v (.agg r)))] :=
  OpOK.val rfl hN fun E G L a w t hr hR => by
    have hparts := opps_sound hr hR hq
    obtain ⟨i, z, hi, hzz, hrow0⟩ := zeroA_row hz
    have hrow := hrow0 G
    obtain ⟨arr', hfill, hrow'⟩ := fill_row hparts hrow hf
    unfold asz at ht
    split at ht
    · rename_i n' e' hu
      obtain ⟨ie, hie, e2⟩ := Option.map_eq_some_iff.1 ht
      cases e2
      refine ⟨.agg arr', ?_, V.agg _ _ hrow'.1 (fun j c e => (hrow'.2 j c e).1) (fun j c e => (hrow'.2 j c e).2)⟩
      have hfill' : Instr.fill (fun i => some (i * ie.size, ie.size)) z.cells (List.map (fun (x : Nat × Operand) => (x.1, a.eval x.2)) ps) = some arr' := by
        simpa using hfill
      simp only [execOp, Instr.build, Sem.run_bind, zeroValue, sizeOf, typeInfo, run_program, Result.andThen_ok, hi, hie, Sem.run_pure, hzz, run_underlying hu, List.map_toArray]
      rw [hfill']
      rfl
    · cases ht
theorem op_ixa {t1 : TypeId} {x i : Operand} {n : Nat} {e : TypeId} {cs : List AV} {k : IntKind} {j : Int} {c : AV} (hN : d < N) (ht : asz P t1 = some (n, e, 1)) (hl : lk P e = some (false, 1)) (hx : opv x s = some (.agg cs)) (hi : opv i s = some (.int k j)) (h0 : 0 ≤ j) (h1 : j < n) (hc : cs[j.toNat]? = some c) :
    OpOK P N ⟨some d, .index t1 x i, ty, pos, af, g⟩ s (rd x ++ rd i) [(.s d, .sv (.v c))] :=
  OpOK.val rfl hN fun E G L a w t hr hR => by
    have hv := opv_sound hr hR.left hx
    have hn := V_int (opv_sound hr hR.right hi)
    unfold asz at ht
    split at ht
    · rename_i n' e' hu
      obtain ⟨ie, hie, e2⟩ := Option.map_eq_some_iff.1 ht
      simp only [Prod.mk.injEq] at e2
      obtain ⟨rfl, rfl, h1s⟩ := e2
      generalize hav : a.eval x = u at hv
      cases hv with
      | agg vs _ hsz hf hvv =>
        have hlt : j.toNat < vs.size := by rw [hsz]; exact (List.getElem?_eq_some_iff.1 hc).1
        refine ⟨vs.getD j.toNat undef, ?_, hvv _ c hc⟩
        obtain ⟨ha, _⟩ := lk_run hl w
        have hp : (part e' vs (j.toNat * ie.size)).run P w = .ok (vs.getD j.toNat undef) w := by
          unfold part
          simp only [Sem.run_bind, ha, Result.andThen_ok, h1s, Nat.mul_one, Array.getElem?_eq_getElem hlt, Array.getD_eq_getD_getElem?]
          rfl
        simp [execOp, hav, hn, Instr.index, asIntOf, run_underlying hu, h0, h1, sizeOf, typeInfo, hie, hp]
    · cases ht
end
/-! ### maps of one's own, of texts to whole numbers -/
section
open Go.Maps Go.MapKept
open Go.WideElems (Fit rd rg pl rd_val elemAt)
open Go.ChangeMaps (notKey putKey setBlock heap_setBlock_same heap_setBlock_other)
/-- The block is a map that answers so; it has not more than so many entries. -/
def MapSI (P : Program) (kt et : TypeId) (n : Nat) (f : List UInt8 → Int) (o : Obj) : Prop :=
  ∃ es clock, o = .map es clock ∧ Fit P kt (plainElem (H := Unit) P et) es clock ∧ es.size ≤ n ∧ ∀ key : List UInt8, (DataW.map ((es.toList.map (rg P kt (plainElem (H := Unit) P et))).foldr DataW.insert [])).atKey (.string key) (.lit (.int .i64 0)) = .lit (.int .i64 (f key))
theorem MapSI.owns {P : Program} {kt et : TypeId} {n : Nat} {f : List UInt8 → Int} {o : Obj} {w : World} {b : Nat} (h : MapSI P kt et n f o) (hb : w.heap[b]? = some o) :
    ∃ D : DataW Unit, w.ownsMap P kt (plainElem P et) b n D ∧ ∀ key : List UInt8, D.atKey (.string key) (.lit (.int .i64 0)) = .lit (.int .i64 (f key)) := by
  obtain ⟨es, clock, rfl, F, hs, hf⟩ := h
  exact ⟨_, ⟨es, clock, hb, F, hs, rfl⟩, hf⟩
theorem strkey {P : Program} {kt : TypeId} (hk : P.underlying kt = some .string) {key : List UInt8} (hl : key.length ≤ 9223372036854775807) : keyOf P kt (.string ⟨key.toArray⟩) = some (.string key) := by
  have hm : (⟨key.toArray⟩ : ByteArray).size ≤ maxLen := by simp [ByteArray.size, maxLen]; omega
  unfold keyOf
  rw [hk]
  simp only [mapKey, hk, hm, if_true]
section
variable {P : Program} {N : Nat} {s : St} {d : Nat} {ty : TypeId} {pos : String} {af : Array Edge} {g : Option (Nat × Bool)}
/-- make(map[string]int) -/
theorem op_mkm {t1 kt et : TypeId} (hN : d < N) (hk : get s (.b d) = none) :
    OpOK P N ⟨some d, .makeMap t1 none, ty, pos, af, g⟩ s [.b d] [(.s d, .sv (.mp d)), (.b d, .raw (MapSI P kt et 0 fun _ => 0))] := by
  intro t hR E G L a w hr K Q hK
  have hk' : get t (.b d) = none := by rw [hR (.b d) (by simp)]; exact hk
  have hm : MapSI P kt et 0 (fun _ => 0) (.map #[] 0) := by
    refine ⟨#[], 0, rfl, ⟨by simp, stamped_empty 0, by simp⟩, Nat.le_refl _, fun key => rfl⟩
  have hr1 := hr.alloc d hk' (.map #[] 0) (.raw (MapSI P kt et 0 fun _ => 0)) rfl rfl hm
  unfold Oper.wp
  have he : (execOp a.eval ⟨some d, .makeMap t1 none, ty, pos, af, g⟩).run P w = .ok (.value (.map (some w.heap.size))) (w.alloc (.map #[] 0)) := by
    simp [execOp, Go.RowKit.run_makeMap, Option.map]
  rw [he]
  exact hK _ _ G _ (hr1.put d hN _ (.mp d) ⟨w.heap.size, by simp [Loc.setBox], rfl⟩)
/-- m[key] -/
theorem op_lku {t1 kt et : TypeId} {m x : Operand} {k n : Nat} {f : List UInt8 → Int} {key : List UInt8} (hN : d < N) (ht : P.underlying t1 = some (.map kt et)) (hkt : P.underlying kt = some .string) (he : P.underlying et = some (.int .i64)) (hz : ∀ w, (zeroValue et).run P w = .ok (.int .i64 0) w)
    (hx : opd m s = some (.mp k)) (hk : get s (.b k) = some (.raw (MapSI P kt et n f))) (hi : opv x s = some (.str key)) (hl : key.length ≤ 9223372036854775807) :
    OpOK P N ⟨some d, .lookup t1 m x false, ty, pos, af, g⟩ s (rd m ++ (rd x ++ [.b k])) [(.s d, .sv (.v (.int .i64 (f key))))] := by
  intro t hR E G L a w hr K Q hK
  obtain ⟨blk, hb, hv⟩ := opd_sound hr hR.left hx
  have hi' := (opv_sound hr hR.right.left hi).str_eq
  have hk' : get t (.b k) = some (.raw (MapSI P kt et n f)) := by rw [hR (.b k) (by simp)]; exact hk
  obtain ⟨blk', o, hb', hbase, hh, ho, hno⟩ := hr.box k _ hk' rfl
  rw [hb] at hb'; cases hb'
  have ho' : MapSI P kt et n f o := ho
  obtain ⟨D, hown, hD⟩ := ho'.owns hh
  obtain ⟨c, hrun, hat, _⟩ := hown.lookup_int (string_keyed hkt) ht he (hz w) (strkey hkt hl)
  rw [hD] at hat
  obtain rfl : f key = c := by injection hat with h; injection h
  unfold Oper.wp
  have hex : (execOp a.eval ⟨some d, .lookup t1 m x false, ty, pos, af, g⟩).run P w = .ok (.value (.int .i64 (f key))) w := by
    simp [execOp, hv, hi', hrun, Result.andThen]
  rw [hex]
  exact hK _ _ G L (hr.put d hN _ (.v (.int .i64 (f key))) (.int _ _))
/-- m[key] = v -/
theorem op_mpu {t1 kt et : TypeId} {m x y : Operand} {k n : Nat} {f : List UInt8 → Int} {key : List UInt8} {v : Int} (ht : P.underlying t1 = some (.map kt et)) (hkt : P.underlying kt = some .string) (he : P.underlying et = some (.int .i64))
    (hx : opd m s = some (.mp k)) (hk : get s (.b k) = some (.raw (MapSI P kt et n f))) (hi : opv x s = some (.str key)) (hy : opv y s = some (.int .i64 v)) (hl : key.length ≤ 9223372036854775807) (hn : n < 9223372036854775807) (hw : (Lit.int .i64 v).wf = true) :
    OpOK P N ⟨none, .mapUpdate t1 m x y, ty, pos, af, g⟩ s (rd m ++ (rd x ++ (rd y ++ [.b k]))) [(.b k, .raw (MapSI P kt et (n + 1) fun l => if l = key then v else f l))] := by
  intro t hR E G L a w hr K Q hK
  obtain ⟨blk, hb, hv⟩ := opd_sound hr hR.left hx
  have hi' := (opv_sound hr hR.right.left hi).str_eq
  have hy' := (opv_sound hr hR.right.right.left hy).int_eq
  have hk' : get t (.b k) = some (.raw (MapSI P kt et n f)) := by rw [hR (.b k) (by simp)]; exact hk
  obtain ⟨blk', o, hb', hbase, hh, ho, hno⟩ := hr.box k _ hk' rfl
  rw [hb] at hb'; cases hb'
  have ho' : MapSI P kt et n f o := ho
  obtain ⟨es, clock, rfl, F, hs, hD⟩ := ho'
  have hroom : es.size < maxLen := by unfold maxLen; omega
  have hkey := strkey hkt hl
  have hR1 : plainElem (H := Unit) P et (.int .i64 v) = some (.lit (.int .i64 v), []) := plainElem_int he hw
  obtain ⟨es', clock', hrun, F', hput, _⟩ := Maps.fit_store (R' := plainElem (H := Unit) P et) (string_keyed hkt) ht hh F hroom (fun _ _ _ _ hz => hz) hkey hR1
  have hsz : es'.size ≤ n + 1 := by
    have e1 : es'.size = ((es'.toList.map (rg P kt (plainElem (H := Unit) P et))).foldr DataW.insert []).length := by rw [length_sorted]; simp
    rw [e1, hput]
    unfold putKey
    rw [length_insert]
    have e2 := List.length_filter_le (notKey (.string key)) ((es.toList.map (rg P kt (plainElem (H := Unit) P et))).foldr DataW.insert [])
    rw [length_sorted] at e2
    simp at e2
    omega
  have hm : MapSI P kt et (n + 1) (fun l => if l = key then v else f l) (.map es' clock') := by
    refine ⟨es', clock', rfl, F', hsz, fun l => ?_⟩
    rw [hput, ← DataW.put_eq]
    by_cases hlk : l = key
    · subst hlk
      rw [atKey_put_same (k := .string l) ⟨_, rfl⟩ (by simp [WideAt.IsKeyLit])]
      simp
    · rw [atKey_put_other (by intro e; injection e with e; exact hlk e), hD]
      simp [hlk]
  have hlt := (Array.getElem?_eq_some_iff.1 hh).1
  have hr1 := hr.turn (w' := setBlock w blk (.map es' clock')) (cv := .raw (MapSI P kt et (n + 1) fun l => if l = key then v else f l)) hk' rfl rfl rfl hb (o := .map es' clock') hm rfl rfl rfl (by simp [setBlock]) (fun j hj => heap_setBlock_other hh _ hj) (heap_setBlock_same hh _)
  unfold Oper.wp
  have hex : (execOp a.eval ⟨none, .mapUpdate t1 m x y, ty, pos, af, g⟩).run P w = .ok .skip (setBlock w blk (.map es' clock')) := by
    simp [execOp, hv, hi', hy', hrun, Result.andThen]
  rw [hex]
  exact hK _ _ G L hr1
end
end
end Go.Proofs.YtnpgcmeclkncnaaGreatDoor.X
/- The program logic's rules: a call that makes objects and lets go of them leaves all others as they were; a closure that turns objects. No condition. -/
set_option linter.unusedVariables false
namespace Go.Proofs.YtnpgcmeclkncnaaGreatDoor.X
open Go Go.RowKit
/-- The objects that a value names are such. -/
inductive OpsIn (D : Nat → Prop) : AV → Prop where
  | bool (b : Bool) : OpsIn D (.bool b)
  | int (k : IntKind) (n : Int) : OpsIn D (.int k n)
  | str (s : List UInt8) : OpsIn D (.str s)
  | sl (xs : List AV) (h : ∀ x ∈ xs, OpsIn D x) : OpsIn D (.sl xs)
  | agg (xs : List AV) (h : ∀ x ∈ xs, OpsIn D x) : OpsIn D (.agg xs)
  | tup (xs : List AV) (h : ∀ x ∈ xs, OpsIn D x) : OpsIn D (.tup xs)
  | nilp : OpsIn D .nilp
  | nsl : OpsIn D .nsl
  | sll (n : Nat) : OpsIn D (.sll n)
  | kp (xs : List AV) (h : ∀ x ∈ xs, OpsIn D x) : OpsIn D (.kp xs)
  | op (id off : Nat) (h : D id) : OpsIn D (.op id off)
  | fn (f : FuncId) (xs : List AV) (h : ∀ x ∈ xs, OpsIn D x) : OpsIn D (.fn f xs)
  | nilf : OpsIn D .nilf
  | ifc (t : TypeId) (v : AV) (h : OpsIn D v) : OpsIn D (.ifc t v)
  | nili : OpsIn D .nili
  | junk : OpsIn D .junk
theorem mem_get {α : Type} {l : List α} {x : α} (h : x ∈ l) : ∃ i : Nat, l[i]? = some x := List.mem_iff_getElem?.1 h
theorem OpsIn.ofCells {D : Nat → Prop} {e : AV} (h : ∀ c ∈ e.cells, OpsIn D c) : OpsIn D e := by
  by_cases hf : e.flat = true
  · rw [AV.cells_flat hf] at h
    exact h e (by simp)
  · cases e with
    | agg cs => exact .agg cs h
    | tup vs => exact h _ (by simp [AV.cells])
    | _ => exact absurd rfl hf
theorem OpsIn.toCells {D : Nat → Prop} {e : AV} (h : OpsIn D e) : ∀ c ∈ e.cells, OpsIn D c := by
  intro c hc
  cases h with
  | agg cs hh => exact hh c hc
  | _ => simp [AV.cells] at hc; subst hc; constructor <;> assumption
theorem V.ops {G : Gh} {v : Value} {a : AV} (h : V G v a) : OpsIn (fun id => ∃ b, G.ob id = some b) a := by
  induction h with
  | bool b => exact .bool b
  | int k n => exact .int k n
  | str s => exact .str s
  | junk v h => exact .junk
  | nilp => exact .nilp
  | nsl => exact .nsl
  | sll a n cap => exact .sll n
  | kp b off cs vs hk hf _ ih => exact .kp cs fun x hx => by obtain ⟨j, hj⟩ := mem_get hx; exact ih j x hj
  | op id off b e => exact .op id off ⟨b, e⟩
  | slE a cap => exact .sl [] (by simp)
  | slN b off cap esz xs vs hc he hk hf _ ih =>
    refine .sl xs fun x hx => ?_
    obtain ⟨i, hi⟩ := mem_get hx
    refine OpsIn.ofCells fun c hc => ?_
    obtain ⟨j, hj⟩ := mem_get hc
    exact ih i x j c hi hj
  | agg vs cs hl hf _ ih => exact .agg cs fun x hx => by obtain ⟨j, hj⟩ := mem_get hx; exact ih j x hj
  | tup vs cs hl _ ih => exact .tup cs fun x hx => by obtain ⟨j, hj⟩ := mem_get hx; exact ih j x hj
  | fn f vs cs hl _ ih => exact .fn f cs fun x hx => by obtain ⟨j, hj⟩ := mem_get hx; exact ih j x hj
  | nilf => exact .nilf
  | ifc t v a _ ih => exact .ifc t a ih
  | nili => exact .nili
theorem OpsIn.mono {D D' : Nat → Prop} (hd : ∀ i, D i → D' i) {a : AV} (h : OpsIn D a) : OpsIn D' a := by
  induction h with
  | bool b => exact .bool b
  | int k n => exact .int k n
  | str s => exact .str s
  | sl xs _ ih => exact .sl xs ih
  | agg xs _ ih => exact .agg xs ih
  | tup xs _ ih => exact .tup xs ih
  | nilp => exact .nilp
  | nsl => exact .nsl
  | sll n => exact .sll n
  | kp xs _ ih => exact .kp xs ih
  | op id off h => exact .op id off (hd _ h)
  | fn f xs _ ih => exact .fn f xs ih
  | nilf => exact .nilf
  | ifc t v _ ih => exact .ifc t v ih
  | nili => exact .nili
  | junk => exact .junk
/-- Only the objects below n are known any more. -/
def Gh.res (G : Gh) (n : Nat) : Gh := ⟨G.kn, fun id => if id < n then G.ob id else none⟩
theorem V.res {G : Gh} {n : Nat} {v : Value} {a : AV} (h : V G v a) (ho : OpsIn (fun id => id < n) a) : V (G.res n) v a := by
  induction h with
  | bool b => exact .bool b
  | int k m => exact .int k m
  | str s => exact .str s
  | junk v h => exact .junk v h
  | nilp => exact .nilp
  | nsl => exact .nsl
  | sll a m cap => exact .sll a m cap
  | kp b off cs vs hk hf _ ih =>
    cases ho with
    | kp _ hh => exact .kp b off cs vs hk hf fun j c hj => ih j c hj (hh c (List.mem_of_getElem? hj))
  | op id off b e =>
    cases ho with
    | op _ _ hh => exact .op id off b (by simp [Gh.res, hh, e])
  | slE a cap => exact .slE a cap
  | slN b off cap esz xs vs hc he hk hf _ ih =>
    cases ho with
    | sl _ hh => exact .slN b off cap esz xs vs hc he hk hf fun i e j c hi hj => ih i e j c hi hj ((hh e (List.mem_of_getElem? hi)).toCells c (List.mem_of_getElem? hj))
  | agg vs cs hl hf _ ih =>
    cases ho with
    | agg _ hh => exact .agg vs cs hl hf fun j c hj => ih j c hj (hh c (List.mem_of_getElem? hj))
  | tup vs cs hl _ ih =>
    cases ho with
    | tup _ hh => exact .tup vs cs hl fun j c hj => ih j c hj (hh c (List.mem_of_getElem? hj))
  | fn f vs cs hl _ ih =>
    cases ho with
    | fn _ _ hh => exact .fn f vs cs hl fun j c hj => ih j c hj (hh c (List.mem_of_getElem? hj))
  | nilf => exact .nilf
  | ifc t v a _ ih =>
    cases ho with
    | ifc _ _ hh => exact .ifc t v a (ih hh)
  | nili => exact .nili
/-- A call that may make objects, and lets go of them. -/
theorem Run.of_triF {P : Program} {f : FuncId} {fn : Func} {c : Code} {N : Nat} {args : List AV} {H : Hp} {r : AV} (hf : P.funcs[f]? = some fn) (hb : fn.body = some c) (hN : fn.ntmps = N) (hle : args.length ≤ N) (hro : OpsIn (fun id => id < H.next) r)
    (h : Tri P N c ((.h, .hp H) :: initS args 0) fun e s' => (e = .normal ∨ e = .ret) ∧ ResOK P fn s' r ∧ ∃ H', get s' .h = some (.hp H') ∧ H.next ≤ H'.next ∧ ∀ i, i < H.next → H'.obj i = H.obj i) : Run P f args H r H := by
  intro G w cargs hg hk hH hV
  refine calls_of_wp hf hb ?_
  have h0 := fits0 hN hle hg hk hH hV
  refine wp_mono (h ⟨G, w, foot G H w⟩ _ w h0) ?_
  rintro e a' w' ⟨s', ⟨G', L', hr⟩, he, hres, H', hh, hnx, hobj⟩
  obtain ⟨v, hv, hV'⟩ := hres _ _ _ _ _ _ hr
  obtain ⟨H2, g, hok, hmay⟩ := hr.heap
  rw [hh] at g; cases g
  have hlt : ∀ id b, G.ob id = some b → id < H.next := fun id b e => (hH.lt id b e).1
  have hres1 : ∀ id, id < H.next → (G'.res H.next).ob id = G'.ob id := fun id h => by simp [Gh.res, h]
  have hres2 : ∀ id b, (G'.res H.next).ob id = some b → id < H.next ∧ G'.ob id = some b := fun id b h => by
    simp only [Gh.res] at h
    split at h
    · exact ⟨by assumption, h⟩
    · cases h
  have hop : ∀ {u : Value} {a : AV}, V G u a → OpsIn (fun id => id < H.next) a := fun hu => hu.ops.mono fun id ⟨b, e⟩ => hlt id b e
  have hidl : ∀ id cs, H.obj id = some cs → id < H.next := fun id cs e => by
    obtain ⟨blk, _, _, q1, _⟩ := hH.obj id cs e
    exact hlt id blk q1
  have hrow : ∀ id j b, hrow (G'.res H.next) H w' id j b → hrow G' H' w' id j b := by
    rintro id j b ⟨cs, el, esz, xs, b0, arr, t, fr, h1, h2, h3, h4, h5⟩
    exact ⟨cs, el, esz, xs, b0, arr, t, fr, by rw [hobj id (hidl id cs h1)]; exact h1, h2, (hres2 _ _ h3).2, h4, h5⟩
  have hfoot : ∀ b, foot (G'.res H.next) H w' b → foot G' H' w' b := by
    rintro b (⟨id, ⟨cs, h1⟩, h2⟩ | ⟨id, j, h1⟩)
    · exact .inl ⟨id, ⟨cs, by rw [hobj id (hidl id cs h1)]; exact h1⟩, (hres2 _ _ h2).2⟩
    · exact .inr ⟨id, j, hrow _ _ _ h1⟩
  have hHp : HpOK (G'.res H.next) w' H := by
    refine ⟨fun id b e => ⟨(hres2 id b e).1, (hok.lt id b (hres2 id b e).2).2⟩, fun id id' b e e' => hok.inj id id' b (hres2 _ _ e).2 (hres2 _ _ e').2, fun id cs e => ?_, fun id j blk hh' => ?_⟩
    · obtain ⟨blk, arr, el, q1, q2, q3, q4, q5⟩ := hok.obj id cs (by rw [hobj id (hidl id cs e)]; exact e)
      obtain ⟨blk0, arr0, el0, p1, p2, p3, p4, p5⟩ := hH.obj id cs e
      refine ⟨blk, arr, el, by rw [hres1 id (hidl id cs e)]; exact q1, q2, q3, fun j x hx => ?_, q5⟩
      have hq := q4 j x hx
      have hp := p4 j x hx
      cases x with
      | v a => exact ⟨hq.1, hq.2.res (hop hp.2)⟩
      | row el2 esz xs =>
        have hq' : RowOK G' w' true el2 esz (arr.getD j undef) xs := hq
        have hp' : RowOK G w true el2 esz (arr0.getD j undef) xs := hp
        obtain ⟨cells, k1, k2, k3, k4, k5⟩ := hq'
        obtain ⟨cells0, _, _, _, l4, _⟩ := hp'
        exact ⟨cells, (fun e => by cases e), k2, k3, ⟨k4.1, fun i e j c a b => ⟨(k4.2 i e j c a b).1, (k4.2 i e j c a b).2.res (hop (l4.2 i e j c a b).2)⟩⟩, k5⟩
    · obtain ⟨q1, q2⟩ := hok.apart id j blk (hrow _ _ _ hh')
      exact ⟨fun id' e => q1 id' (hres2 _ _ e).2, fun id' j' h2 => q2 id' j' (hrow _ _ _ h2)⟩
  have hpost : ∃ v2 G'', Ending.returned v = .returned v2 ∧ V G'' v2 r ∧ GExt (foot G H w) G G'' w ∧ KnOK G'' w' ∧ HpOK G'' w' H ∧ Fr (foot G H w) w w' ∧ ∀ b, foot G'' H w' b → w.heap.size ≤ b ∨ foot G H w b :=
    ⟨v, G'.res H.next, rfl, hV'.res hro, ⟨hr.old, fun id b e => by rw [hres1 id (hlt id b e)]; exact hr.obs id b e, fun id b e => hr.obn id b (hres2 id b e).2⟩, hr.kn, hHp, hr.fr, fun b hb => hmay b (hfoot b hb)⟩
  rcases he with rfl | rfl
  · exact ⟨hr.defs, v, hv, hpost⟩
  · exact ⟨hr.defs, v, hv, hpost⟩
section
variable {P : Program} {N : Nat} {s : St} {d : Nat} {ty : TypeId} {pos : String} {af : Array Edge} {g : Option (Nat × Bool)}
/-- a closure is called, which may turn the objects -/
theorem op_callch {x : Operand} {f : FuncId} {xs : Array Operand} {tys : Array TypeId} {«as» caps : List AV} {r : AV} {H H' : Hp} (hN : d < N) (hf : isFn P f = true) (hx : opv x s = some (.fn f caps)) (hH : get s .h = some (.hp H)) (ha : opvs xs.toList s = some «as») (hp : Run P f («as» ++ caps) H r H') :
    OpOK P N ⟨some d, .call { callee := .value x, args := xs, argTypes := tys }, ty, pos, af, g⟩ s ((rd x ++ rds xs.toList) ++ [.h]) [(.s d, .sv (.v r)), (.h, .hp H')] :=
  call_run hp rfl hN hH (enter_clo hf hx ha)
end
end Go.Proofs.YtnpgcmeclkncnaaGreatDoor.X
/- The data that the program speaks of: schemas, trees, steps; what stands for them. No condition. -/
set_option linter.unusedVariables false
namespace Go.Proofs.YtnpgcmeclkncnaaGreatDoor.X
open Go Go.RowKit
abbrev Str := List UInt8
def iAV (n : Int) : AV := .int .i64 n
structure Fld where
  name : Str
  num : Int
  ty : Int
  ref : Str
  rep : Bool
  loose : Bool
  one : Str
  deriving DecidableEq, Inhabited
def Fld.cells (f : Fld) : List AV := [.str f.name, .int .i64 f.num, .int .i64 f.ty, .str f.ref, .bool f.rep, .bool f.loose, .str f.one]
def Fld.av (f : Fld) : AV := .agg f.cells
structure Msg where
  name : Str
  fields : List Fld
  barred : List Int
  deriving DecidableEq, Inhabited
def Msg.cells (m : Msg) : List AV := [.str m.name, .sl (m.fields.map Fld.av), .sl (m.barred.map iAV)]
def Msg.av (m : Msg) : AV := .agg m.cells
structure Vlu where
  name : Str
  num : Int
  deriving DecidableEq, Inhabited
def Vlu.cells (v : Vlu) : List AV := [.str v.name, .int .i64 v.num]
def Vlu.av (v : Vlu) : AV := .agg v.cells
structure Enm where
  name : Str
  values : List Vlu
  deriving DecidableEq, Inhabited
def Enm.cells (e : Enm) : List AV := [.str e.name, .sl (e.values.map Vlu.av)]
def Enm.av (e : Enm) : AV := .agg e.cells
structure Sch where
  enums : List Enm
  msgs : List Msg
  deriving DecidableEq, Inhabited
def Sch.cells (s : Sch) : List AV := [.sl (s.enums.map Enm.av), .sl (s.msgs.map Msg.av)]
def Sch.av (s : Sch) : AV := .agg s.cells
structure Rw where
  num : Int
  wire : Int
  n : Nat
  s : Str
  deriving DecidableEq, Inhabited
def Rw.cells (r : Rw) : List AV := [.int .i64 r.num, .int .i64 r.wire, .int .u64 (r.n : Int), .str r.s]
def Rw.av (r : Rw) : AV := .agg r.cells
mutual
inductive Val where
  | mk (n : Nat) (s : Str) (m : List Tree)
inductive Slot where
  | mk (num : Int) (vals : List Val)
inductive Tree where
  | mk (slots : List Slot) (rest : List Rw)
end
instance : Inhabited Tree := ⟨.mk [] []⟩
instance : Inhabited Val := ⟨.mk 0 [] []⟩
instance : Inhabited Slot := ⟨.mk 0 []⟩
def Val.n : Val → Nat | .mk n _ _ => n
def Val.s : Val → Str | .mk _ s _ => s
def Val.m : Val → List Tree | .mk _ _ m => m
def Slot.num : Slot → Int | .mk n _ => n
def Slot.vals : Slot → List Val | .mk _ v => v
def Tree.slots : Tree → List Slot | .mk s _ => s
def Tree.rest : Tree → List Rw | .mk _ r => r
mutual
def Val.av : Val → AV
  | .mk n s m => .agg [.int .u64 (n : Int), .str s, .sl (treesAV m)]
def Slot.av : Slot → AV
  | .mk n vs => .agg [.int .i64 n, .sl (valsAV vs)]
def Tree.av : Tree → AV
  | .mk ss r => .agg [.sl (slotsAV ss), .sl (r.map Rw.av)]
def treesAV : List Tree → List AV
  | [] => []
  | t :: l => t.av :: treesAV l
def valsAV : List Val → List AV
  | [] => []
  | v :: l => v.av :: valsAV l
def slotsAV : List Slot → List AV
  | [] => []
  | s :: l => s.av :: slotsAV l
end
theorem treesAV_map (l : List Tree) : treesAV l = l.map Tree.av := by induction l with | nil => simp [treesAV] | cons t l ih => simp [treesAV, ih]
theorem valsAV_map (l : List Val) : valsAV l = l.map Val.av := by induction l with | nil => simp [valsAV] | cons t l ih => simp [valsAV, ih]
theorem slotsAV_map (l : List Slot) : slotsAV l = l.map Slot.av := by induction l with | nil => simp [slotsAV] | cons t l ih => simp [slotsAV, ih]
def Val.cells (v : Val) : List AV := [.int .u64 (v.n : Int), .str v.s, .sl (v.m.map Tree.av)]
def Slot.cells (x : Slot) : List AV := [.int .i64 x.num, .sl (x.vals.map Val.av)]
def Tree.cells (t : Tree) : List AV := [.sl (t.slots.map Slot.av), .sl (t.rest.map Rw.av)]
theorem Val.av_eq (v : Val) : v.av = .agg v.cells := by cases v; simp [Val.av, Val.cells, Val.n, Val.s, Val.m, treesAV_map]
theorem Slot.av_eq (v : Slot) : v.av = .agg v.cells := by cases v; simp [Slot.av, Slot.cells, Slot.num, Slot.vals, valsAV_map]
theorem Tree.av_eq (v : Tree) : v.av = .agg v.cells := by cases v; simp [Tree.av, Tree.cells, Tree.slots, Tree.rest, slotsAV_map]
structure Stp where
  kind : Int
  msg : Str
  field : Str
  to : Str
  also : Str
  num : Int
  other : Int
  ty : Int
  names : List Str
  «def» : Val
  deriving Inhabited
def Stp.cells (x : Stp) : List AV := [.int .i64 x.kind, .str x.msg, .str x.field, .str x.to, .str x.also, .int .i64 x.num, .int .i64 x.other, .int .i64 x.ty, .sl (x.names.map .str), .int .u64 (x.def.n : Int), .str x.def.s, .sl (x.def.m.map Tree.av)]
def Stp.av (x : Stp) : AV := .agg x.cells
theorem ixmE {α : Type} {f : α → AV} {c : α → List AV} {xs : List α} {i : Nat} (he : ∀ x, f x = .agg (c x)) (h : i < xs.length) : (xs.map f)[((i : Nat) : Int).toNat]? = some (.agg (c xs[i])) := by
  simp [h, he]
theorem ixmE1 {α : Type} {f : α → AV} {c : α → List AV} {xs : List α} {i : Nat} {j : Int} (he : ∀ x, f x = .agg (c x)) (hj : j = (i : Int)) (h : i < xs.length) : (xs.map f)[j.toNat]? = some (.agg (c xs[i])) := by
  subst hj; simp [h, he]
end Go.Proofs.YtnpgcmeclkncnaaGreatDoor.X
