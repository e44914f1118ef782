/- The program logic's rules: loads and stores of local boxes, memory that is known, calls. No condition. -/
import Derived.Test.YthoncmadikifnaaDoorX4
set_option linter.unusedVariables false
namespace Go.Proofs.YthoncmadikifnaaDoor.X
open Go Go.RowKit

/-- The block of a box is written. -/
theorem Rel.turn {E : Ent} {N : Nat} {G : Gh} {L : Loc} {a : Act} {w w' : World} {s : St} (h : Rel E N G L a w s) {k blk : Nat} {cv0 cv : CV} (hk : get s (.b k) = some cv0) (hl0 : cv0.live = true) (hl : cv.live = true) (hlk : cv.link = cv0.link) (hb : L.box k = some blk)
    {o : Obj} (ho : ObjOK G L o cv) (h1 : w'.os = w.os) (h2 : w'.tape = w.tape) (h3 : w'.output = w.output) (h4 : w'.heap.size = w.heap.size) (h5 : ∀ j, j ≠ blk → w'.heap[j]? = w.heap[j]?) (h6 : w'.heap[blk]? = some o) :
    Rel E N G L a w' ((.b k, cv) :: s) := by
  obtain ⟨blk', o', hb', hbase, hh, hok, hn, hlnk⟩ := h.box k cv0 hk hl0
  rw [hb] at hb'; cases hb'
  have hmine : owns s L (.b k) blk := ⟨⟨cv0, hk, hl0⟩, hb⟩
  have hown : ∀ c b, owns ((.b k, cv) :: s) L c b → owns s L c b := by
    intro c b hc
    by_cases e : c = .b k
    · subst e
      have := hc.2
      rw [hb] at this; cases this
      exact hmine
    · exact owns_cons e hc
  have hcell : ∀ p v, w.cell? p = some v → p.block ≠ blk → w'.cell? p = some v := by
    intro p v hc hne
    rw [World.cell?_of_block (w := w) (h5 p.block hne)]; exact hc
  obtain ⟨H0, gH, hokH, hmayH⟩ := h.heap
  have hst := hokH.stay (w' := w') (Gh.le.refl G) rfl (fun b hb => (hokH.foot hb).2) (fun b hb => h5 b (fun e => h.hdisj _ _ hmine H0 gH (e ▸ hb))) (by rw [h4]; exact Nat.le_refl _)
  refine ⟨h.size, h.defs, h.ge, fun b j v e => hcell _ _ (h.kn b j v e) (fun e' => ?_), h.old, h.obs, h.obn, ⟨h1.trans h.fr.os, h2.trans h.fr.tape, h3.trans h.fr.output, by rw [h4]; exact h.fr.size, fun j hj hno => ?_⟩, ?_, ?_, ?_, ?_, ?_, ?_, ?_, ?_⟩
  · simp at e'; subst e'; rw [hn j] at e; cases e
  · rw [h5 j (fun e => by
      subst e
      rcases hbase with e | e
      · omega
      · exact hno e)]
    exact h.fr.block j hj hno
  · intro n x g; exact h.slot n x (by simpa [get] using g)
  · intro j cv' g hl'
    by_cases e : j = k
    · subst e
      simp [get] at g
      subst g
      exact ⟨blk, o, hb, hbase, h6, ho, hn, by rw [hlk]; exact hlnk⟩
    · have g' : get s (.b j) = some cv' := by simpa [get, Ne.symm e] using g
      obtain ⟨b2, o2, hb2, hbase2, hh2, hok2, hn2⟩ := h.box j cv' g' hl'
      refine ⟨b2, o2, hb2, hbase2, ?_, hok2, hn2⟩
      rw [h5 b2 (fun e2 => e (by
        have := h.disj (.b j) (.b k) blk ⟨⟨cv', g', hl'⟩, by rw [← e2]; exact hb2⟩ hmine
        injection this))]
      exact hh2
  · intro j m el esz xs g
    have g' : get s (.t j) = some (.tk m el esz xs) := by simpa [get] using g
    refine (h.tok j m el esz xs g').stay (Gh.le.refl G) (fun _ _ e => .inl e) (fun v b hv hb' => h5 b (fun e2 => ?_)) (fun _ _ _ _ _ => rfl)
    have := h.disj (.t j) (.b k) blk ⟨⟨m, el, esz, xs, g'⟩, v, hv, by rw [← e2]; exact hb'⟩ hmine
    cases this
  · intro c d b hc hd; exact h.disj c d b (hown _ _ hc) (hown _ _ hd)
  · exact ⟨H0, by simpa [get] using gH, hst.1, fun b hb => hmayH b ((hst.2 b).1 hb)⟩
  · intro c b hc H2 g2 e2
    have g3 : get s .h = some (.hp H2) := by simpa [get] using g2
    rw [gH] at g3; cases g3
    exact h.hdisj c b (hown _ _ hc) _ gH ((hst.2 b).1 e2)
  · intro j g
    by_cases e : j = k
    · subst e; simp [get] at g
    · exact h.nobox j (by simpa [get, Ne.symm e] using g)
  · intro j g; exact h.notok j (by simpa [get] using g)

/-- Several cells as one value. -/
def svavs : List Sv → Option (List AV)
  | [] => some []
  | x :: l => match x.av, svavs l with
    | some a, some r => some (a :: r)
    | _, _ => none
theorem svavs_get {l : List Sv} {r : List AV} (h : svavs l = some r) : l.length = r.length ∧ ∀ (j : Nat) x, r[j]? = some x → ∃ y, l[j]? = some y ∧ y.av = some x := by
  induction l generalizing r with
  | nil => simp [svavs] at h; subst h; exact ⟨rfl, fun j x e => by simp at e⟩
  | cons v l ih =>
    simp only [svavs] at h
    split at h
    · rename_i a r' ha hr
      cases h
      obtain ⟨h1, h2⟩ := ih hr
      refine ⟨by simp [h1], fun j x e => ?_⟩
      cases j with
      | zero => simp at e; subst e; exact ⟨v, by simp, ha⟩
      | succ j => simpa using h2 j x (by simpa using e)
    · cases h
theorem av_flat {x : Sv} {a : AV} (hx : x.flat = true) (h : x.av = some a) : a.flat = true := by
  cases x with
  | v b => simp [Sv.av] at h; subst h; exact hx
  | lp k off => simp [Sv.av] at h
  | ow k xs => simp [Sv.av] at h; subst h; rfl
  | mv k n => simp [Sv.av] at h
  | om k n => simp [Sv.av] at h
  | ov k esz lo n => simp [Sv.av] at h
  | ta k off => simp [Sv.av] at h
  | cd g b a => simp [Sv.av] at h
/-- What is loaded out of a row of cells: one, or several as a struct. -/
def ldc (b : Bool) (n : Nat) (cs : List Sv) : Option Sv :=
  match b with
  | false => cs[0]?
  | true => match svavs (cs.take n) with
    | some r => if r.length = n then some (.v (.agg r)) else none
    | none => none
/-- The load's walk, from wherever the cells lie. -/
theorem run_load_of {P : Program} {G : Gh} {L : Loc} {t : TypeId} {b : Bool} {n : Nat} (hl : lk P t = some (b, n)) {cs : List Sv} {z : Sv} (hz : ldc b n cs = some z) {w : World} {p : Addr} {f : Nat → Value}
    (hc : ∀ (j : Nat) y, cs[j]? = some y → w.cell? (p.add j) = some (f j) ∧ y.flat = true ∧ SV G L (f j) y) : ∃ v, (loadVar t p).run P w = .ok v w ∧ SV G L v z := by
  obtain ⟨ha, hs⟩ := lk_run hl w
  cases b with
  | false =>
    obtain ⟨h1, h2, h3⟩ := hc 0 z hz
    refine ⟨f 0, ?_, h3⟩
    have h1' : w.cell? p = some (f 0) := by simpa [Addr.add] using h1
    simp [loadVar, ha, h1']
  | true =>
    simp only [ldc] at hz
    split at hz
    · rename_i r hr
      split at hz
      · rename_i hlen
        cases hz
        obtain ⟨h1, h2⟩ := svavs_get hr
        have hcell : ∀ j, j < n → w.cell? (p.add j) = some (f j) := by
          intro j hj
          obtain ⟨y, hy, _⟩ := h2 j r[j] (by simp)
          rw [List.getElem?_take, if_pos hj] at hy
          exact (hc j y hy).1
        refine ⟨.agg ((List.range n).map f).toArray, ?_, ?_⟩
        · simp [loadVar, ha, hs, run_loadCells w p n f hcell]
        · have hel : ∀ (j : Nat) c, r[j]? = some c → c.flat = true ∧ V G (f j) c := by
            intro j c e
            obtain ⟨y, hy, hav⟩ := h2 j c e
            have hj : j < n := by have := (List.getElem?_eq_some_iff.1 e).1; omega
            rw [List.getElem?_take, if_pos hj] at hy
            obtain ⟨_, q2, q3⟩ := hc j y hy
            exact ⟨av_flat q2 hav, q3.av hav⟩
          refine V.agg _ _ (by simp [hlen]) (fun j c e => (hel j c e).1) (fun j c e => ?_)
          have hj : j < n := by have := (List.getElem?_eq_some_iff.1 e).1; omega
          have : ((List.range n).map f).toArray.getD j undef = f j := by
            rw [Array.getD_eq_getD_getElem?]
            simp [hj]
          rw [this]
          exact (hel j c e).2
      · cases hz
    · cases hz

theorem box_live {cv : CV} {cs : List Sv} (h : cv.box? = some cs) : cv.live = true := by cases cv <;> first | rfl | cases h
theorem box_obj {G : Gh} {L : Loc} {o : Obj} {cv : CV} {cs : List Sv} (h : cv.box? = some cs) (hk : ObjOK G L o cv) : ∃ arr el, o = .cells arr el (0, 0) ∧ arr.size = cs.length ∧ ∀ (j : Nat) x, cs[j]? = some x → x.flat = true ∧ SV G L (arr.getD j undef) x := by
  cases cv <;> first | (cases h; exact hk) | cases h
theorem box_set {G : Gh} {L : Loc} {cv : CV} {cs ds : List Sv} (h : cv.box? = some cs) {arr : Array Value} {el : TypeId} (h1 : arr.size = ds.length) (h2 : ∀ (j : Nat) x, ds[j]? = some x → x.flat = true ∧ SV G L (arr.getD j undef) x) : ObjOK G L (.cells arr el (0, 0)) (cv.setBox ds) := by
  cases cv <;> first | exact ⟨arr, el, rfl, h1, h2⟩ | (exfalso; cases h; done)
section
variable {P : Program} {N : Nat} {s : St} {d : Nat} {ty : TypeId} {pos : String} {af : Array Edge} {g : Option (Nat × Bool)}
/-- load out of a local box -/
theorem op_ldb {t1 : TypeId} {x : Operand} {k off n : Nat} {b : Bool} {cv : CV} {cs : List Sv} {z : Sv} (hN : d < N) (hl : lk P t1 = some (b, n)) (hx : opd x s = some (.lp k off)) (hk : get s (.b k) = some cv) (hcv : cv.box? = some cs) (hz : ldc b n (cs.drop off) = some z) :
    OpOK P N ⟨some d, .load t1 x, ty, pos, af, g⟩ s (rd x ++ [.b k]) [(.s d, .sv z)] :=
  OpOK.val rfl hN fun E G L a w t hr hR => by
    obtain ⟨blk, hb, hv⟩ := opd_sound hr hR.left hx
    obtain ⟨blk', o, hb', hbase, hh, hobj, hn⟩ := hr.box k cv (by rw [hR (.b k) (by simp)]; exact hk) (box_live hcv)
    obtain ⟨arr, el, rfl, hsz, hc⟩ := box_obj hcv hobj
    rw [hb] at hb'; cases hb'
    have hcell : ∀ (j : Nat) y, (cs.drop off)[j]? = some y → w.cell? ((⟨blk, off, none⟩ : Addr).add j) = some (arr.getD (off + j) undef) ∧ y.flat = true ∧ SV G L (arr.getD (off + j) undef) y := by
      intro j y e
      rw [List.getElem?_drop] at e
      refine ⟨?_, hc _ y e⟩
      have hlt : off + j < arr.size := by have := (List.getElem?_eq_some_iff.1 e).1; omega
      rw [Addr.add_lit, cell_of_row w blk (off + j) arr el (0, 0) hh, Array.getD_eq_getD_getElem?, Array.getElem?_eq_getElem hlt]
      rfl
    obtain ⟨v, hrun, hV⟩ := run_load_of (P := P) hl hz hcell
    refine ⟨v, ?_, hV⟩
    simp [execOp, hv, Instr.loadAt, Instr.sureAddr, hrun]
theorem op_ldl {t1 : TypeId} {x : Operand} {k off n : Nat} {b : Bool} {cs : List Sv} {z : Sv} (hN : d < N) (hl : lk P t1 = some (b, n)) (hx : opd x s = some (.lp k off)) (hk : get s (.b k) = some (.bx cs)) (hz : ldc b n (cs.drop off) = some z) :
    OpOK P N ⟨some d, .load t1 x, ty, pos, af, g⟩ s (rd x ++ [.b k]) [(.s d, .sv z)] := op_ldb hN hl hx hk rfl hz
theorem op_ldo {t1 : TypeId} {x : Operand} {k off n id : Nat} {b : Bool} {cs : List Sv} {z : Sv} (hN : d < N) (hl : lk P t1 = some (b, n)) (hx : opd x s = some (.lp k off)) (hk : get s (.b k) = some (.ob id cs)) (hz : ldc b n (cs.drop off) = some z) :
    OpOK P N ⟨some d, .load t1 x, ty, pos, af, g⟩ s (rd x ++ [.b k]) [(.s d, .sv z)] := op_ldb hN hl hx hk rfl hz
/-- load out of memory that is known -/
theorem op_ldk {t1 : TypeId} {x : Operand} {n : Nat} {b : Bool} {cs : List AV} {z : Sv} (hN : d < N) (hl : lk P t1 = some (b, n)) (hx : opv x s = some (.kp cs)) (hz : ldc b n (cs.map .v) = some z) :
    OpOK P N ⟨some d, .load t1 x, ty, pos, af, g⟩ s (rd x) [(.s d, .sv z)] :=
  OpOK.val rfl hN fun E G L a w t hr hR => by
    have hv := opv_sound hr hR hx
    generalize hav : a.eval x = u at hv
    cases hv
    rename_i blk off vs hk hf hvv
    have hcell : ∀ (j : Nat) y, (cs.map Sv.v)[j]? = some y → w.cell? ((⟨blk, off, none⟩ : Addr).add j) = some (vs j) ∧ y.flat = true ∧ SV G L (vs j) y := by
      intro j y e
      rw [List.getElem?_map] at e
      cases hc : cs[j]? with
      | none => rw [hc] at e; cases e
      | some c =>
        rw [hc] at e; cases e
        exact ⟨by rw [Addr.add_lit]; exact hr.kn _ _ _ (hk j c hc), hf j c hc, hvv j c hc⟩
    obtain ⟨v, hrun, hV⟩ := run_load_of (P := P) hl hz hcell
    refine ⟨v, ?_, hV⟩
    simp [execOp, hav, Instr.loadAt, Instr.sureAddr, hrun]
/-- &p.f -/
theorem op_fal {t1 : TypeId} {x : Operand} {i k off o : Nat} (hN : d < N) (hf : fo P t1 i = some o) (hx : opd x s = some (.lp k off)) :
    OpOK P N ⟨some d, .fieldAddr t1 x i, ty, pos, af, g⟩ s (rd x) [(.s d, .sv (.lp k (off + o)))] :=
  OpOK.val rfl hN fun E G L a w t hr hR => by
    obtain ⟨blk, hb, hv⟩ := opd_sound hr hR hx
    refine ⟨.pointer (some ⟨blk, off + o, none⟩), ?_, ⟨blk, hb, rfl⟩⟩
    simp [execOp, hv, fo_run hf, Addr.add_lit]
theorem op_fak {t1 : TypeId} {x : Operand} {i o : Nat} {cs : List AV} (hN : d < N) (hf : fo P t1 i = some o) (hx : opv x s = some (.kp cs)) :
    OpOK P N ⟨some d, .fieldAddr t1 x i, ty, pos, af, g⟩ s (rd x) [(.s d, .sv (.v (.kp (cs.drop o))))] :=
  OpOK.val rfl hN fun E G L a w t hr hR => by
    have hv := opv_sound hr hR hx
    generalize hav : a.eval x = u at hv
    cases hv
    rename_i blk off vs hk hff hvv
    refine ⟨.pointer (some ⟨blk, off + o, none⟩), ?_, V.kp blk (off + o) _ (fun j => vs (o + j)) ?_ ?_ ?_⟩
    · simp [execOp, hav, fo_run hf, Addr.add_lit]
    · intro j c e; rw [List.getElem?_drop] at e; rw [Nat.add_assoc]; exact hk _ c e
    · intro j c e; rw [List.getElem?_drop] at e; exact hff _ c e
    · intro j c e; rw [List.getElem?_drop] at e; exact hvv _ c e
/-- &xs[i] of a slice that is known -/
theorem op_iak {t1 : TypeId} {x i : Operand} {esz : Nat} {k : IntKind} {n : Int} {xs : List AV} {e : AV} (hN : d < N) (ht : ie P t1 = some esz) (hx : opv x s = some (.sl xs)) (hi : opv i s = some (.int k n)) (h0 : 0 ≤ n)
    (he : xs[n.toNat]? = some e) (hsz : e.cells.length = esz) : OpOK P N ⟨some d, .indexAddr t1 x i, ty, pos, af, g⟩ s (rd x ++ rd i) [(.s d, .sv (.v (.kp e.cells)))] :=
  OpOK.val rfl hN fun E G L a w t hr hR => by
    have hv := opv_sound hr hR.left hx
    have hn := V_int (opv_sound hr hR.right hi)
    obtain ⟨el, inf, hu, hinf, hsize⟩ := ie_run ht
    generalize hav : a.eval x = u at hv
    have hlt := (List.getElem?_eq_some_iff.1 he).1
    cases hv with
    | slE A cap => simp at he
    | slN blk off cap esz' _ vs hc hes hk hff hvv =>
      have : esz' = esz := (hes _ e he).symm.trans hsz
      subst this
      refine ⟨.pointer (some ⟨blk, off + n.toNat * esz', none⟩), ?_, V.kp blk _ _ (vs n.toNat) (fun j c q => hk _ e j c he q) (fun j c q => hff _ e j c he q) (fun j c q => hvv _ e j c he q)⟩
      have hlt' : n < (xs.length : Int) := by omega
      simp [execOp, hav, hn, Instr.indexAt, asIntOf, run_underlying hu, h0, hlt', sizeOf, typeInfo, hinf, hsize, Addr.add_lit]
/-- &xs[i] of the slice over a local box -/
theorem op_ial {t1 : TypeId} {x i : Operand} {esz k m : Nat} {ik : IntKind} {n : Int} (hN : d < N) (ht : ie P t1 = some esz) (hx : opd x s = some (.mv k m)) (hi : opv i s = some (.int ik n)) (h0 : 0 ≤ n) (h1 : n < m) :
    OpOK P N ⟨some d, .indexAddr t1 x i, ty, pos, af, g⟩ s (rd x ++ rd i) [(.s d, .sv (.lp k (n.toNat * esz)))] :=
  OpOK.val rfl hN fun E G L a w t hr hR => by
    obtain ⟨blk, cap, hb, hv, hc⟩ := opd_sound hr hR.left hx
    have hn := V_int (opv_sound hr hR.right hi)
    obtain ⟨el, inf, hu, hinf, hsize⟩ := ie_run ht
    refine ⟨.pointer (some ⟨blk, n.toNat * esz, none⟩), ?_, ⟨blk, hb, rfl⟩⟩
    simp [execOp, hv, hn, Instr.indexAt, asIntOf, run_underlying hu, h0, h1, sizeOf, typeInfo, hinf, hsize, Addr.add_lit]
/-- a nil check that is passed -/
theorem op_nckl {x : Operand} {k off : Nat} (hN : d < N) (hx : opd x s = some (.lp k off)) : OpOK P N ⟨some d, .nilCheck x, ty, pos, af, g⟩ s (rd x) [(.s d, .sv (.lp k off))] :=
  OpOK.val rfl hN fun E G L a w t hr hR => by
    obtain ⟨blk, hb, hv⟩ := opd_sound hr hR hx
    exact ⟨.pointer (some ⟨blk, off, none⟩), by simp [execOp, hv], ⟨blk, hb, rfl⟩⟩
theorem op_nckk {x : Operand} {cs : List AV} (hN : d < N) (hx : opv x s = some (.kp cs)) : OpOK P N ⟨some d, .nilCheck x, ty, pos, af, g⟩ s (rd x) [(.s d, .sv (.v (.kp cs)))] :=
  OpOK.val rfl hN fun E G L a w t hr hR => by
    have hv := opv_sound hr hR hx
    generalize hav : a.eval x = u at hv
    cases hv
    rename_i blk off vs hk hff hvv
    exact ⟨.pointer (some ⟨blk, off, none⟩), by simp [execOp, hav], V.kp blk off cs vs hk hff hvv⟩

/-- A row of cells, some of them written. -/
def setAt (cs : List Sv) (o : Nat) (ys : List Sv) : List Sv := cs.take o ++ ys ++ cs.drop (o + ys.length)
/-- store into a local box -/
theorem op_stb {t1 : TypeId} {x y : Operand} {k off n : Nat} {b : Bool} {cv : CV} {cs : List Sv} {z : Sv} (hl : lk P t1 = some (b, n)) (hx : opd x s = some (.lp k off)) (hk : get s (.b k) = some cv) (hcv : cv.box? = some cs) (hy : opd y s = some z) (ht : z.isTup = false)
    (hn : z.cells.length = n) (hf : off + n ≤ cs.length) : OpOK P N ⟨none, .store t1 x y, ty, pos, af, g⟩ s (rd x ++ (rd y ++ [.b k])) [(.b k, cv.setBox (setAt cs off z.cells))] := by
  intro t hR E G L a w hr K Q hK
  obtain ⟨blk, hb, hv⟩ := opd_sound hr hR.left hx
  have hz := opd_sound hr hR.right.left hy
  have hk' : get t (.b k) = some cv := by rw [hR (.b k) (by simp)]; exact hk
  obtain ⟨blk', o, hb', hbase, hh, hob, hno⟩ := hr.box k cv hk' (box_live hcv)
  obtain ⟨arr, el, rfl, hsz, hc⟩ := box_obj hcv hob
  rw [hb] at hb'; cases hb'
  obtain ⟨h1, h2⟩ := svcells hz (isTup_ne ht)
  have hlen : (a.eval y).cells.toList.length = n := by rw [Array.length_toList, h1, hn]
  have hone : ∀ u ∈ (a.eval y).cells.toList, u.oneCell' = true := by
    intro u hu
    obtain ⟨j, hj, rfl⟩ := List.mem_iff_getElem.1 hu
    have hj' : j < z.cells.length := by omega
    obtain ⟨q1, q2⟩ := h2 j z.cells[j] (by simp [hj'])
    have : (a.eval y).cells.getD j undef = (a.eval y).cells.toList[j] := by
      rw [Array.getD_eq_getD_getElem?, ← Array.getElem?_toList, List.getElem?_eq_getElem hj]; rfl
    rw [← this]
    exact q2.oneCell q1
  have hst := run_storeCells_at P blk off el (a.eval y).cells.toList 0 arr w hh (by rw [hlen, hsz]; simpa using hf) hone
  obtain ⟨_, hs⟩ := lk_run hl w
  simp only [Nat.add_zero] at hst
  let arr' : Array Value := (arr.toList.take off ++ (a.eval y).cells.toList ++ arr.toList.drop (off + (a.eval y).cells.toList.length)).toArray
  have hrun : (execOp a.eval ⟨none, .store t1 x y, ty, pos, af, g⟩).run P w = .ok .skip (w.setRow blk arr') := by
    have hne : ¬ ((a.eval y).cells.size ≠ n) := by rw [h1, hn]; simp
    simp only [execOp, Sem.run_bind, hv, Instr.storeAt, Instr.sureAddr, Sem.run_pure, Result.andThen_ok, storeVar, hs]
    rw [if_neg hne]
    simp only [hst, Result.andThen_ok]
    rfl
  have hobj : ObjOK G L (.cells arr' el (0, 0)) (cv.setBox (setAt cs off z.cells)) := by
    have hl1 : (arr.toList.take off).length = off := by rw [List.length_take, Array.length_toList]; omega
    have hl2 : (cs.take off).length = off := by rw [List.length_take]; omega
    refine box_set hcv ?_ fun j u e => ?_
    · simp only [arr', setAt, List.size_toArray, List.length_append, hl1, hl2, hlen, hn, List.length_drop, Array.length_toList, hsz]
    · have key : arr'.getD j undef = if j < off then arr.getD j undef else if j < off + n then (a.eval y).cells.getD (j - off) undef else arr.getD j undef := by
        simp only [arr', Array.getD_eq_getD_getElem?, List.getElem?_toArray]
        rw [List.append_assoc]
        split
        · rename_i hj
          rw [List.getElem?_append_left (by omega), List.getElem?_take, if_pos hj, Array.getElem?_toList]
        · rename_i hj
          rw [List.getElem?_append_right (by omega), hl1]
          split
          · rename_i hj2
            rw [List.getElem?_append_left (by omega), Array.getElem?_toList]
          · rename_i hj2
            rw [List.getElem?_append_right (by omega), hlen, List.getElem?_drop, Array.getElem?_toList]
            congr 2
            omega
      rw [key]
      simp only [setAt] at e
      rw [List.append_assoc] at e
      split
      · rename_i hj
        rw [List.getElem?_append_left (by omega), List.getElem?_take, if_pos hj] at e
        exact hc j u e
      · rename_i hj
        rw [List.getElem?_append_right (by omega), hl2] at e
        split
        · rename_i hj2
          rw [List.getElem?_append_left (by omega)] at e
          exact h2 _ u e
        · rename_i hj2
          rw [List.getElem?_append_right (by omega), List.getElem?_drop] at e
          have he : off + z.cells.length + (j - off - z.cells.length) = j := by omega
          rw [he] at e
          exact hc j u e
  have hr2 := hr.turn (cv := cv.setBox (setAt cs off z.cells)) hk' (box_live hcv) (by cases cv <;> rfl) (by cases cv <;> first | rfl | cases hcv) hb hobj (w' := w.setRow blk arr') rfl rfl rfl (size_setRow w blk arr') (fun j hj => setRow_other w blk j arr' hj) (setRow_heap w blk arr arr' el (0, 0) hh)
  unfold Oper.wp
  rw [hrun]
  exact hK undef _ G L hr2
theorem op_stl {t1 : TypeId} {x y : Operand} {k off n : Nat} {b : Bool} {cs : List Sv} {z : Sv} (hl : lk P t1 = some (b, n)) (hx : opd x s = some (.lp k off)) (hk : get s (.b k) = some (.bx cs)) (hy : opd y s = some z) (ht : z.isTup = false)
    (hn : z.cells.length = n) (hf : off + n ≤ cs.length) : OpOK P N ⟨none, .store t1 x y, ty, pos, af, g⟩ s (rd x ++ (rd y ++ [.b k])) [(.b k, .bx (setAt cs off z.cells))] := op_stb hl hx hk rfl hy ht hn hf
theorem op_sto {t1 : TypeId} {x y : Operand} {k off n id : Nat} {b : Bool} {cs : List Sv} {z : Sv} (hl : lk P t1 = some (b, n)) (hx : opd x s = some (.lp k off)) (hk : get s (.b k) = some (.ob id cs)) (hy : opd y s = some z) (ht : z.isTup = false)
    (hn : z.cells.length = n) (hf : off + n ≤ cs.length) : OpOK P N ⟨none, .store t1 x y, ty, pos, af, g⟩ s (rd x ++ (rd y ++ [.b k])) [(.b k, .ob id (setAt cs off z.cells))] := op_stb hl hx hk rfl hy ht hn hf
end
end Go.Proofs.YthoncmadikifnaaDoor.X
