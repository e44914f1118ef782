/- The program logic's rules: a text appended to a row; to a fresh conversion. No condition. -/
import Derived.Test.YthoncmadikifnaaDoorXM
import Derived.Lib.AppendStr
set_option linter.unusedVariables false
set_option linter.unusedSimpArgs false
namespace Go.Proofs.YthoncmadikifnaaDoor.X
open Go Go.RowKit
/-- cells stored into a row whose mark lies behind them -/
theorem run_storeCells_atE (P : Program) (g o : Nat) (t : TypeId) (fz : Nat × Nat) : ∀ (vs : List Value) (i : Nat) (cur : Array Value) (w : World), w.heap[g]? = some (.cells cur t fz) → o + i + vs.length ≤ fz.1 → o + i + vs.length ≤ cur.size → (∀ v ∈ vs, v.oneCell' = true) →
    (storeCells ⟨g, o, none⟩ vs i).run P w = .ok () (w.setRow g (cur.toList.take (o + i) ++ vs ++ cur.toList.drop (o + i + vs.length)).toArray)
  | [], i, cur, w, hg, _, _, _ => by
    simp only [storeCells, List.append_nil, List.length_nil, Nat.add_zero, List.take_append_drop, Array.toArray_toList]
    rw [setRow_self w g cur t fz hg]
    rfl
  | v :: rest, i, cur, w, hg, hfz, hl, h1 => by
    have hi : o + i < cur.size := by simp at hl; omega
    have hadd : (⟨g, o, none⟩ : Addr).add i = ⟨g, o + i, none⟩ := by unfold Addr.add; split <;> simp_all
    have hcell : w.cell? ⟨g, o + i, none⟩ = some cur[o + i] := by simp [World.cell?, hg, hi]
    have hfro : w.frozen? ⟨g, o + i, none⟩ = false := by
      obtain ⟨lo, hi'⟩ := fz
      simp only [World.frozen?, hg, Bool.and_eq_false_iff, decide_eq_false_iff_not]
      left
      simp only [List.length_cons] at hfz
      omega
    have hst : (store ((⟨g, o, none⟩ : Addr).add i) v).run P w = .ok () (w.setRow g (cur.setIfInBounds (o + i) v)) := by
      rw [hadd, run_store P w _ v _ (h1 v (by simp)), hcell]
      simp [hfro, setCell_eq_setRow w g (o + i) cur t fz v hg]
    have ih := run_storeCells_atE P g o t fz rest (i + 1) (cur.setIfInBounds (o + i) v) (w.setRow g (cur.setIfInBounds (o + i) v)) (setRow_heap w g cur _ t _ hg) (by simp at hfz ⊢; omega) (by simp at hl ⊢; omega) (fun x hx => h1 x (by simp [hx]))
    simp only [storeCells, Sem.run_bind, hst, Result.andThen_ok, ih, setRow_setRow]
    congr 3
    have e := list_seg_step cur.toList (o + i) v rest (by simp at hl ⊢; omega)
    simpa [Array.toList_setIfInBounds, Nat.add_assoc] using e
theorem run_append_room_strE {P : Program} (w : World) (t u ty e : TypeId) (i : TypeInfo) (ht : P.underlying t = some (.slice e)) (hu : P.underlying u = some .string) (hi : P.info? e = some i) (hs1 : i.size = 1)
    (g sLen sCap : Nat) (cur : Array Value) (fz : Nat × Nat) (hg : w.heap[g]? = some (.cells cur e fz)) (s : ByteArray) (hfz : sLen + s.size ≤ fz.1)
    (hroom : sLen + s.size ≤ sCap) (hfit : sLen + s.size ≤ cur.size) :
    (Builtin.append_ #[t, u] ty #[.slice (some ⟨g, 0, none⟩) sLen sCap, .string s]).run P w =
      .ok (.slice (some ⟨g, 0, none⟩) (sLen + s.size) sCap) (w.setRow g (cur.toList.take sLen ++ Lib.strCells s ++ cur.toList.drop (sLen + s.size)).toArray) := by
  have hf := Lib.run_firstCells_string (P := P) w 1 s
  have hst := run_storeCells_atE P g sLen e fz (Lib.strCells s) 0 cur w hg (by simpa [Lib.strCells_length] using hfz) (by simpa [Lib.strCells_length] using hfit) (Lib.strCells_oneCell s)
  simp only [Nat.add_zero, Lib.strCells_length] at hst
  simp [Builtin.append_, run_underlying ht, run_underlying hu, sizeOf, typeInfo, hi, hs1, Builtin.lenOf, hroom, hf, Addr.add_lit, hst]
/-- append of a text, run: in place or in a new block. -/
theorem run_apps {P : Program} {base t u ty el : Nat} {inf : TypeInfo} {z : Value} (ht : P.underlying t = some (.slice el)) (hu : P.underlying u = some .string) (hi : P.info? el = some inf) (hz : inf.zero = some z) (hzs : z.cells.size = 1) (hs1 : inf.size = 1) {w : World} {v : Value} {n : Nat} {cells : List Value} (hown : w.ownsRow base el 1 v n cells)
    (s : ByteArray) (h63 : n + s.size ≤ 9223372036854775807) (hb : (n + s.size) * inf.bytes ≤ 140737488355328) (hbase : base ≤ w.heap.size) :
    ∃ v1 w1, (Builtin.append_ #[t, u] ty #[v, .string s]).run P w = .ok v1 w1 ∧ w1.ownsRow base el 1 v1 (n + s.size) (cells ++ Lib.strCells s) ∧ w.grownBy w1 v.ownBlock ∧ (v1.ownBlock = v.ownBlock ∨ v1.ownBlock = some w.heap.size) ∧
      (∀ b, v.ownBlock = some b → ∀ o u, cells[o]? = some u → w1.cell? ⟨b, o, none⟩ = some u) := by
  have hsl := Lib.strCells_length s
  have hm63 : n + s.size ≤ maxLen := by simp only [maxLen]; omega
  have hcl : cells.length = n := by simpa using hown.1
  have hlen : (cells ++ Lib.strCells s).length = (n + s.size) * 1 := by rw [List.length_append, hcl, hsl, Nat.mul_one]
  have fresh : ∀ cap0 row, (w.drew.alloc (.cells (cells.toArray ++ (Lib.strCells s).toArray ++ Builtin.zeroCells z.cells (grownCap w (n + s.size) cap0 el - (n + s.size))) el)).ownsRow base el 1 (.slice (some ⟨w.heap.size, 0, none⟩) (n + s.size) (grownCap w (n + s.size) cap0 el)) (n + s.size) (cells ++ Lib.strCells s) ∧
      w.grownBy (w.drew.alloc (.cells (cells.toArray ++ (Lib.strCells s).toArray ++ Builtin.zeroCells z.cells (grownCap w (n + s.size) cap0 el - (n + s.size))) el)) row := by
    intro cap0 row
    have hge := grownCap_ge w (n + s.size) cap0 el
    refine ⟨⟨hlen, .inr ⟨w.heap.size, _, _, rfl, hbase, heap_alloc_new w.drew _, hge, grownCap_le_maxLen w _ _ _ hm63, ?_, ?_⟩⟩, rfl, rfl, rfl, by simp, fun k hk _ => Below.heap_alloc w.drew _ k hk⟩
    · simp only [Array.size_append, List.size_toArray, size_zeroCells, hzs, hcl, hsl]
      omega
    · rw [← hlen]
      simp only [Array.toList_append, List.toList_toArray]
      exact List.take_left
  rcases hown.2 with ⟨rfl, rfl⟩ | ⟨q, cap, cur, rfl, hq, hh, hnc, hcm, hcs, htake⟩
  · have hce : cells = [] := List.eq_nil_of_length_eq_zero hcl
    subst hce
    by_cases hm : s.size = 0
    · have hn : Lib.strCells s = [] := List.eq_nil_of_length_eq_zero (by rw [hsl]; exact hm)
      refine ⟨.slice none 0 0, w, ?_, by rw [hm, hn]; exact World.ownsRow_nil w base el 1, ⟨rfl, rfl, rfl, Nat.le_refl _, fun _ _ _ => rfl⟩, .inl rfl, fun b hb => by simp [Value.ownBlock] at hb⟩
      have hf := Lib.run_firstCells_string (P := P) w 1 s
      rw [hm] at hf
      simp [Builtin.append_, run_underlying ht, run_underlying hu, sizeOf, typeInfo, hi, hs1, Builtin.lenOf, hm, hf]
    · have hr := run_append_nil_string (P := P) w t u ty el inf z ht hu hi hz s (by omega) (by omega) (by simp only [Nat.zero_add] at hb; omega)
      have hgr := fresh 0 (Value.ownBlock (.slice none 0 0))
      simp only [Nat.zero_add, List.nil_append] at hgr ⊢
      have e0 : (#[] : Array Value) ++ (Lib.strCells s).toArray = (Lib.strCells s).toArray := by simp
      rw [e0] at hgr
      have e1 : (s.data.map fun b => Value.int .u8 b.toNat) = (Lib.strCells s).toArray := by
        apply Array.ext'
        simp [Lib.strCells]
      rw [e1] at hr
      exact ⟨_, _, hr, hgr.1, hgr.2, .inr rfl, fun b hb => by simp [Value.ownBlock] at hb⟩
  · simp only [Nat.mul_one] at hcs htake
    by_cases hroom : n + s.size ≤ cap
    · have hr := Lib.run_append_room_string (P := P) w t u ty el inf ht hu hi hs1 q n cap cur hh s hroom (by omega)
      have ho1 : (w.setRow q (cur.toList.take n ++ Lib.strCells s ++ cur.toList.drop (n + s.size)).toArray).ownsRow base el 1 (.slice (some ⟨q, 0, none⟩) (n + s.size) cap) (n + s.size) (cells ++ Lib.strCells s) := by
        refine ⟨hlen, .inr ⟨q, cap, _, rfl, hq, setRow_heap w q cur _ el _ hh, hroom, hcm, ?_, ?_⟩⟩
        · simp only [List.size_toArray, List.length_append, List.length_take, List.length_drop, Array.length_toList, hsl]; omega
        · rw [htake, ← hlen]
          exact List.take_left
      refine ⟨_, _, hr, ho1, ⟨rfl, rfl, rfl, by simp, fun k _ hk => setRow_other w q k _ (fun e => hk (by simp [Value.ownBlock, e]))⟩, .inl rfl, fun b hb o u e => ?_⟩
      have := ho1.cells (g := b) hb o u (by rw [List.getElem?_append_left (List.getElem?_eq_some_iff.1 e).1]; exact e)
      rwa [Addr.add_lit, Nat.zero_add] at this
    · have hr := Lib.run_append_grow_string (P := P) w t u ty el inf z ht hu hi hz ⟨q, 0, none⟩ n cap cells (by rw [hs1, Nat.mul_one]; exact hcl) (hown.cells (g := q) rfl) s (by omega) (by omega) (growslice_fits (by omega) hb)
      have hf := fresh cap (Value.ownBlock (.slice (some ⟨q, 0, none⟩) n cap))
      refine ⟨_, _, hr, hf.1, hf.2, .inr rfl, fun b hb o u e => ?_⟩
      have h2 := hown.cells (g := b) hb o u e
      rw [Addr.add_lit, Nat.zero_add] at h2
      have hlt := World.block_lt_of_cell? w _ h2
      rw [World.cell?_of_block (w := w) (Below.heap_alloc w.drew _ b hlt)]
      exact h2
theorem strCells_lay (G : Gh) (l : List UInt8) : Lay G 1 (bsl l) (Lib.strCells ⟨l.toArray⟩) := by
  have hg : ∀ (i : Nat) (e : AV), (bsl l)[i]? = some e → ∃ c : UInt8, l[i]? = some c ∧ e = AV.int .u8 (c.toNat : Int) := by
    intro i e h
    simp only [bsl, List.getElem?_map] at h
    cases hc : l[i]? with
    | none => rw [hc] at h; cases h
    | some c => rw [hc] at h; cases h; exact ⟨c, rfl, rfl⟩
  refine ⟨fun i e h => ?_, fun i e j c h hj => ?_⟩
  · obtain ⟨c, _, rfl⟩ := hg i e h; rfl
  · obtain ⟨u, hu, rfl⟩ := hg i e h
    have hj0 : j = 0 := by have := (List.getElem?_eq_some_iff.1 hj).1; simp [AV.cells] at this; exact this
    subst hj0
    cases hj
    refine ⟨rfl, ?_⟩
    simp only [Nat.mul_one, Nat.add_zero, Lib.strCells, List.getD_eq_getElem?_getD, List.getElem?_map, hu, Option.map_some, Option.getD_some]
    exact .int _ _
section
variable {P : Program} {N : Nat} {s : St} {d : Nat} {ty : TypeId} {pos : String} {af : Array Edge} {g : Option (Nat × Bool)}
/-- append(x, text...) -/
theorem op_aps {t1 t2 el by_ : Nat} {x y : Operand} {k : Nat} {xs : List AV} {l : List UInt8} (hN : d < N) (ht : se P t1 = some (el, 1, by_)) (hu : P.underlying t2 = some .string) (hx : opd x s = some (.ow k xs)) (hk : get s (.t k) = some (.tk false el 1 xs)) (hy : opv y s = some (.str l)) (hd : get s (.t d) = none)
    (hb : (xs.length + l.length) * by_ ≤ 140737488355328) (h63 : xs.length + l.length ≤ 9223372036854775807) :
    OpOK P N ⟨some d, .call { callee := .builtin .append, args := #[x, y], argTypes := #[t1, t2] }, ty, pos, af, g⟩ s (rd x ++ (rd y ++ [.t k, .t d])) [(.s d, .sv (.ow d (xs ++ bsl l))), (.t d, .tk false el 1 (xs ++ bsl l)), (.t k, .gone)] := by
  intro t hR E G L a w hr K Q hK
  obtain ⟨i, z, hus, hi, hzz, hzs, hsz, hby, hpos⟩ := se_run ht
  subst hby
  have hk' : get t (.t k) = some (.tk false el 1 xs) := by rw [hR (.t k) (by simp)]; exact hk
  have hd' : get t (.t d) = none := by rw [hR (.t d) (by simp)]; exact hd
  have hVx := opd_sound hr hR.left hx
  have hVy := V_str (opv_sound hr hR.right.left hy)
  obtain ⟨v, hv, ⟨cells, hV, hown, _, hLx, hkn0⟩, hmay⟩ := hr.tok k false el 1 xs hk'
  have hkn : ∀ blk, v.ownBlock = some blk → ∀ o u, G.kn blk o = some u → false = false ∧ cells[o]? = some u := fun blk e => row_kn hown.1 (hkn0 blk e)
  have hav : a.eval x = v := by have hvk := hVx.2; rw [hvk] at hv; cases hv; rfl
  have e1 : (⟨l.toArray⟩ : ByteArray).size = l.length := by simp [ByteArray.size]
  have e2 : (bsl l).length = l.length := by simp [bsl]
  obtain ⟨v1, w1, hrun, ho1, hg, hat, hcell⟩ := run_apps (ty := ty) hus hu hi hzz hzs hsz hown ⟨l.toArray⟩ (by rw [e1]; exact h63) (by rw [e1]; exact hb) (Nat.zero_le _)
  have he : (execOp a.eval ⟨some d, .call { callee := .builtin .append, args := #[x, y], argTypes := #[t1, t2] }, ty, pos, af, g⟩).run P w = .ok (.value v1) w1 := by
    simp only [execOp, resolve, invoke, builtin, Sem.run_bind, Sem.run_pure, Result.andThen_ok, List.map_toArray, List.map_cons, List.map_nil, hav, hVy, hrun]
  unfold Oper.wp
  rw [he]
  rw [e1, ← e2] at ho1
  obtain ⟨G', hV', hle, hr'⟩ := grow_tok hr hk' hd' hv hown hLx hpos hkn ho1 hg hat hcell (strCells_lay G l)
  exact hK _ _ G' _ (hr'.put d hN _ (.ow d (xs ++ bsl l)) ⟨hV' rfl, by simp [Loc.setTok]⟩)
theorem vop_fal {t1 : TypeId} {x : Operand} {i k off o : Nat} {dst : Option Tmp} (hf : fo P t1 i = some o) (hx : opd x s = some (.lp k off)) : ∀ E G L a w, Rel E N G L a w s →
    ∃ v, (execOp a.eval ⟨dst, .fieldAddr t1 x i, ty, pos, af, g⟩).run P w = .ok (.value v) w ∧ SV G L v (.lp k (off + o)) := fun E G L a w hr => by
  obtain ⟨blk, hb, hv⟩ := opd_sound hr (fun _ _ => rfl) hx
  refine ⟨.pointer (some ⟨blk, off + o, none⟩), ?_, ⟨blk, hb, rfl⟩⟩
  simp [execOp, hv, fo_run hf, Addr.add_lit]
theorem vop_ldl {t1 : TypeId} {x : Operand} {k off n : Nat} {b : Bool} {cs : List Sv} {z : Sv} {dst : Option Tmp} (hl : lk P t1 = some (b, n)) (hx : opd x s = some (.lp k off)) (hk : get s (.b k) = some (.bx cs)) (hz : ldc b n (cs.drop off) = some z) : ∀ E G L a w, Rel E N G L a w s →
    ∃ v, (execOp a.eval ⟨dst, .load t1 x, ty, pos, af, g⟩).run P w = .ok (.value v) w ∧ SV G L v z := fun E G L a w hr => by
  obtain ⟨blk, hb, hv⟩ := opd_sound hr (fun _ _ => rfl) hx
  obtain ⟨blk', o, hb', hbase, hh, ⟨arr, el, rfl, hsz, hc⟩, hn⟩ := hr.box k (.bx cs) hk rfl
  rw [hb] at hb'; cases hb'
  have hcell : ∀ (j : Nat) y, (cs.drop off)[j]? = some y → w.cell? ((⟨blk, off, none⟩ : Addr).add j) = some (arr.getD (off + j) undef) ∧ y.flat = true ∧ SV G L (arr.getD (off + j) undef) y := by
    intro j y e
    rw [List.getElem?_drop] at e
    refine ⟨?_, hc _ y e⟩
    have hlt : off + j < arr.size := by have := (List.getElem?_eq_some_iff.1 e).1; omega
    rw [Addr.add_lit, cell_of_row w blk (off + j) arr el (0, 0) hh, Array.getD_eq_getD_getElem?, Array.getElem?_eq_getElem hlt]
    rfl
  obtain ⟨v, hrun, hV⟩ := run_load_of (P := P) hl hz hcell
  exact ⟨v, by simp [execOp, hv, Instr.loadAt, Instr.sureAddr, hrun], hV⟩
end
theorem V_bytes_known (G : Gh) (b cap : Nat) (l : List UInt8) (hc : l.length ≤ cap) : V (G.add b (Lib.strCells ⟨l.toArray⟩)) (.slice (some ⟨b, 0, none⟩) l.length cap) (.sl (bsl l)) := by
  have hlen : (bsl l).length = l.length := by simp [bsl]
  have hL := strCells_lay (G.add b (Lib.strCells ⟨l.toArray⟩)) l
  have := V.slN (G := G.add b (Lib.strCells ⟨l.toArray⟩)) b 0 cap 1 (bsl l) (fun i j => (Lib.strCells ⟨l.toArray⟩).getD (i * 1 + j) undef) (by omega) hL.1 (fun i e j c he hj => by
      have hi := (List.getElem?_eq_some_iff.1 he).1
      have hj0 := (List.getElem?_eq_some_iff.1 hj).1
      rw [hL.1 i e he] at hj0
      have hlt : i * 1 + j < (Lib.strCells ⟨l.toArray⟩).length := by rw [Lib.strCells_length]; simp [ByteArray.size]; omega
      rw [Nat.zero_add, add_kn, List.getD_eq_getElem?_getD, List.getElem?_eq_getElem hlt]; rfl) (fun i e j c he hj => (hL.2 i e j c he hj).1) (fun i e j c he hj => (hL.2 i e j c he hj).2)
  rw [hlen] at this; exact this
/-- append([]byte(text), text2...), the second text a field of a local: four operations at once -/
theorem TriL.cvap {P : Program} {N : Nat} {ops : Array Oper} {l : List Oper} {s : St} {Q : St → Prop} {d1 d2 d3 d4 : Nat} {t1 t2 tf tl by_ ty1 ty2 ty3 ty4 : TypeId} {td : TypeDesc} {pos1 pos2 pos3 pos4 : String} {af1 af2 af3 af4 : Array Edge} {x y : Operand} {i o k off el : Nat} {cs : List Sv} {b : Bool} {l1 l2 : List UInt8}
    (h1 : d1 < N) (h2 : d2 < N) (h3 : d3 < N) (h4 : d4 < N) (hne : d1 ≠ d2 ∧ d1 ≠ d3) (ht : se P t2 = some (el, 1, by_)) (htd : P.underlying t1 = some td) (hel : P.underlying el = some (.int .u8)) (hst : P.underlying tl = some .string)
    (hx : opv x s = some (.str l1)) (hfo : fo P tf i = some o) (hy : opd y ((.s d1, .gone) :: s) = some (.lp k off)) (hlk : lk P tl = some (b, 1)) (hk : get s (.b k) = some (.bx cs)) (hz : ldc b 1 (cs.drop (off + o)) = some (.v (.str l2)))
    (hb : (l1.length + l2.length) * by_ ≤ 140737488355328) (h63 : l1.length + l2.length ≤ 9223372036854775807)
    (h : TriL P N ops l ((.s d4, .sv (.v (.sl (bsl (l1 ++ l2))))) :: (.s d3, .sv (.v (.str l2))) :: (.s d2, .sv (.lp k (off + o))) :: (.s d1, .gone) :: s) Q) :
    TriL P N ops (⟨some d1, .convert t1 t2 x, ty1, pos1, af1, none⟩ :: ⟨some d2, .fieldAddr tf y i, ty2, pos2, af2, none⟩ :: ⟨some d3, .load tl (.tmp d2), ty3, pos3, af3, none⟩ :: ⟨some d4, .call { callee := .builtin .append, args := #[.tmp d1, .tmp d3], argTypes := #[t2, tl] }, ty4, pos4, af4, none⟩ :: l) s Q := by
  intro E a w ⟨G, L, hr⟩ QQ hQ
  obtain ⟨inf, z, hus, hi, hzz, hzs, hsz, hby, hpos⟩ := se_run ht
  subst hby
  have hv := V_str (opv_sound hr (fun _ _ => rfl) hx)
  have hrun := Lib.run_convert_string_bytes (P := P) w t1 t2 el ⟨l1.toArray⟩ htd hus hel
  have e1 : (⟨l1.toArray⟩ : ByteArray).size = l1.length := by simp [ByteArray.size]
  have e2 : (⟨l2.toArray⟩ : ByteArray).size = l2.length := by simp [ByteArray.size]
  have hg1 : w.grownBy (Lib.bytesWorld w el ⟨l1.toArray⟩) none := ⟨rfl, rfl, rfl, by rw [Lib.bytesWorld_size]; omega, fun k hk _ => Lib.bytesWorld_at_old w el _ k hk⟩
  obtain ⟨_, hr1⟩ := hr.known hg1 (Nat.le_refl _) (cells := []) (fun o v e => by simp at e)
  generalize hw1 : Lib.bytesWorld w el ⟨l1.toArray⟩ = w1 at hrun hg1 hr1
  generalize hcap : grownCap w (⟨l1.toArray⟩ : ByteArray).size 0 el = cap at hrun
  have hcge : l1.length ≤ cap := by rw [← hcap, e1]; exact grownCap_ge _ _ _ _
  rw [e1] at hrun
  have hr1' := hr1.drop (some d1) (.slice (some ⟨w.heap.size, 0, none⟩) l1.length cap)
  refine wpList_plain rfl fun K hK => ?_
  have he1 : (execOp a.eval ⟨some d1, .convert t1 t2 x, ty1, pos1, af1, none⟩).run P w = .ok (.value (.slice (some ⟨w.heap.size, 0, none⟩) l1.length cap)) w1 := by
    simp only [execOp, Sem.run_bind, hv, hrun, Result.andThen_ok, Sem.run_pure]
  unfold Oper.wp
  rw [he1]
  refine hK _ _ ?_
  generalize ha1 : a.put (some d1) (.slice (some ⟨w.heap.size, 0, none⟩) l1.length cap) = a1 at hr1' ⊢
  obtain ⟨v2, he2, hv2⟩ := vop_fal (P := P) (ty := ty2) (pos := pos2) (af := af2) (g := none) (dst := some d2) hfo hy _ _ _ _ _ hr1'
  have hr2 := hr1'.put d2 h2 v2 _ hv2
  refine wpList_plain rfl fun K hK => ?_
  unfold Oper.wp
  rw [he2]
  refine hK _ _ ?_
  obtain ⟨v3, he3, hv3⟩ := vop_ldl (P := P) (ty := ty3) (pos := pos3) (af := af3) (g := none) (dst := some d3) (x := .tmp d2) hlk (by simp [opd, get]) (show get ((.s d2, .sv (.lp k (off + o))) :: (.s d1, .gone) :: s) (.b k) = some (.bx cs) by simpa [get] using hk) hz _ _ _ _ _ hr2
  refine wpList_plain rfl fun K hK => ?_
  unfold Oper.wp
  rw [he3]
  refine hK _ _ ?_
  have hv3' := V_str hv3
  subst hv3'
  generalize ha2 : a1.put (some d2) v2 = a2 at hr2 ⊢
  have hsz0 := hr.size
  have hsz1 := hr1'.size
  have hsz2 := hr2.size
  have hev1 : (a2.put (some d3) (.string ⟨l2.toArray⟩)).eval (.tmp d1) = .slice (some ⟨w.heap.size, 0, none⟩) l1.length cap := by
    show ((a2.put (some d3) (.string ⟨l2.toArray⟩)).tmps.getD d1 undef) = _
    rw [← ha2, ← ha1]
    simp only [Act.put, Array.getD_eq_getD_getElem?]
    rw [Array.getElem?_setIfInBounds_ne (Ne.symm hne.2), Array.getElem?_setIfInBounds_ne (Ne.symm hne.1), Array.getElem?_setIfInBounds_self_of_lt (by omega)]; rfl
  have hev3 : (a2.put (some d3) (.string ⟨l2.toArray⟩)).eval (.tmp d3) = .string ⟨l2.toArray⟩ := by
    show ((a2.put (some d3) (.string ⟨l2.toArray⟩)).tmps.getD d3 undef) = _
    simp only [Act.put, Array.getD_eq_getD_getElem?]
    rw [Array.getElem?_setIfInBounds_self_of_lt (by omega)]; rfl
  have hnew := Lib.bytesWorld_at_new w el ⟨l1.toArray⟩
  rw [hw1] at hnew
  have hcells : ∀ j v, (Lib.strCells ⟨l1.toArray⟩)[j]? = some v → w1.cell? ((⟨w.heap.size, 0, none⟩ : Addr).add j) = some v := by
    intro j v e
    have hj : j < l1.length := by have := (List.getElem?_eq_some_iff.1 e).1; rw [Lib.strCells_length, e1] at this; exact this
    have := Lib.bytesWorld_cell w el ⟨l1.toArray⟩ j (by rw [e1]; exact hj)
    rw [hw1] at this
    rw [Addr.add_lit, Nat.zero_add, this]
    simp only [Lib.strCells, List.getElem?_map, List.getElem?_eq_getElem hj, Option.map_some, Option.some.injEq] at e
    rw [← e]; simp [List.getD_eq_getElem?_getD, List.getElem?_eq_getElem hj]
  have hbsz : (Lib.bytesCells w el ⟨l1.toArray⟩).size = cap := by
    rw [e1] at hcap
    simp only [Lib.bytesCells, Array.size_append, Array.size_map, Array.size_replicate, e1, hcap]
    simp; omega
  have hs12 : Lib.strCells ⟨(l1 ++ l2).toArray⟩ = Lib.strCells ⟨l1.toArray⟩ ++ Lib.strCells ⟨l2.toArray⟩ := by simp [Lib.strCells]
  -- the append
  have happ : ∃ blk cap2 w2, (Builtin.append_ #[t2, tl] ty4 #[.slice (some ⟨w.heap.size, 0, none⟩) l1.length cap, .string ⟨l2.toArray⟩]).run P w1 = .ok (.slice (some ⟨blk, 0, none⟩) (l1 ++ l2).length cap2) w2 ∧
      w.grownBy w2 none ∧ w.heap.size ≤ blk ∧ (l1 ++ l2).length ≤ cap2 ∧ ∀ o v, (Lib.strCells ⟨(l1 ++ l2).toArray⟩)[o]? = some v → w2.cell? ⟨blk, o, none⟩ = some v := by
    rw [List.length_append]
    by_cases hroom : l1.length + l2.length ≤ cap
    · have hra := run_append_room_strE (P := P) w1 t2 tl ty4 el inf hus hst hi hsz w.heap.size l1.length cap _ _ hnew ⟨l2.toArray⟩ (by rw [e2, hbsz]; exact hroom) (by rw [e2]; exact hroom) (by rw [e2, hbsz]; exact hroom)
      rw [e2] at hra
      refine ⟨_, _, _, hra, ⟨hg1.os, hg1.tape, hg1.output, by rw [size_setRow]; exact hg1.size, fun k hk _ => by rw [setRow_other w1 w.heap.size k _ (by omega)]; exact hg1.block k hk (by simp)⟩, Nat.le_refl _, hroom, fun o v e => ?_⟩
      have hh := setRow_heap w1 w.heap.size _ ((Lib.bytesCells w el ⟨l1.toArray⟩).toList.take l1.length ++ Lib.strCells ⟨l2.toArray⟩ ++ (Lib.bytesCells w el ⟨l1.toArray⟩).toList.drop (l1.length + l2.length)).toArray el _ hnew
      rw [cell_of_row _ _ _ _ _ _ hh]
      have hhead : (Lib.bytesCells w el ⟨l1.toArray⟩).toList.take l1.length = Lib.strCells ⟨l1.toArray⟩ := by
        simp only [Lib.bytesCells, Array.toList_append, Array.toList_map]
        rw [List.take_append_of_le_length (by simp), List.take_of_length_le (by simp)]
        simp [Lib.strCells]
      rw [hhead, ← hs12]
      simp only [List.getElem?_toArray]
      rw [List.getElem?_append_left (List.getElem?_eq_some_iff.1 e).1]; exact e
    · have hra := Lib.run_append_grow_string (P := P) w1 t2 tl ty4 el inf z hus hst hi hzz ⟨w.heap.size, 0, none⟩ l1.length cap (Lib.strCells ⟨l1.toArray⟩) (by rw [Lib.strCells_length, e1, hsz, Nat.mul_one]) hcells ⟨l2.toArray⟩ (by rw [e2]; omega) (by rw [e2]; omega) (by rw [e2]; exact growslice_fits (by omega) hb)
      rw [e2] at hra
      have hge := grownCap_ge w1 (l1.length + l2.length) cap el
      refine ⟨_, _, _, hra, ⟨hg1.os, hg1.tape, hg1.output, by have := hg1.size; simp; omega, fun k hk _ => ?_⟩, hg1.size, hge, fun o v e => ?_⟩
      · have h1 := hg1.size
        rw [Below.heap_alloc w1.drew _ k (by show k < w1.heap.size; omega)]
        exact hg1.block k hk (by simp)
      · have hh := heap_alloc_new w1.drew (.cells ((Lib.strCells ⟨l1.toArray⟩).toArray ++ (Lib.strCells ⟨l2.toArray⟩).toArray ++ Builtin.zeroCells z.cells (grownCap w1 (l1.length + l2.length) cap el - (l1.length + l2.length))) el)
        have hh' : (w1.drew.alloc (.cells ((Lib.strCells ⟨l1.toArray⟩).toArray ++ (Lib.strCells ⟨l2.toArray⟩).toArray ++ Builtin.zeroCells z.cells (grownCap w1 (l1.length + l2.length) cap el - (l1.length + l2.length))) el)).heap[w1.heap.size]? = _ := hh
        rw [cell_of_row _ _ _ _ _ _ hh', ← Array.getElem?_toList]
        simp only [Array.toList_append, List.toList_toArray]
        rw [← hs12, List.getElem?_append_left (List.getElem?_eq_some_iff.1 e).1]; exact e
  obtain ⟨blk, cap2, w2, hra, hg2, hblk, hc2, hkn⟩ := happ
  obtain ⟨_, hrf⟩ := hr.known hg2 hblk hkn
  refine wpList_plain rfl fun K hK => ?_
  have he4 : (execOp (a2.put (some d3) (.string ⟨l2.toArray⟩)).eval ⟨some d4, .call { callee := .builtin .append, args := #[.tmp d1, .tmp d3], argTypes := #[t2, tl] }, ty4, pos4, af4, none⟩).run P w1 = .ok (.value (.slice (some ⟨blk, 0, none⟩) (l1 ++ l2).length cap2)) w2 := by
    simp only [execOp, resolve, invoke, builtin, Sem.run_bind, Sem.run_pure, Result.andThen_ok, List.map_toArray, List.map_cons, List.map_nil, hev1, hev3, hra]
  unfold Oper.wp
  rw [he4]
  refine hK _ _ ?_
  refine h E _ _ ⟨G.add blk (Lib.strCells ⟨(l1 ++ l2).toArray⟩), L, ?_⟩ QQ hQ
  have q1 := hrf.drop (some d1) (.slice (some ⟨w.heap.size, 0, none⟩) l1.length cap)
  have q2 := q1.put d2 h2 v2 (.lp k (off + o)) hv2
  have q3 := q2.put d3 h3 (.string ⟨l2.toArray⟩) (.v (.str l2)) (V.str l2)
  have q4 := q3.put d4 h4 (.slice (some ⟨blk, 0, none⟩) (l1 ++ l2).length cap2) (.v (.sl (bsl (l1 ++ l2)))) (V_bytes_known G blk cap2 (l1 ++ l2) hc2)
  rw [ha1, ha2] at q4
  exact q4
end Go.Proofs.YthoncmadikifnaaDoor.X
