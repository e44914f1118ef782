/- The program logic's rules: a text appended to a row; to a fresh conversion. No condition. -/
import Derived.Test.YtnpgcmeclkncnaaGreatDoorYC
import Derived.Lib.AppendStr
import Derived.Test.YtnpgcmeclkncnaaGreatDoorYB
import Derived.Test.YtnpgcmeclkncnaaGreatDoorRows
import Derived.WalkKit
import Derived.ProofKit
import Derived.OpenShut
import Derived.Carry
import Derived.JoinedCond
import Derived.Deep.Strs
import Derived.Deep.Slices
import Derived.Lib.SmallJoins
import Derived.SizedLaws
import Derived.Maps.Own
import Derived.Maps.OwnSet
import Derived.Maps.Views
import Derived.Test.YtnpgcmeclkncnaaGreatDoorProg
import Derived.KernelRfl
set_option linter.unusedVariables false
set_option linter.unusedSimpArgs false
namespace Go.Proofs.YtnpgcmeclkncnaaGreatDoor.X
open Go Go.RowKit
/-- cells stored into a row whose mark lies behind them -/
theorem run_storeCells_atE (P : Program) (g o : Nat) (t : TypeId) (fz : Nat × Nat) : ∀ (vs : List Value) (i : Nat) (cur : Array Value) (w : World), w.heap[g]? = some (.cells cur t fz) → o + i + vs.length ≤ fz.1 → o + i + vs.length ≤ cur.size → (∀ v ∈ vs, v.oneCell' = true) →
    (storeCells ⟨g, o, none⟩ vs i).run P w = .ok () (w.setRow g (cur.toList.take (o + i) ++ vs ++ cur.toList.drop (o + i + vs.length)).toArray)
  | [], i, cur, w, hg, _, _, _ => by
    simp only [storeCells, List.append_nil, List.length_nil, Nat.add_zero, List.take_append_drop, Array.toArray_toList]
    rw [setRow_self w g cur t fz hg]
    rfl
  | v :: rest, i, cur, w, hg, hfz, hl, h1 => by
    have hi : o + i < cur.size := by simp at hl; omega
    have hadd : (⟨g, o, none⟩ : Addr).add i = ⟨g, o + i, none⟩ := by unfold Addr.add; split <;> simp_all
    have hcell : w.cell? ⟨g, o + i, none⟩ = some cur[o + i] := by simp [World.cell?, hg, hi]
    have hfro : w.frozen? ⟨g, o + i, none⟩ = false := by
      obtain ⟨lo, hi'⟩ := fz
      simp only [World.frozen?, hg, Bool.and_eq_false_iff, decide_eq_false_iff_not]
      left
      simp only [List.length_cons] at hfz
      omega
    have hst : (store ((⟨g, o, none⟩ : Addr).add i) v).run P w = .ok () (w.setRow g (cur.setIfInBounds (o + i) v)) := by
      rw [hadd, run_store P w _ v _ (h1 v (by simp)), hcell]
      simp [hfro, setCell_eq_setRow w g (o + i) cur t fz v hg]
    have ih := run_storeCells_atE P g o t fz rest (i + 1) (cur.setIfInBounds (o + i) v) (w.setRow g (cur.setIfInBounds (o + i) v)) (setRow_heap w g cur _ t _ hg) (by simp at hfz ⊢; omega) (by simp at hl ⊢; omega) (fun x hx => h1 x (by simp [hx]))
    simp only [storeCells, Sem.run_bind, hst, Result.andThen_ok, ih, setRow_setRow]
    congr 3
    have e := list_seg_step cur.toList (o + i) v rest (by simp at hl ⊢; omega)
    simpa [Array.toList_setIfInBounds, Nat.add_assoc] using e
theorem run_append_room_strE {P : Program} (w : World) (t u ty e : TypeId) (i : TypeInfo) (ht : P.underlying t = some (.slice e)) (hu : P.underlying u = some .string) (hi : P.info? e = some i) (hs1 : i.size = 1)
    (g sLen sCap : Nat) (cur : Array Value) (fz : Nat × Nat) (hg : w.heap[g]? = some (.cells cur e fz)) (s : ByteArray) (hfz : sLen + s.size ≤ fz.1)
    (hroom : sLen + s.size ≤ sCap) (hfit : sLen + s.size ≤ cur.size) :
    (Builtin.append_ #[t, u] ty #[.slice (some ⟨g, 0, none⟩) sLen sCap, .string s]).run P w =
      .ok (.slice (some ⟨g, 0, none⟩) (sLen + s.size) sCap) (w.setRow g (cur.toList.take sLen ++ Lib.strCells s ++ cur.toList.drop (sLen + s.size)).toArray) := by
  have hf := Lib.run_firstCells_string (P := P) w 1 s
  have hst := run_storeCells_atE P g sLen e fz (Lib.strCells s) 0 cur w hg (by simpa [Lib.strCells_length] using hfz) (by simpa [Lib.strCells_length] using hfit) (Lib.strCells_oneCell s)
  simp only [Nat.add_zero, Lib.strCells_length] at hst
  simp [Builtin.append_, run_underlying ht, run_underlying hu, sizeOf, typeInfo, hi, hs1, Builtin.lenOf, hroom, hf, Addr.add_lit, hst]
/-- append of a text, run: in place or in a new block. -/
theorem run_apps {P : Program} {base t u ty el : Nat} {inf : TypeInfo} {z : Value} (ht : P.underlying t = some (.slice el)) (hu : P.underlying u = some .string) (hi : P.info? el = some inf) (hz : inf.zero = some z) (hzs : z.cells.size = 1) (hs1 : inf.size = 1) {w : World} {v : Value} {n : Nat} {cells : List Value} (hown : w.ownsRow base el 1 v n cells)
    (s : ByteArray) (h63 : n + s.size ≤ 9223372036854775807) (hb : (n + s.size) * inf.bytes ≤ 140737488355328) (hbase : base ≤ w.heap.size) :
    ∃ v1 w1, (Builtin.append_ #[t, u] ty #[v, .string s]).run P w = .ok v1 w1 ∧ w1.ownsRow base el 1 v1 (n + s.size) (cells ++ Lib.strCells s) ∧ w.grownBy w1 v.ownBlock ∧ (v1.ownBlock = v.ownBlock ∨ v1.ownBlock = some w.heap.size) ∧
      (∀ b, v.ownBlock = some b → ∀ o u, cells[o]? = some u → w1.cell? ⟨b, o, none⟩ = some u) := by
  have hsl := Lib.strCells_length s
  have hm63 : n + s.size ≤ maxLen := by simp only [maxLen]; omega
  have hcl : cells.length = n := by simpa using hown.1
  have hlen : (cells ++ Lib.strCells s).length = (n + s.size) * 1 := by rw [List.length_append, hcl, hsl, Nat.mul_one]
  have fresh : ∀ cap0 row, (w.drew.alloc (.cells (cells.toArray ++ (Lib.strCells s).toArray ++ Builtin.zeroCells z.cells (grownCap w (n + s.size) cap0 el - (n + s.size))) el)).ownsRow base el 1 (.slice (some ⟨w.heap.size, 0, none⟩) (n + s.size) (grownCap w (n + s.size) cap0 el)) (n + s.size) (cells ++ Lib.strCells s) ∧
      w.grownBy (w.drew.alloc (.cells (cells.toArray ++ (Lib.strCells s).toArray ++ Builtin.zeroCells z.cells (grownCap w (n + s.size) cap0 el - (n + s.size))) el)) row := by
    intro cap0 row
    have hge := grownCap_ge w (n + s.size) cap0 el
    refine ⟨⟨hlen, .inr ⟨w.heap.size, _, _, rfl, hbase, heap_alloc_new w.drew _, hge, grownCap_le_maxLen w _ _ _ hm63, ?_, ?_⟩⟩, rfl, rfl, rfl, by simp, fun k hk _ => Below.heap_alloc w.drew _ k hk⟩
    · simp only [Array.size_append, List.size_toArray, size_zeroCells, hzs, hcl, hsl]
      omega
    · rw [← hlen]
      simp only [Array.toList_append, List.toList_toArray]
      exact List.take_left
  rcases hown.2 with ⟨rfl, rfl⟩ | ⟨q, cap, cur, rfl, hq, hh, hnc, hcm, hcs, htake⟩
  · have hce : cells = [] := List.eq_nil_of_length_eq_zero hcl
    subst hce
    by_cases hm : s.size = 0
    · have hn : Lib.strCells s = [] := List.eq_nil_of_length_eq_zero (by rw [hsl]; exact hm)
      refine ⟨.slice none 0 0, w, ?_, by rw [hm, hn]; exact World.ownsRow_nil w base el 1, ⟨rfl, rfl, rfl, Nat.le_refl _, fun _ _ _ => rfl⟩, .inl rfl, fun b hb => by simp [Value.ownBlock] at hb⟩
      have hf := Lib.run_firstCells_string (P := P) w 1 s
      rw [hm] at hf
      simp [Builtin.append_, run_underlying ht, run_underlying hu, sizeOf, typeInfo, hi, hs1, Builtin.lenOf, hm, hf]
    · have hr := run_append_nil_string (P := P) w t u ty el inf z ht hu hi hz s (by omega) (by omega) (by simp only [Nat.zero_add] at hb; omega)
      have hgr := fresh 0 (Value.ownBlock (.slice none 0 0))
      simp only [Nat.zero_add, List.nil_append] at hgr ⊢
      have e0 : (#[] : Array Value) ++ (Lib.strCells s).toArray = (Lib.strCells s).toArray := by simp
      rw [e0] at hgr
      have e1 : (s.data.map fun b => Value.int .u8 b.toNat) = (Lib.strCells s).toArray := by
        apply Array.ext'
        simp [Lib.strCells]
      rw [e1] at hr
      exact ⟨_, _, hr, hgr.1, hgr.2, .inr rfl, fun b hb => by simp [Value.ownBlock] at hb⟩
  · simp only [Nat.mul_one] at hcs htake
    by_cases hroom : n + s.size ≤ cap
    · have hr := Lib.run_append_room_string (P := P) w t u ty el inf ht hu hi hs1 q n cap cur hh s hroom (by omega)
      have ho1 : (w.setRow q (cur.toList.take n ++ Lib.strCells s ++ cur.toList.drop (n + s.size)).toArray).ownsRow base el 1 (.slice (some ⟨q, 0, none⟩) (n + s.size) cap) (n + s.size) (cells ++ Lib.strCells s) := by
        refine ⟨hlen, .inr ⟨q, cap, _, rfl, hq, setRow_heap w q cur _ el _ hh, hroom, hcm, ?_, ?_⟩⟩
        · simp only [List.size_toArray, List.length_append, List.length_take, List.length_drop, Array.length_toList, hsl]; omega
        · rw [htake, ← hlen]
          exact List.take_left
      refine ⟨_, _, hr, ho1, ⟨rfl, rfl, rfl, by simp, fun k _ hk => setRow_other w q k _ (fun e => hk (by simp [Value.ownBlock, e]))⟩, .inl rfl, fun b hb o u e => ?_⟩
      have := ho1.cells (g := b) hb o u (by rw [List.getElem?_append_left (List.getElem?_eq_some_iff.1 e).1]; exact e)
      rwa [Addr.add_lit, Nat.zero_add] at this
    · have hr := Lib.run_append_grow_string (P := P) w t u ty el inf z ht hu hi hz ⟨q, 0, none⟩ n cap cells (by rw [hs1, Nat.mul_one]; exact hcl) (hown.cells (g := q) rfl) s (by omega) (by omega) (growslice_fits (by omega) hb)
      have hf := fresh cap (Value.ownBlock (.slice (some ⟨q, 0, none⟩) n cap))
      refine ⟨_, _, hr, hf.1, hf.2, .inr rfl, fun b hb o u e => ?_⟩
      have h2 := hown.cells (g := b) hb o u e
      rw [Addr.add_lit, Nat.zero_add] at h2
      have hlt := World.block_lt_of_cell? w _ h2
      rw [World.cell?_of_block (w := w) (Below.heap_alloc w.drew _ b hlt)]
      exact h2
theorem strCells_lay (G : Gh) (l : List UInt8) : Lay G 1 (bsl l) (Lib.strCells ⟨l.toArray⟩) := by
  have hg : ∀ (i : Nat) (e : AV), (bsl l)[i]? = some e → ∃ c : UInt8, l[i]? = some c ∧ e = AV.int .u8 (c.toNat : Int) := by
    intro i e h
    simp only [bsl, List.getElem?_map] at h
    cases hc : l[i]? with
    | none => rw [hc] at h; cases h
    | some c => rw [hc] at h; cases h; exact ⟨c, rfl, rfl⟩
  refine ⟨fun i e h => ?_, fun i e j c h hj => ?_⟩
  · obtain ⟨c, _, rfl⟩ := hg i e h; rfl
  · obtain ⟨u, hu, rfl⟩ := hg i e h
    have hj0 : j = 0 := by have := (List.getElem?_eq_some_iff.1 hj).1; simp [AV.cells] at this; exact this
    subst hj0
    cases hj
    refine ⟨rfl, ?_⟩
    simp only [Nat.mul_one, Nat.add_zero, Lib.strCells, List.getD_eq_getElem?_getD, List.getElem?_map, hu, Option.map_some, Option.getD_some]
    exact .int _ _
section
variable {P : Program} {N : Nat} {s : St} {d : Nat} {ty : TypeId} {pos : String} {af : Array Edge} {g : Option (Nat × Bool)}
/-- append(x, text...) -/
theorem op_aps {t1 t2 el by_ : Nat} {x y : Operand} {k : Nat} {xs : List AV} {l : List UInt8} (hN : d < N) (ht : se P t1 = some (el, 1, by_)) (hu : P.underlying t2 = some .string) (hx : opd x s = some (.ow k xs)) (hk : get s (.t k) = some (.tk false el 1 xs)) (hy : opv y s = some (.str l)) (hd : get s (.t d) = none)
    (hb : (xs.length + l.length) * by_ ≤ 140737488355328) (h63 : xs.length + l.length ≤ 9223372036854775807) :
    OpOK P N ⟨some d, .call { callee := .builtin .append, args := #[x, y], argTypes := #[t1, t2] }, ty, pos, af, g⟩ s (rd x ++ (rd y ++ [.t k, .t d])) [(.s d, .sv (.ow d (xs ++ bsl l))), (.t d, .tk false el 1 (xs ++ bsl l)), (.t k, .gone)] := by
  intro t hR E G L a w hr K Q hK
  obtain ⟨i, z, hus, hi, hzz, hzs, hsz, hby, hpos⟩ := se_run ht
  subst hby
  have hk' : get t (.t k) = some (.tk false el 1 xs) := by rw [hR (.t k) (by simp)]; exact hk
  have hd' : get t (.t d) = none := by rw [hR (.t d) (by simp)]; exact hd
  have hVx := opd_sound hr hR.left hx
  have hVy := V_str (opv_sound hr hR.right.left hy)
  obtain ⟨v, hv, ⟨cells, hV, hown, _, hLx, hkn0⟩, hmay⟩ := hr.tok k false el 1 xs hk'
  have hkn : ∀ blk, v.ownBlock = some blk → ∀ o u, G.kn blk o = some u → false = false ∧ cells[o]? = some u := fun blk e => row_kn hown.1 (hkn0 blk e)
  have hav : a.eval x = v := by have hvk := hVx.2; rw [hvk] at hv; cases hv; rfl
  have e1 : (⟨l.toArray⟩ : ByteArray).size = l.length := by simp [ByteArray.size]
  have e2 : (bsl l).length = l.length := by simp [bsl]
  obtain ⟨v1, w1, hrun, ho1, hg, hat, hcell⟩ := run_apps (ty := ty) hus hu hi hzz hzs hsz hown ⟨l.toArray⟩ (by rw [e1]; exact h63) (by rw [e1]; exact hb) (Nat.zero_le _)
  have he : (execOp a.eval ⟨some d, .call { callee := .builtin .append, args := #[x, y], argTypes := #[t1, t2] }, ty, pos, af, g⟩).run P w = .ok (.value v1) w1 := by
    simp only [execOp, resolve, invoke, builtin, Sem.run_bind, Sem.run_pure, Result.andThen_ok, List.map_toArray, List.map_cons, List.map_nil, hav, hVy, hrun]
  unfold Oper.wp
  rw [he]
  rw [e1, ← e2] at ho1
  obtain ⟨G', hV', hle, hr'⟩ := grow_tok hr hk' hd' hv hown hLx hpos hkn ho1 hg hat hcell (strCells_lay G l)
  exact hK _ _ G' _ (hr'.put d hN _ (.ow d (xs ++ bsl l)) ⟨hV' rfl, by simp [Loc.setTok]⟩)
theorem vop_fal {t1 : TypeId} {x : Operand} {i k off o : Nat} {dst : Option Tmp} (hf : fo P t1 i = some o) (hx : opd x s = some (.lp k off)) : ∀ E G L a w, Rel E N G L a w s →
    ∃ v, (execOp a.eval ⟨dst, .fieldAddr t1 x i, ty, pos, af, g⟩).run P w = .ok (.value v) w ∧ SV G L v (.lp k (off + o)) := fun E G L a w hr => by
  obtain ⟨blk, hb, hv⟩ := opd_sound hr (fun _ _ => rfl) hx
  refine ⟨.pointer (some ⟨blk, off + o, none⟩), ?_, ⟨blk, hb, rfl⟩⟩
  simp [execOp, hv, fo_run hf, Addr.add_lit]
theorem vop_ldl {t1 : TypeId} {x : Operand} {k off n : Nat} {b : Bool} {cs : List Sv} {z : Sv} {dst : Option Tmp} (hl : lk P t1 = some (b, n)) (hx : opd x s = some (.lp k off)) (hk : get s (.b k) = some (.bx cs)) (hz : ldc b n (cs.drop off) = some z) : ∀ E G L a w, Rel E N G L a w s →
    ∃ v, (execOp a.eval ⟨dst, .load t1 x, ty, pos, af, g⟩).run P w = .ok (.value v) w ∧ SV G L v z := fun E G L a w hr => by
  obtain ⟨blk, hb, hv⟩ := opd_sound hr (fun _ _ => rfl) hx
  obtain ⟨blk', o, hb', hbase, hh, ⟨arr, el, rfl, hsz, hc⟩, hn⟩ := hr.box k (.bx cs) hk rfl
  rw [hb] at hb'; cases hb'
  have hcell : ∀ (j : Nat) y, (cs.drop off)[j]? = some y → w.cell? ((⟨blk, off, none⟩ : Addr).add j) = some (arr.getD (off + j) undef) ∧ y.flat = true ∧ SV G L (arr.getD (off + j) undef) y := by
    intro j y e
    rw [List.getElem?_drop] at e
    refine ⟨?_, hc _ y e⟩
    have hlt : off + j < arr.size := by have := (List.getElem?_eq_some_iff.1 e).1; omega
    rw [Addr.add_lit, cell_of_row w blk (off + j) arr el (0, 0) hh, Array.getD_eq_getD_getElem?, Array.getElem?_eq_getElem hlt]
    rfl
  obtain ⟨v, hrun, hV⟩ := run_load_of (P := P) hl hz hcell
  exact ⟨v, by simp [execOp, hv, Instr.loadAt, Instr.sureAddr, hrun], hV⟩
end
theorem V_bytes_known (G : Gh) (b cap : Nat) (l : List UInt8) (hc : l.length ≤ cap) : V (G.add b (Lib.strCells ⟨l.toArray⟩)) (.slice (some ⟨b, 0, none⟩) l.length cap) (.sl (bsl l)) := by
  have hlen : (bsl l).length = l.length := by simp [bsl]
  have hL := strCells_lay (G.add b (Lib.strCells ⟨l.toArray⟩)) l
  have := V.slN (G := G.add b (Lib.strCells ⟨l.toArray⟩)) b 0 cap 1 (bsl l) (fun i j => (Lib.strCells ⟨l.toArray⟩).getD (i * 1 + j) undef) (by omega) hL.1 (fun i e j c he hj => by
      have hi := (List.getElem?_eq_some_iff.1 he).1
      have hj0 := (List.getElem?_eq_some_iff.1 hj).1
      rw [hL.1 i e he] at hj0
      have hlt : i * 1 + j < (Lib.strCells ⟨l.toArray⟩).length := by rw [Lib.strCells_length]; simp [ByteArray.size]; omega
      rw [Nat.zero_add, add_kn, List.getD_eq_getElem?_getD, List.getElem?_eq_getElem hlt]; rfl) (fun i e j c he hj => (hL.2 i e j c he hj).1) (fun i e j c he hj => (hL.2 i e j c he hj).2)
  rw [hlen] at this; exact this
/-- append([]byte(text), text2...), the second text a field of a local: four operations at once -/
theorem TriL.cvap {P : Program} {N : Nat} {ops : Array Oper} {l : List Oper} {s : St} {Q : St → Prop} {d1 d2 d3 d4 : Nat} {t1 t2 tf tl by_ ty1 ty2 ty3 ty4 : TypeId} {td : TypeDesc} {pos1 pos2 pos3 pos4 : String} {af1 af2 af3 af4 : Array Edge} {x y : Operand} {i o k off el : Nat} {cs : List Sv} {b : Bool} {l1 l2 : List UInt8}
    (h1 : d1 < N) (h2 : d2 < N) (h3 : d3 < N) (h4 : d4 < N) (hne : d1 ≠ d2 ∧ d1 ≠ d3) (ht : se P t2 = some (el, 1, by_)) (htd : P.underlying t1 = some td) (hel : P.underlying el = some (.int .u8)) (hst : P.underlying tl = some .string)
    (hx : opv x s = some (.str l1)) (hfo : fo P tf i = some o) (hy : opd y ((.s d1, .gone) :: s) = some (.lp k off)) (hlk : lk P tl = some (b, 1)) (hk : get s (.b k) = some (.bx cs)) (hz : ldc b 1 (cs.drop (off + o)) = some (.v (.str l2)))
    (hb : (l1.length + l2.length) * by_ ≤ 140737488355328) (h63 : l1.length + l2.length ≤ 9223372036854775807)
    (h : TriL P N ops l ((.s d4, .sv (.v (.sl (bsl (l1 ++ l2))))) :: (.s d3, .sv (.v (.str l2))) :: (.s d2, .sv (.lp k (off + o))) :: (.s d1, .gone) :: s) Q) :
    TriL P N ops (⟨some d1, .convert t1 t2 x, ty1, pos1, af1, none⟩ :: ⟨some d2, .fieldAddr tf y i, ty2, pos2, af2, none⟩ :: ⟨some d3, .load tl (.tmp d2), ty3, pos3, af3, none⟩ :: ⟨some d4, .call { callee := .builtin .append, args := #[.tmp d1, .tmp d3], argTypes := #[t2, tl] }, ty4, pos4, af4, none⟩ :: l) s Q := by
  intro E a w ⟨G, L, hr⟩ QQ hQ
  obtain ⟨inf, z, hus, hi, hzz, hzs, hsz, hby, hpos⟩ := se_run ht
  subst hby
  have hv := V_str (opv_sound hr (fun _ _ => rfl) hx)
  have hrun := Lib.run_convert_string_bytes (P := P) w t1 t2 el ⟨l1.toArray⟩ htd hus hel
  have e1 : (⟨l1.toArray⟩ : ByteArray).size = l1.length := by simp [ByteArray.size]
  have e2 : (⟨l2.toArray⟩ : ByteArray).size = l2.length := by simp [ByteArray.size]
  have hg1 : w.grownBy (Lib.bytesWorld w el ⟨l1.toArray⟩) none := ⟨rfl, rfl, rfl, by rw [Lib.bytesWorld_size]; omega, fun k hk _ => Lib.bytesWorld_at_old w el _ k hk⟩
  obtain ⟨_, hr1⟩ := hr.known hg1 (Nat.le_refl _) (cells := []) (fun o v e => by simp at e)
  generalize hw1 : Lib.bytesWorld w el ⟨l1.toArray⟩ = w1 at hrun hg1 hr1
  generalize hcap : grownCap w (⟨l1.toArray⟩ : ByteArray).size 0 el = cap at hrun
  have hcge : l1.length ≤ cap := by rw [← hcap, e1]; exact grownCap_ge _ _ _ _
  rw [e1] at hrun
  have hr1' := hr1.drop (some d1) (.slice (some ⟨w.heap.size, 0, none⟩) l1.length cap)
  refine wpList_plain rfl fun K hK => ?_
  have he1 : (execOp a.eval ⟨some d1, .convert t1 t2 x, ty1, pos1, af1, none⟩).run P w = .ok (.value (.slice (some ⟨w.heap.size, 0, none⟩) l1.length cap)) w1 := by
    simp only [execOp, Sem.run_bind, hv, hrun, Result.andThen_ok, Sem.run_pure]
  unfold Oper.wp
  rw [he1]
  refine hK _ _ ?_
  generalize ha1 : a.put (some d1) (.slice (some ⟨w.heap.size, 0, none⟩) l1.length cap) = a1 at hr1' ⊢
  obtain ⟨v2, he2, hv2⟩ := vop_fal (P := P) (ty := ty2) (pos := pos2) (af := af2) (g := none) (dst := some d2) hfo hy _ _ _ _ _ hr1'
  have hr2 := hr1'.put d2 h2 v2 _ hv2
  refine wpList_plain rfl fun K hK => ?_
  unfold Oper.wp
  rw [he2]
  refine hK _ _ ?_
  obtain ⟨v3, he3, hv3⟩ := vop_ldl (P := P) (ty := ty3) (pos := pos3) (af := af3) (g := none) (dst := some d3) (x := .tmp d2) hlk (by simp [opd, get]) (show get ((.s d2, .sv (.lp k (off + o))) :: (.s d1, .gone) :: s) (.b k) = some (.bx cs) by simpa [get] using hk) hz _ _ _ _ _ hr2
  refine wpList_plain rfl fun K hK => ?_
  unfold Oper.wp
  rw [he3]
  refine hK _ _ ?_
  have hv3' := V_str hv3
  subst hv3'
  generalize ha2 : a1.put (some d2) v2 = a2 at hr2 ⊢
  have hsz0 := hr.size
  have hsz1 := hr1'.size
  have hsz2 := hr2.size
  have hev1 : (a2.put (some d3) (.string ⟨l2.toArray⟩)).eval (.tmp d1) = .slice (some ⟨w.heap.size, 0, none⟩) l1.length cap := by
    show ((a2.put (some d3) (.string ⟨l2.toArray⟩)).tmps.getD d1 undef) = _
    rw [← ha2, ← ha1]
    simp only [Act.put, Array.getD_eq_getD_getElem?]
    rw [Array.getElem?_setIfInBounds_ne (Ne.symm hne.2), Array.getElem?_setIfInBounds_ne (Ne.symm hne.1), Array.getElem?_setIfInBounds_self_of_lt (by omega)]; rfl
  have hev3 : (a2.put (some d3) (.string ⟨l2.toArray⟩)).eval (.tmp d3) = .string ⟨l2.toArray⟩ := by
    show ((a2.put (some d3) (.string ⟨l2.toArray⟩)).tmps.getD d3 undef) = _
    simp only [Act.put, Array.getD_eq_getD_getElem?]
    rw [Array.getElem?_setIfInBounds_self_of_lt (by omega)]; rfl
  have hnew := Lib.bytesWorld_at_new w el ⟨l1.toArray⟩
  rw [hw1] at hnew
  have hcells : ∀ j v, (Lib.strCells ⟨l1.toArray⟩)[j]? = some v → w1.cell? ((⟨w.heap.size, 0, none⟩ : Addr).add j) = some v := by
    intro j v e
    have hj : j < l1.length := by have := (List.getElem?_eq_some_iff.1 e).1; rw [Lib.strCells_length, e1] at this; exact this
    have := Lib.bytesWorld_cell w el ⟨l1.toArray⟩ j (by rw [e1]; exact hj)
    rw [hw1] at this
    rw [Addr.add_lit, Nat.zero_add, this]
    simp only [Lib.strCells, List.getElem?_map, List.getElem?_eq_getElem hj, Option.map_some, Option.some.injEq] at e
    rw [← e]; simp [List.getD_eq_getElem?_getD, List.getElem?_eq_getElem hj]
  have hbsz : (Lib.bytesCells w el ⟨l1.toArray⟩).size = cap := by
    rw [e1] at hcap
    simp only [Lib.bytesCells, Array.size_append, Array.size_map, Array.size_replicate, e1, hcap]
    simp; omega
  have hs12 : Lib.strCells ⟨(l1 ++ l2).toArray⟩ = Lib.strCells ⟨l1.toArray⟩ ++ Lib.strCells ⟨l2.toArray⟩ := by simp [Lib.strCells]
  -- the append
  have happ : ∃ blk cap2 w2, (Builtin.append_ #[t2, tl] ty4 #[.slice (some ⟨w.heap.size, 0, none⟩) l1.length cap, .string ⟨l2.toArray⟩]).run P w1 = .ok (.slice (some ⟨blk, 0, none⟩) (l1 ++ l2).length cap2) w2 ∧
      w.grownBy w2 none ∧ w.heap.size ≤ blk ∧ (l1 ++ l2).length ≤ cap2 ∧ ∀ o v, (Lib.strCells ⟨(l1 ++ l2).toArray⟩)[o]? = some v → w2.cell? ⟨blk, o, none⟩ = some v := by
    rw [List.length_append]
    by_cases hroom : l1.length + l2.length ≤ cap
    · have hra := run_append_room_strE (P := P) w1 t2 tl ty4 el inf hus hst hi hsz w.heap.size l1.length cap _ _ hnew ⟨l2.toArray⟩ (by rw [e2, hbsz]; exact hroom) (by rw [e2]; exact hroom) (by rw [e2, hbsz]; exact hroom)
      rw [e2] at hra
      refine ⟨_, _, _, hra, ⟨hg1.os, hg1.tape, hg1.output, by rw [size_setRow]; exact hg1.size, fun k hk _ => by rw [setRow_other w1 w.heap.size k _ (by omega)]; exact hg1.block k hk (by simp)⟩, Nat.le_refl _, hroom, fun o v e => ?_⟩
      have hh := setRow_heap w1 w.heap.size _ ((Lib.bytesCells w el ⟨l1.toArray⟩).toList.take l1.length ++ Lib.strCells ⟨l2.toArray⟩ ++ (Lib.bytesCells w el ⟨l1.toArray⟩).toList.drop (l1.length + l2.length)).toArray el _ hnew
      rw [cell_of_row _ _ _ _ _ _ hh]
      have hhead : (Lib.bytesCells w el ⟨l1.toArray⟩).toList.take l1.length = Lib.strCells ⟨l1.toArray⟩ := by
        simp only [Lib.bytesCells, Array.toList_append, Array.toList_map]
        rw [List.take_append_of_le_length (by simp), List.take_of_length_le (by simp)]
        simp [Lib.strCells]
      rw [hhead, ← hs12]
      simp only [List.getElem?_toArray]
      rw [List.getElem?_append_left (List.getElem?_eq_some_iff.1 e).1]; exact e
    · have hra := Lib.run_append_grow_string (P := P) w1 t2 tl ty4 el inf z hus hst hi hzz ⟨w.heap.size, 0, none⟩ l1.length cap (Lib.strCells ⟨l1.toArray⟩) (by rw [Lib.strCells_length, e1, hsz, Nat.mul_one]) hcells ⟨l2.toArray⟩ (by rw [e2]; omega) (by rw [e2]; omega) (by rw [e2]; exact growslice_fits (by omega) hb)
      rw [e2] at hra
      have hge := grownCap_ge w1 (l1.length + l2.length) cap el
      refine ⟨_, _, _, hra, ⟨hg1.os, hg1.tape, hg1.output, by have := hg1.size; simp; omega, fun k hk _ => ?_⟩, hg1.size, hge, fun o v e => ?_⟩
      · have h1 := hg1.size
        rw [Below.heap_alloc w1.drew _ k (by show k < w1.heap.size; omega)]
        exact hg1.block k hk (by simp)
      · have hh := heap_alloc_new w1.drew (.cells ((Lib.strCells ⟨l1.toArray⟩).toArray ++ (Lib.strCells ⟨l2.toArray⟩).toArray ++ Builtin.zeroCells z.cells (grownCap w1 (l1.length + l2.length) cap el - (l1.length + l2.length))) el)
        have hh' : (w1.drew.alloc (.cells ((Lib.strCells ⟨l1.toArray⟩).toArray ++ (Lib.strCells ⟨l2.toArray⟩).toArray ++ Builtin.zeroCells z.cells (grownCap w1 (l1.length + l2.length) cap el - (l1.length + l2.length))) el)).heap[w1.heap.size]? = _ := hh
        rw [cell_of_row _ _ _ _ _ _ hh', ← Array.getElem?_toList]
        simp only [Array.toList_append, List.toList_toArray]
        rw [← hs12, List.getElem?_append_left (List.getElem?_eq_some_iff.1 e).1]; exact e
  obtain ⟨blk, cap2, w2, hra, hg2, hblk, hc2, hkn⟩ := happ
  obtain ⟨_, hrf⟩ := hr.known hg2 hblk hkn
  refine wpList_plain rfl fun K hK => ?_
  have he4 : (execOp (a2.put (some d3) (.string ⟨l2.toArray⟩)).eval ⟨some d4, .call { callee := .builtin .append, args := #[.tmp d1, .tmp d3], argTypes := #[t2, tl] }, ty4, pos4, af4, none⟩).run P w1 = .ok (.value (.slice (some ⟨blk, 0, none⟩) (l1 ++ l2).length cap2)) w2 := by
    simp only [execOp, resolve, invoke, builtin, Sem.run_bind, Sem.run_pure, Result.andThen_ok, List.map_toArray, List.map_cons, List.map_nil, hev1, hev3, hra]
  unfold Oper.wp
  rw [he4]
  refine hK _ _ ?_
  refine h E _ _ ⟨G.add blk (Lib.strCells ⟨(l1 ++ l2).toArray⟩), L, ?_⟩ QQ hQ
  have q1 := hrf.drop (some d1) (.slice (some ⟨w.heap.size, 0, none⟩) l1.length cap)
  have q2 := q1.put d2 h2 v2 (.lp k (off + o)) hv2
  have q3 := q2.put d3 h3 (.string ⟨l2.toArray⟩) (.v (.str l2)) (V.str l2)
  have q4 := q3.put d4 h4 (.slice (some ⟨blk, 0, none⟩) (l1 ++ l2).length cap2) (.v (.sl (bsl (l1 ++ l2)))) (V_bytes_known G blk cap2 (l1 ++ l2) hc2)
  rw [ha1, ha2] at q4
  exact q4
end Go.Proofs.YtnpgcmeclkncnaaGreatDoor.X
/- The law frame: from a call in the program logic to what a statement asks. No condition. -/
set_option linter.unusedVariables false
namespace Go.Proofs.YtnpgcmeclkncnaaGreatDoor.X
open Go Go.RowKit Go.ChangeShapes Go.WideShapes Go.ChangeAt
open Go.ChangeMaps (open_string shut_string)

/-- What is known when a law is called: all that there is. -/
def gh0 (W : World) : Gh := ⟨fun b o => W.cell? ⟨b, o, none⟩, fun _ => none⟩
def hp0 : Hp := ⟨0, fun _ => none⟩
theorem hp0_foot (G : Gh) (W : World) (b : Nat) : ¬ foot G hp0 W b := by
  rintro (⟨id, ⟨cs, h⟩, _⟩ | ⟨id, j, cs, el, esz, xs, b0, arr, t, fr, h, _⟩) <;> cases h
theorem hp0_ok (G : Gh) (W : World) (h : ∀ i, G.ob i = none) : HpOK G W hp0 := by
  refine ⟨fun id b e => ?_, fun id id' b e => ?_, fun id cs e => (by cases e), fun id j blk hr => ?_⟩
  · rw [h] at e; cases e
  · rw [h] at e; cases e
  · exact absurd (.inr ⟨id, j, hr⟩) (hp0_foot G W blk)
/-- A law's call. -/
theorem law_run {P : Program} {f : FuncId} {xs : List AV} {H' : Hp} (h : Run P f xs hp0 (.bool true) H') {W : World} {args : Array Value} (hg : gok W ∧ gN ≤ W.heap.size) (hv : VL (gh0 W) args xs) :
    Calls P f args W fun e w' => e = .returned (.bool true) ∧ Below W.heap.size W w' := by
  refine (h (gh0 W) W args ⟨hg.1, hg.2, fun g _ => hp0_foot _ _ g⟩ (fun b o v e => e) (hp0_ok _ _ fun _ => rfl) hv).mono fun e w' ⟨v, G', he, hV, _, _, _, hf, _⟩ => ?_
  cases hV
  exact ⟨he, hf.os, hf.tape, hf.output, hf.size, fun k hk => hf.block k hk (hp0_foot _ _ k)⟩

section
variable {H : Type} {enc : TypeId × Value → H} {P : Program} {W W' : World}
theorem below_trodAll (hl : laidOutB P = true) (hb : Below W.heap.size W W') : ∀ {ts : List TypeId} {vs : List Value} {ds : List (DataW H)} {ps : List MemPlace},
    ts.all (fun t => P.readableRec t && decide (t < P.types.size)) = true → DataW.TrodAll enc P W 0 (fun _ => true) true ts vs ds ps → DataW.TrodAll enc P W' 0 (fun b => decide (b < W.heap.size)) true ts vs ds ps
  | [], vs, ds, ps, _, h => by
    obtain ⟨rfl, rfl, rfl⟩ := trodAll_nil h
    exact trodAll_mk0
  | t :: ts, vs, ds, ps, hr, h => by
    have hlt := h.lt
    obtain ⟨v, vs1, d, ds1, a, b, rfl, rfl, rfl, h1, h2⟩ := trodAll_cons h
    simp only [List.all_cons, Bool.and_eq_true, decide_eq_true_eq] at hr
    exact trodAll_cons_mk (Below.trod hl hr.1.1 hr.1.2 h1 hb fun x hx => hlt x (by simp [hx])) (below_trodAll hl hb hr.2 h2)
/-- What a statement asks of a law that answers true and leaves all that was. -/
theorem post_true {f : Func} {s : ChangeSpec} {t : TypeId} {args : Array Value} {ds gs : List (DataW H)} {before : List MemPlace} (hl : laidOutB P = true)
    (hr : f.params.toList.all (fun t => P.readableRec t && decide (t < P.types.size)) = true) (hvr : s.vars = []) (hW : DataW.Whole enc P f.params.toList s.vars false W args.toList ds gs before) (hb : Below W.heap.size W W')
    (hs : s.fn H (ds ++ gs) = { results := [.lit (.bool true)], args := ds, vars := gs }) (ht : f.resultTypes = #[t]) (hu : P.underlying t = some .bool) :
    s.post enc P f false true false false W args (.bool true) W' := by
  have hW' := hW
  obtain ⟨p, q, hA, hV, rfl, hfz, hnd⟩ := hW
  refine ⟨ds, gs, p ++ q, [], p, q, hW', ?_, ?_, ?_, ?_, fun h => by cases h⟩
  · rw [hs, ht]
    exact trodAll_cons_mk (shut_bool hu true) trodAll_mk0
  · rw [hs]; exact below_trodAll hl hb hr hA
  · rw [hvr] at hV ⊢
    obtain ⟨rfl, rfl⟩ := trodVars_none hV
    rw [hs]; rfl
  · exact hb.frame _

/-! ### Arguments -/
theorem open_str {r : Reach} {b0 : Nat} {t : TypeId} {v : Value} {d : DataW H} {ps : List MemPlace} (ht : P.underlying t = some .string) (hval : Value.okWide P W r b0 t v) (hd : DataW.Trod enc P W 0 (fun _ => true) true t v d ps) :
    ∃ l : List UInt8, V (gh0 W) v (.str l) ∧ d = .lit (.string l) := by
  obtain ⟨s, rfl, rfl, rfl, _⟩ := open_string ht hval hd
  have e : s = ⟨s.data.toList.toArray⟩ := by cases s; simp
  refine ⟨s.data.toList, ?_, rfl⟩
  have := V.str (G := gh0 W) s.data.toList
  rwa [← e] at this
theorem wf_u8 {n : Int} (h : (Lit.int .u8 n).wf = true) : 0 ≤ n ∧ n < 256 := by
  have : 0 ≤ n ∧ n ≤ 255 := by simpa [Lit.wf, IntKind.min, IntKind.max, IntKind.signed, IntKind.bits] using h
  omega
theorem u8_back {n : Int} (h : 0 ≤ n ∧ n < 256) : ((UInt8.ofNat n.toNat).toNat : Int) = n := by rw [UInt8.toNat_ofNat_of_lt' (by simp [UInt8.size]; omega)]; omega
theorem open_bytes {r : Reach} {b0 : Nat} {t e : TypeId} {v : Value} {d : DataW H} {ps : List MemPlace} (ht : P.underlying t = some (.slice e)) (he : P.underlying e = some (.int .u8)) (hc : P.cellsOf e = 1) (hval : Value.okWide P W r b0 t v)
    (hd : DataW.Trod enc P W 0 (fun _ => true) true t v d ps) : ∃ l : List UInt8, V (gh0 W) v (.sl (bsl l)) ∧ (d = .nil ∧ l = [] ∨ ∃ sp, d = .slice (l.map fun c => .lit (.int .u8 (c.toNat : Int))) sp) := by
  obtain ⟨a0, len0, cap0, rfl⟩ := okWide_slice ht hval
  obtain ⟨fuel, hd⟩ := hd
  have hcs : (Value.slice a0 len0 cap0).cells.toList = [.slice a0 len0 cap0] := by simp [Value.cells]
  rw [hcs] at hd
  rcases open_ints ht he hc hd with ⟨h1, h2⟩ | ⟨a, len, cap, zs, h1, _, hlc, hm, hzl, h2, hcell, hwf⟩
  · cases h1
    cases h2
    exact ⟨[], .slE _ _, .inl ⟨rfl, rfl⟩⟩
  · cases h1
    cases h2
    simp only [if_true] at hzl
    have hb : ∀ n ∈ zs, 0 ≤ n ∧ n < 256 := fun n hn => wf_u8 (hwf n hn)
    let l : List UInt8 := (zs.take len0).map fun n => UInt8.ofNat n.toNat
    have hll : l.length = len0 := by simp only [l, List.length_map, List.length_take]; omega
    have hlg : ∀ i, i < len0 → l[i]? = some (UInt8.ofNat (zs.getD i 0).toNat) := by
      intro i hi
      simp only [l, List.getElem?_map, List.getElem?_take, if_pos hi, List.getD_eq_getElem?_getD]
      rw [List.getElem?_eq_getElem (show i < zs.length by omega)]; rfl
    have hn : ∀ i, i < len0 → 0 ≤ zs.getD i 0 ∧ zs.getD i 0 < 256 := by
      intro i hi
      rw [List.getD_eq_getElem?_getD, List.getElem?_eq_getElem (show i < zs.length by omega)]
      exact hb _ (List.getElem_mem _)
    have hgb : ∀ i, i < len0 → (bsl l)[i]? = some (.int .u8 (zs.getD i 0)) := by
      intro i hi
      simp only [bsl, List.getElem?_map, hlg i hi, Option.map_some]
      rw [u8_back (hn i hi)]
    have hbl : (bsl l).length = len0 := by simp [bsl, hll]
    refine ⟨l, ?_, .inr ⟨lits .u8 (zs.drop len0), ?_⟩⟩
    · by_cases h0 : len0 = 0
      · have : l = [] := List.length_eq_zero_iff.1 (by omega)
        rw [this, h0]
        exact .slE _ _
      · have hsp : a.spot = none := by
          have := hcell 0 (by omega)
          unfold World.cell? at this
          split at this
          · split at this
            · cases this
            · rename_i hns
              simpa [Addr.add] using hns
          · cases this
        obtain ⟨b, o, sp⟩ := a
        simp only at hsp
        subst hsp
        have key : V (gh0 W) (.slice (some ⟨b, o, none⟩) (bsl l).length cap0) (.sl (bsl l)) := by
          refine V.slN b o cap0 1 (bsl l) (fun i _ => .int .u8 (zs.getD i 0)) (by omega) ?_ ?_ ?_ ?_
          · intro i e he'
            have hi : i < len0 := by have := (List.getElem?_eq_some_iff.1 he').1; omega
            rw [hgb i hi] at he'; cases he'; rfl
          · intro i e j c he' hj
            have hi : i < len0 := by have := (List.getElem?_eq_some_iff.1 he').1; omega
            rw [hgb i hi] at he'; cases he'
            have hj0 : j = 0 := by have := (List.getElem?_eq_some_iff.1 hj).1; simp [AV.cells] at this; omega
            subst hj0
            have := hcell i (by omega)
            rw [Addr.add_lit] at this
            simpa [gh0] using this
          · intro i e j c he' hj
            have hi : i < len0 := by have := (List.getElem?_eq_some_iff.1 he').1; omega
            rw [hgb i hi] at he'; cases he'
            have hj0 : j = 0 := by have := (List.getElem?_eq_some_iff.1 hj).1; simp [AV.cells] at this; omega
            subst hj0
            cases hj; rfl
          · intro i e j c he' hj
            have hi : i < len0 := by have := (List.getElem?_eq_some_iff.1 he').1; omega
            rw [hgb i hi] at he'; cases he'
            have hj0 : j = 0 := by have := (List.getElem?_eq_some_iff.1 hj).1; simp [AV.cells] at this; omega
            subst hj0
            cases hj; exact .int _ _
        rw [hbl] at key
        exact key
    · congr 1
      simp only [lits, l, List.map_map]
      apply List.map_congr_left
      intro n hn'
      simp only [Function.comp]
      rw [u8_back (hb n (List.mem_of_mem_take hn'))]
end
end Go.Proofs.YtnpgcmeclkncnaaGreatDoor.X
/- The program logic's rules: a call of which only the answer is told. No condition. -/
set_option linter.unusedVariables false
set_option linter.unusedSimpArgs false
namespace Go.Proofs.YtnpgcmeclkncnaaGreatDoor.X
open Go Go.RowKit
/-- It answers what stands for 'r'; of the old blocks it turns the objects' alone. -/
def RunX (P : Program) (f : FuncId) (args : List AV) (H : Hp) (r : AV) : Prop :=
  ∀ G w cargs, GE ⟨G, w, foot G H w⟩ → KnOK G w → HpOK G w H → VL G cargs args → Calls P f cargs w fun e w' => ∃ v G', e = .returned v ∧ V G' v r ∧ Fr (foot G H w) w w'
theorem RunX.of_tri {P : Program} {f : FuncId} {fn : Func} {c : Code} {N : Nat} {args : List AV} {H : Hp} {r : AV} (hf : P.funcs[f]? = some fn) (hb : fn.body = some c) (hN : fn.ntmps = N) (hle : args.length ≤ N)
    (h : Tri P N c ((.h, .hp H) :: initS args 0) fun e s' => (e = .normal ∨ e = .ret) ∧ ResOK P fn s' r) : RunX P f args H r := by
  intro G w cargs hg hk hH hV
  refine calls_of_wp hf hb ?_
  have h0 := fits0 hN hle hg hk hH hV
  refine wp_mono (h ⟨G, w, foot G H w⟩ _ w h0) ?_
  rintro e a' w' ⟨s', ⟨G', L', hr⟩, he, hres⟩
  obtain ⟨v, hv, hV'⟩ := hres _ _ _ _ _ _ hr
  have hpost : ∃ v2 G', Ending.returned v = .returned v2 ∧ V G' v2 r ∧ Fr (foot G H w) w w' := ⟨v, G', rfl, hV', hr.fr⟩
  rcases he with rfl | rfl
  · exact ⟨hr.defs, v, hv, hpost⟩
  · exact ⟨hr.defs, v, hv, hpost⟩
/-- A law's call. -/
theorem law_runX {P : Program} {f : FuncId} {xs : List AV} (h : RunX P f xs hp0 (.bool true)) {W : World} {args : Array Value} (hg : gok W ∧ gN ≤ W.heap.size) (hv : VL (gh0 W) args xs) :
    Calls P f args W fun e w' => e = .returned (.bool true) ∧ Below W.heap.size W w' := by
  refine (h (gh0 W) W args ⟨hg.1, hg.2, fun g _ => hp0_foot _ _ g⟩ (fun b o v e => e) (hp0_ok _ _ fun _ => rfl) hv).mono fun e w' ⟨v, G', he, hV, hf⟩ => ?_
  cases hV
  exact ⟨he, hf.os, hf.tape, hf.output, hf.size, fun k hk => hf.block k hk (hp0_foot _ _ k)⟩
end Go.Proofs.YtnpgcmeclkncnaaGreatDoor.X
/- The law frame: lists of texts, numbers. No condition. -/
set_option linter.unusedVariables false
namespace Go.Proofs.YtnpgcmeclkncnaaGreatDoor.X
open Go Go.RowKit Go.ChangeShapes Go.WideShapes Go.ChangeAt
section
variable {H : Type} {enc : TypeId × Value → H} {P : Program} {W W' : World}
theorem cell_spot {a : Addr} {v : Value} (h : W.cell? a = some v) : a.spot = none := by
  unfold World.cell? at h
  split at h
  · split at h
    · cases h
    · rename_i hns; simpa using hns
  · cases h
theorem str_arr (s : ByteArray) : s = ⟨s.data.toList.toArray⟩ := by cases s; simp
theorem open_strl {r : Reach} {b0 : Nat} {t e : TypeId} {v : Value} {d : DataW H} {ps : List MemPlace} (ht : P.underlying t = some (.slice e)) (he : P.underlying e = some .string) (hc : P.cellsOf e = 1) (hval : Value.okWide P W r b0 t v)
    (hd : DataW.Trod enc P W 0 (fun _ => true) true t v d ps) : ∃ l : List (List UInt8), V (gh0 W) v (.sl (l.map .str)) := by
  obtain ⟨a0, len0, cap0, rfl⟩ := okWide_slice ht hval
  obtain ⟨fuel, hd⟩ := hd
  have hcs : (Value.slice a0 len0 cap0).cells.toList = [.slice a0 len0 cap0] := by simp [Value.cells]
  rw [hcs] at hd
  rcases Go.Deep.open_strs ht he hc hd with ⟨h1, h2⟩ | ⟨a, len, cap, m, Sx, h1, _, hlc, hm, hmm, h2, hx⟩
  · cases h1
    exact ⟨[], .slE _ _⟩
  · cases h1
    have hm2 : m = cap0 := by rw [hmm, if_pos rfl]
    subst hm2
    let l : List (List UInt8) := (List.range len0).map fun i => (Sx i).data.toList
    have hll : (l.map AV.str).length = len0 := by simp [l]
    have hg : ∀ i e, (l.map AV.str)[i]? = some e → i < len0 ∧ e = .str (Sx i).data.toList := by
      intro i e h
      have hi : i < len0 := by have := (List.getElem?_eq_some_iff.1 h).1; omega
      simp only [l, List.map_map, List.getElem?_map, List.getElem?_range hi, Option.map_some, Function.comp] at h
      cases h; exact ⟨hi, rfl⟩
    refine ⟨l, ?_⟩
    by_cases h0 : len0 = 0
    · have : l = [] := by simp [l, h0]
      rw [this, h0]; exact .slE _ _
    · have hsp : a.spot = none := by
        have := cell_spot (hx 0 (by omega)).1
        simpa [Addr.add] using this
      obtain ⟨b, o, sp⟩ := a
      simp only at hsp
      subst hsp
      have key : V (gh0 W) (.slice (some ⟨b, o, none⟩) (l.map AV.str).length m) (.sl (l.map .str)) := by
        refine V.slN b o m 1 (l.map AV.str) (fun i _ => .string (Sx i)) (by omega) ?_ ?_ ?_ ?_
        · intro i e he'
          obtain ⟨hi, rfl⟩ := hg i e he'; rfl
        · intro i e j c he' hj
          obtain ⟨hi, rfl⟩ := hg i e he'
          have hj0 : j = 0 := by have := (List.getElem?_eq_some_iff.1 hj).1; simp [AV.cells] at this; omega
          subst hj0
          have := (hx i (by omega)).1
          rw [Addr.add_lit] at this
          simpa [gh0] using this
        · intro i e j c he' hj
          obtain ⟨hi, rfl⟩ := hg i e he'
          have hj0 : j = 0 := by have := (List.getElem?_eq_some_iff.1 hj).1; simp [AV.cells] at this; omega
          subst hj0
          cases hj; rfl
        · intro i e j c he' hj
          obtain ⟨hi, rfl⟩ := hg i e he'
          have hj0 : j = 0 := by have := (List.getElem?_eq_some_iff.1 hj).1; simp [AV.cells] at this; omega
          subst hj0
          cases hj
          have := V.str (G := gh0 W) (Sx i).data.toList
          rwa [← str_arr] at this
      rw [hll] at key
      exact key
theorem wf_u64 {n : Int} (h : (Lit.int .u64 n).wf = true) : ∃ k : Nat, n = k ∧ k < 18446744073709551616 := by
  have : 0 ≤ n ∧ n ≤ 18446744073709551615 := by simpa [Lit.wf, IntKind.min, IntKind.max, IntKind.signed, IntKind.bits] using h
  exact ⟨n.toNat, by omega, by omega⟩
theorem wf_u8' {n : Int} (h : (Lit.int .u8 n).wf = true) : ∃ k : Nat, n = k ∧ k < 256 := by
  have := wf_u8 h
  exact ⟨n.toNat, by omega, by omega⟩
end
end Go.Proofs.YtnpgcmeclkncnaaGreatDoor.X
/- The law frame: slices of whatever. No condition. -/
set_option linter.unusedVariables false
namespace Go.Proofs.YtnpgcmeclkncnaaGreatDoor.X
open Go Go.RowKit Go.ChangeShapes Go.WideShapes Go.ChangeAt
section
variable {H : Type} {enc : TypeId × Value → H} {P : Program} {W W' : World}
/-- A slice, where each element that is read stands for something. -/
theorem open_sl {r : Reach} {b0 k : Nat} {t e : TypeId} {v : Value} {d : DataW H} {ps : List MemPlace} {Q : AV → Prop} (ht : P.underlying t = some (.slice e)) (hk : P.cellsOf e = k) (hpos : 0 < k) (hval : Value.okWide P W r b0 t v)
    (hd : DataW.Trod enc P W 0 (fun _ => true) true t v d ps)
    (hel : ∀ n cs y, DataW.trod enc P W 0 (fun _ => true) true n e cs = some y → ∃ av : AV, av.cells.length = k ∧ Q av ∧ ∀ (j : Nat) c, av.cells[j]? = some c → c.flat = true ∧ V (gh0 W) (cs.getD j undef) c) :
    ∃ l : List AV, V (gh0 W) v (.sl l) ∧ ∀ a ∈ l, Q a := by
  obtain ⟨a0, len0, cap0, rfl⟩ := okWide_slice ht hval
  obtain ⟨fuel, hd⟩ := hd
  have hcs : (Value.slice a0 len0 cap0).cells.toList = [.slice a0 len0 cap0] := by simp [Value.cells]
  rw [hcs] at hd
  rcases Go.Deep.open_slice ht hd with ⟨h1, h2⟩ | ⟨a, len, cap, m, n, D, Pl, h1, _, hlc, hm, hmm, h2, hx⟩
  · cases h1
    exact ⟨[], .slE _ _, by simp⟩
  · cases h1
    have hm2 : m = cap0 := by rw [hmm, if_pos rfl]
    subst hm2
    rw [hk] at hx
    have each : ∀ i, i < m → ∃ q : AV × (Nat → Value), q.1.cells.length = k ∧ Q q.1 ∧ ∀ (j : Nat) c, q.1.cells[j]? = some c → c.flat = true ∧ V (gh0 W) (q.2 j) c ∧ W.cell? ((a.add (i * k)).add j) = some (q.2 j) := by
      intro i hi
      obtain ⟨cs', h1, h2⟩ := hx i hi
      obtain ⟨_, hlen, hcell⟩ := World.cells?_some h1
      obtain ⟨av, q1, q2, q3⟩ := hel n cs' _ h2
      refine ⟨(av, fun j => cs'.getD j undef), q1, q2, fun j c hc => ⟨(q3 j c hc).1, (q3 j c hc).2, ?_⟩⟩
      have hc' : av.cells[j]? = some c := hc
      have hj : j < k := by have := (List.getElem?_eq_some_iff.1 hc').1; omega
      have := hcell j hj
      rw [this]
      show cs'[j]? = some (cs'.getD j undef)
      rw [List.getD_eq_getElem?_getD, List.getElem?_eq_getElem (by omega)]; rfl
    have hch : ∃ q : Nat → AV × (Nat → Value), ∀ i, i < m → (q i).1.cells.length = k ∧ Q (q i).1 ∧ ∀ (j : Nat) c, (q i).1.cells[j]? = some c → c.flat = true ∧ V (gh0 W) ((q i).2 j) c ∧ W.cell? ((a.add (i * k)).add j) = some ((q i).2 j) :=
      ⟨fun i => if h : i < m then (each i h).choose else (.nilp, fun _ => undef), fun i hi => by simp only [dif_pos hi]; exact (each i hi).choose_spec⟩
    obtain ⟨q, hq⟩ := hch
    let l : List AV := (List.range len0).map fun i => (q i).1
    have hll : l.length = len0 := by simp [l]
    have hg : ∀ (i : Nat) e, l[i]? = some e → i < len0 ∧ e = (q i).1 := by
      intro i e h
      have hi : i < len0 := by have := (List.getElem?_eq_some_iff.1 h).1; omega
      simp only [l, List.getElem?_map, List.getElem?_range hi, Option.map_some] at h
      cases h; exact ⟨hi, rfl⟩
    refine ⟨l, ?_, fun x hx => ?_⟩
    · by_cases h0 : len0 = 0
      · have : l = [] := List.length_eq_zero_iff.1 (by omega)
        rw [this, h0]; exact .slE _ _
      · have hsp : a.spot = none := by
          obtain ⟨h1, _, h3⟩ := hq 0 (by omega)
          have h0' : 0 < (q 0).1.cells.length := by omega
          have := cell_spot (h3 0 _ (List.getElem?_eq_getElem h0')).2.2
          simpa [Addr.add] using this
        obtain ⟨b, o, sp⟩ := a
        simp only at hsp
        subst hsp
        have key : V (gh0 W) (.slice (some ⟨b, o, none⟩) l.length m) (.sl l) := by
          refine V.slN b o m k l (fun i j => (q i).2 j) (by omega) ?_ ?_ ?_ ?_
          · intro i e he'
            obtain ⟨hi, rfl⟩ := hg i e he'; exact (hq i (by omega)).1
          · intro i e j c he' hj
            obtain ⟨hi, rfl⟩ := hg i e he'
            have := ((hq i (by omega)).2.2 j c hj).2.2
            rw [Addr.add_lit, Addr.add_lit] at this
            simpa [gh0] using this
          · intro i e j c he' hj
            obtain ⟨hi, rfl⟩ := hg i e he'
            exact ((hq i (by omega)).2.2 j c hj).1
          · intro i e j c he' hj
            obtain ⟨hi, rfl⟩ := hg i e he'
            exact ((hq i (by omega)).2.2 j c hj).2.1
        rw [hll] at key
        exact key
    · obtain ⟨i, hi⟩ := List.mem_iff_getElem?.1 hx
      obtain ⟨h1, rfl⟩ := hg i x hi
      exact (hq i (by omega)).2.1
theorem map_of_all {α : Type} {f : α → AV} {R : α → Prop} : ∀ {l : List AV}, (∀ a ∈ l, ∃ x, a = f x ∧ R x) → ∃ m : List α, l = m.map f ∧ ∀ x ∈ m, R x
  | [], _ => ⟨[], rfl, by simp⟩
  | a :: l, h => by
    obtain ⟨x, rfl, hx⟩ := h a (by simp)
    obtain ⟨m, rfl, hm⟩ := map_of_all (l := l) (fun b hb => h b (by simp [hb]))
    exact ⟨x :: m, rfl, fun y hy => by rcases List.mem_cons.1 hy with rfl | h2; exact hx; exact hm y h2⟩
end
end Go.Proofs.YtnpgcmeclkncnaaGreatDoor.X
/- The program logic's rules: contracts of the library, said of worlds, as calls of the logic. No condition. -/
set_option linter.unusedVariables false
namespace Go.Proofs.YtnpgcmeclkncnaaGreatDoor.X
open Go Go.RowKit
/-- A call that leaves all that was there as it was, and answers with what is known of. -/
theorem Pure.of_calls {P : Program} {f : FuncId} {args : List AV} {r : AV}
    (h : ∀ G w cargs, gok w → gN ≤ w.heap.size → KnOK G w → VL G cargs args → Calls P f cargs w fun e w' => ∃ v, e = .returned v ∧ V G v r ∧ Below w.heap.size w w') : Pure P f args r := by
  intro H G w cargs hg hk hH hV
  refine (h G w cargs hg.1 hg.2.1 hk hV).mono ?_
  rintro e w' ⟨v, he, hv, hb⟩
  obtain ⟨h1, h2⟩ := hH.stay (G' := G) (Gh.le.refl G) rfl (fun b hb' o => (hH.foot hb').2 o) (fun b hb' => hb.block b (hH.foot hb').1) hb.size
  refine ⟨v, G, he, hv, ⟨fun _ _ _ _ => rfl, fun _ _ h => h, fun _ _ h => .inl h⟩, fun b o u e2 => ?_, h1, ⟨hb.os, hb.tape, hb.output, hb.size, fun k hk' _ => hb.block k hk'⟩, fun b hb' => .inr ((h2 b).1 hb')⟩
  rw [World.cell?_of_block (w := w) (hb.block b (hk.lt e2))]
  exact hk b o u e2
/-- .. and the world. -/
theorem Pure.of_same {P : Program} {f : FuncId} {args : List AV} {r : AV}
    (h : ∀ G w cargs, gok w → gN ≤ w.heap.size → KnOK G w → VL G cargs args → Calls P f cargs w fun e w' => (∃ v, e = .returned v ∧ V G v r) ∧ w' = w) : Pure P f args r :=
  Pure.of_calls fun G w cargs hg hn hk hV => (h G w cargs hg hn hk hV).mono fun e w' ⟨⟨v, he, hv⟩, hw⟩ => ⟨v, he, hv, by rw [hw]; exact Below.refl _ _⟩
theorem VL.one {G : Gh} {c : Array Value} {a : AV} (h : VL G c [a]) : ∃ x, c = #[x] ∧ V G x a := by
  obtain ⟨h1, h2⟩ := h
  obtain ⟨l⟩ := c
  match l, h1 with
  | [x], _ => exact ⟨x, rfl, h2 0 a rfl⟩
theorem VL.two {G : Gh} {c : Array Value} {a b : AV} (h : VL G c [a, b]) : ∃ x y, c = #[x, y] ∧ V G x a ∧ V G y b := by
  obtain ⟨h1, h2⟩ := h
  obtain ⟨l⟩ := c
  match l, h1 with
  | [x, y], _ => exact ⟨x, y, rfl, h2 0 a rfl, h2 1 b rfl⟩
theorem VL.three {G : Gh} {c : Array Value} {a b d : AV} (h : VL G c [a, b, d]) : ∃ x y z, c = #[x, y, z] ∧ V G x a ∧ V G y b ∧ V G z d := by
  obtain ⟨h1, h2⟩ := h
  obtain ⟨l⟩ := c
  match l, h1 with
  | [x, y, z], _ => exact ⟨x, y, z, rfl, h2 0 a rfl, h2 1 b rfl, h2 2 d rfl⟩
theorem V.str_eq {G : Gh} {v : Value} {s : List UInt8} (h : V G v (.str s)) : v = .string ⟨s.toArray⟩ := by cases h; rfl
theorem V.int_eq {G : Gh} {v : Value} {k : IntKind} {n : Int} (h : V G v (.int k n)) : v = .int k n := by cases h; rfl
/-- a pair -/
theorem V.tup2 {G : Gh} {x y : Value} {a b : AV} (h1 : V G x a) (h2 : V G y b) : V G (.tuple #[x, y]) (.tup [a, b]) :=
  .tup _ _ rfl fun j c hj => by
    match j, hj with
    | 0, hj => cases hj; exact h1
    | 1, hj => cases hj; exact h2
section
variable {P : Program} {N : Nat} {s : St} {d : Nat} {ty : TypeId} {pos : String} {af : Array Edge} {g : Option (Nat × Bool)}
/-- an interface is nil -/
def ifnil : AV → Option Bool
  | .nili => some true
  | .ifc _ _ => some false
  | _ => none
theorem ifnil_sound {G : Gh} {v : Value} {a : AV} {b : Bool} (h : V G v a) (hb : ifnil a = some b) : (b = true ∧ v = .nilIface) ∨ (b = false ∧ ∃ t u, v = .iface t u) := by
  cases h <;> simp [ifnil] at hb
  · rename_i t v a h; subst hb; exact .inr ⟨rfl, t, v, rfl⟩
  · subst hb; exact .inl ⟨rfl, rfl⟩
theorem op_eqi {t1 t2 : TypeId} {x : Operand} {y : AV} {b : Bool} (hN : d < N) (ht : P.underlying t1 = some (.interface (P.methodsAt t1))) (hx : opv x s = some y) (hb : ifnil y = some b) :
    OpOK P N ⟨some d, .binOp .eql t1 x (.const .nilIface) t2, ty, pos, af, g⟩ s (rd x) [(.s d, .sv (.v (.bool b)))] :=
  OpOK.val rfl hN fun E G L a w t hr hR => by
    refine ⟨.bool b, ?_, .bool _⟩
    have hv := opv_sound hr hR hx
    have he : a.eval (.const .nilIface) = .nilIface := rfl
    rcases ifnil_sound hv hb with ⟨rfl, hp⟩ | ⟨rfl, tt, u, hp⟩
    · have hgd : (eqGuard .eql t1 x (.const .nilIface) .nilIface .nilIface).run P w = .ok () w := by rw [eqGuard_nil_constR]; rfl
      simp only [execOp, Sem.run_bind, hp, he, hgd, Result.andThen_ok, run_eql_nil_nil w t1 ht, Sem.run_pure]
    · have hgd : (eqGuard .eql t1 x (.const .nilIface) (.iface tt u) .nilIface).run P w = .ok () w := by simp [eqGuard]
      simp only [execOp, Sem.run_bind, hp, he, hgd, Result.andThen_ok, run_eql_held_nil w t1 tt u ht, Sem.run_pure]
theorem op_nei {t1 t2 : TypeId} {x : Operand} {y : AV} {b : Bool} (hN : d < N) (ht : P.underlying t1 = some (.interface (P.methodsAt t1))) (hx : opv x s = some y) (hb : ifnil y = some b) :
    OpOK P N ⟨some d, .binOp .neq t1 x (.const .nilIface) t2, ty, pos, af, g⟩ s (rd x) [(.s d, .sv (.v (.bool (!b))))] :=
  OpOK.val rfl hN fun E G L a w t hr hR => by
    refine ⟨.bool (!b), ?_, .bool _⟩
    have hv := opv_sound hr hR hx
    have he : a.eval (.const .nilIface) = .nilIface := rfl
    rcases ifnil_sound hv hb with ⟨rfl, hp⟩ | ⟨rfl, tt, u, hp⟩
    · have hgd : (eqGuard .neq t1 x (.const .nilIface) .nilIface .nilIface).run P w = .ok () w := by rw [eqGuard_nil_constR]; rfl
      simp only [execOp, Sem.run_bind, hp, he, hgd, Result.andThen_ok, run_neq_nil_nil w t1 ht, Sem.run_pure, Bool.not_true]
    · have hgd : (eqGuard .neq t1 x (.const .nilIface) (.iface tt u) .nilIface).run P w = .ok () w := by simp [eqGuard]
      simp only [execOp, Sem.run_bind, hp, he, hgd, Result.andThen_ok, run_neq_held_nil w t1 tt u ht, Sem.run_pure, Bool.not_false]
end
end Go.Proofs.YtnpgcmeclkncnaaGreatDoor.X
/- The law frame: whatever comes in of plain types, opened at once. No condition. -/
set_option linter.unusedVariables false
namespace Go.Proofs.YtnpgcmeclkncnaaGreatDoor.X
open Go Go.RowKit Go.ChangeShapes Go.WideShapes Go.ChangeAt
/-- The value of a type that has such cells. -/
def pack (P : Program) (t : TypeId) (cs : List AV) : AV :=
  match P.underlying t with
  | some (.struct _) | some (.array _ _) => .agg cs
  | _ => cs.headD .junk
def TyF (P : Program) (R : TypeId → List AV → Prop) : List TypeId → List AV → Prop
  | [], cs => cs = []
  | t :: ts, cs => ∃ a b, cs = a ++ b ∧ a.length = P.cellsOf t ∧ R t a ∧ TyF P R ts b
/-- Cells of a value of a plain type, so deep. -/
def Ty (P : Program) : Nat → TypeId → List AV → Prop
  | 0, _, _ => False
  | n + 1, t, cs =>
    match P.underlying t with
    | some .bool => ∃ b, cs = [.bool b]
    | some (.int k) => ∃ m, cs = [.int k m] ∧ (Lit.int k m).wf = true
    | some .string => ∃ s : List UInt8, cs = [.str s] ∧ s.length ≤ reachBytes
    | some (.slice e) => ∃ css : List (List AV), cs = [.sl (css.map (pack P e))] ∧ css.length * P.bytesOf e ≤ reachBytes ∧ ∀ c ∈ css, Ty P n e c
    | some (.struct fs) => TyF P (Ty P n) (fs.toList.map (·.type)) cs
    | some (.array m e) => TyF P (Ty P n) (List.replicate m e) cs
    | _ => False
/-- Fields lie one behind the other. -/
def tiles (P : Program) : List Field → Nat → Nat → Bool
  | [], o, n => o == n
  | f :: fs, o, n => f.offset == o && tiles P fs (o + P.cellsOf f.type) n
def plainT (P : Program) (S : List TypeId) (t : TypeId) : Bool :=
  match P.underlying t with
  | some .bool | some (.int _) | some .string => P.cellsOf t == 1
  | some (.slice e) => P.cellsOf t == 1 && S.contains e && decide (0 < P.cellsOf e)
  | some (.struct fs) => (fs.toList.all fun f => S.contains f.type) && tiles P fs.toList 0 (P.cellsOf t)
  | some (.array n e) => S.contains e && P.cellsOf t == n * P.cellsOf e
  | _ => false
section
variable {H : Type} {enc : TypeId × Value → H} {P : Program} {W : World}
def Stands (W : World) (cs : List Value) (acs : List AV) : Prop := acs.length = cs.length ∧ ∀ (j : Nat) c, acs[j]? = some c → c.flat = true ∧ V (gh0 W) (cs.getD j undef) c
theorem Stands.one {v : Value} {a : AV} (hf : a.flat = true) (h : V (gh0 W) v a) : Stands W [v] [a] :=
  ⟨rfl, fun j c hc => by
    match j, hc with
    | 0, hc => cases hc; exact ⟨hf, h⟩⟩
theorem Stands.app {a b : List Value} {x y : List AV} (h1 : Stands W a x) (h2 : Stands W b y) : Stands W (a ++ b) (x ++ y) := by
  refine ⟨by simp [h1.1, h2.1], fun j c hc => ?_⟩
  by_cases hj : j < x.length
  · rw [List.getElem?_append_left hj] at hc
    have := h1.2 j c hc
    rwa [List.getD_eq_getElem?_getD, List.getElem?_append_left (by rw [← h1.1]; exact hj), ← List.getD_eq_getElem?_getD]
  · rw [List.getElem?_append_right (by omega)] at hc
    have := h2.2 _ c hc
    rwa [List.getD_eq_getElem?_getD, List.getElem?_append_right (by rw [← h1.1]; omega), ← List.getD_eq_getElem?_getD, ← h1.1]
theorem pack_cells {S : List TypeId} {t : TypeId} {cs : List Value} {acs : List AV} (h : Stands W cs acs) (hc : cs.length = P.cellsOf t) (hp : plainT P S t = true) : (pack P t acs).cells = acs ∧ ∀ vs, pack P t acs ≠ .tup vs := by
  unfold pack
  unfold plainT at hp
  split
  · exact ⟨rfl, fun _ h => by cases h⟩
  · exact ⟨rfl, fun _ h => by cases h⟩
  · have h1 : P.cellsOf t = 1 := by
      split at hp <;> simp_all
    obtain ⟨h2, h3⟩ := h
    match acs, h2 with
    | [a], _ =>
      have hf := (h3 0 a rfl).1
      exact ⟨AV.cells_flat hf, fun vs e => by simp at e; subst e; simp [AV.flat] at hf⟩
    | [], h2 => simp at h2; omega
    | _ :: _ :: _, h2 => simp at h2; omega
theorem weightsAll_mem {P : Program} {e : TypeId} : ∀ {l : List (DataW H)} {d : DataW H} {n : Nat}, d ∈ l → n ∈ d.weights P e → n ∈ DataW.weightsAll P e l
  | x :: l, d, n, hd, hn => by
    simp only [DataW.weightsAll, List.mem_append]
    rcases List.mem_cons.1 hd with rfl | hd
    · exact .inl hn
    · exact .inr (weightsAll_mem hd hn)
/-- WHATEVER COMES IN OF A PLAIN TYPE. -/
theorem open_trod (S : List TypeId) (hS : S.all (plainT P S) = true) : ∀ (n : Nat) (t : TypeId) (cs : List Value) (y : DataW H × List MemPlace), t ∈ S → DataW.trod enc P W 0 (fun _ => true) true n t cs = some y → (∀ k ∈ y.1.weights P t, k ≤ reachBytes) →
    cs.length = P.cellsOf t ∧ ∃ acs, Stands W cs acs ∧ Ty P n t acs
  | 0, _, _, _, _, h, _ => by simp [DataW.trod] at h
  | n + 1, t, cs, y, ht, h, hw => by
    have hp := List.all_eq_true.1 hS t ht
    have hp0 := hp
    unfold plainT at hp
    split at hp
    · rename_i hu
      obtain ⟨b, rfl, _⟩ := DataW.trod_bool hu h
      exact ⟨by simpa using (eq_of_beq hp).symm, [.bool b], Stands.one rfl (.bool b), by unfold Ty; rw [hu]; exact ⟨b, rfl⟩⟩
    · rename_i k hu
      obtain ⟨m, rfl, _, hwf⟩ := DataW.trod_int hu h
      exact ⟨by simpa using (eq_of_beq hp).symm, [.int k m], Stands.one rfl (.int k m), by unfold Ty; rw [hu]; exact ⟨m, rfl, hwf⟩⟩
    · rename_i hu
      obtain ⟨s, rfl, rfl, _⟩ := DataW.trod_string hu h
      have hw' : s.data.toList.length ≤ reachBytes := hw _ (by simp [DataW.weights])
      refine ⟨by simpa using (eq_of_beq hp).symm, [.str s.data.toList], Stands.one rfl ?_, by unfold Ty; rw [hu]; exact ⟨_, rfl, hw'⟩⟩
      have := V.str (G := gh0 W) s.data.toList
      rwa [← str_arr] at this
    · rename_i e hu
      simp only [Bool.and_eq_true, decide_eq_true_eq, List.contains_iff_mem] at hp
      obtain ⟨⟨hp1, hp2⟩, hp3⟩ := hp
      rcases DataW.trod_slice hu h with ⟨rfl, _⟩ | ⟨a, len, cap, elems, rest, n', hn, rfl, hy, _, hl, hm, hlen, hel, _, _⟩
      · exact ⟨by simpa using (eq_of_beq hp1).symm, [.sl []], Stands.one rfl (.slE _ _), by unfold Ty; rw [hu]; exact ⟨[], rfl, by simp, by simp⟩⟩
      · cases hn
        rw [hy] at hw
        simp only [DataW.weights, hu] at hw
        have hwl := hw _ (List.mem_cons_self ..)
        have each : ∀ i, i < len → ∃ q : List AV × List Value, q.2.length = P.cellsOf e ∧ Stands W q.2 q.1 ∧ Ty P n e q.1 ∧ ∀ j, j < P.cellsOf e → W.cell? ((a.add (i * P.cellsOf e)).add j) = q.2[j]? := by
          intro i hi
          have h1 := hel i hi
          rw [List.getElem?_eq_getElem (by omega)] at h1
          obtain ⟨cs', h2, h3⟩ := Option.bind_eq_some_iff.1 h1
          obtain ⟨_, h4, h5⟩ := World.cells?_some h2
          obtain ⟨_, acs, h6, h7⟩ := open_trod S hS n e cs' _ hp2 h3 (fun k hk => hw k (List.mem_cons_of_mem _ (List.mem_append.2 (.inl (weightsAll_mem (List.mem_map.2 ⟨_, List.getElem_mem (show i < elems.length by omega), rfl⟩) hk)))))
          exact ⟨(acs, cs'), h4, h6, h7, h5⟩
        obtain ⟨q, hq⟩ : ∃ q : Nat → List AV × List Value, ∀ i, i < len → (q i).2.length = P.cellsOf e ∧ Stands W (q i).2 (q i).1 ∧ Ty P n e (q i).1 ∧ ∀ j, j < P.cellsOf e → W.cell? ((a.add (i * P.cellsOf e)).add j) = (q i).2[j]? :=
          ⟨fun i => if h : i < len then (each i h).choose else ([], []), fun i hi => by simp only [dif_pos hi]; exact (each i hi).choose_spec⟩
        let css : List (List AV) := (List.range len).map fun i => (q i).1
        let l : List AV := css.map (pack P e)
        have hll : l.length = len := by simp [l, css]
        have hg : ∀ (i : Nat) x, l[i]? = some x → i < len ∧ x = pack P e (q i).1 := by
          intro i x hx
          have hi : i < len := by have := (List.getElem?_eq_some_iff.1 hx).1; omega
          simp only [l, css, List.map_map, List.getElem?_map, List.getElem?_range hi, Option.map_some, Function.comp] at hx
          cases hx; exact ⟨hi, rfl⟩
        have hpk : ∀ i, i < len → (pack P e (q i).1).cells = (q i).1 := fun i hi => (pack_cells (hq i hi).2.1 (hq i hi).1 (List.all_eq_true.1 hS e hp2)).1
        refine ⟨by simpa using (eq_of_beq hp1).symm, [.sl l], Stands.one rfl ?_, ?_⟩
        · by_cases h0 : len = 0
          · have : l = [] := List.length_eq_zero_iff.1 (by omega)
            rw [this, h0]; exact .slE _ _
          · have hsp : a.spot = none := by
              obtain ⟨h1, h2, _, h4⟩ := hq 0 (by omega)
              have := h4 0 hp3
              rw [List.getElem?_eq_getElem (by omega)] at this
              have := cell_spot this
              simpa [Addr.add] using this
            obtain ⟨b, o, sp⟩ := a
            simp only at hsp
            subst hsp
            have key : V (gh0 W) (.slice (some ⟨b, o, none⟩) l.length cap) (.sl l) := by
              refine V.slN b o cap (P.cellsOf e) l (fun i j => (q i).2.getD j undef) (by omega) ?_ ?_ ?_ ?_
              · intro i x hx
                obtain ⟨hi, rfl⟩ := hg i x hx
                rw [hpk i hi, (hq i hi).2.1.1, (hq i hi).1]
              · intro i x j c hx hj
                obtain ⟨hi, rfl⟩ := hg i x hx
                rw [hpk i hi] at hj
                have hj' : j < P.cellsOf e := by have := (List.getElem?_eq_some_iff.1 hj).1; rw [(hq i hi).2.1.1, (hq i hi).1] at this; exact this
                have := (hq i hi).2.2.2 j hj'
                rw [Addr.add_lit, Addr.add_lit] at this
                rw [List.getElem?_eq_getElem (by rw [(hq i hi).1]; exact hj')] at this
                rw [List.getD_eq_getElem?_getD, List.getElem?_eq_getElem (by rw [(hq i hi).1]; exact hj')]
                simpa [gh0] using this
              · intro i x j c hx hj
                obtain ⟨hi, rfl⟩ := hg i x hx
                rw [hpk i hi] at hj
                exact ((hq i hi).2.1.2 j c hj).1
              · intro i x j c hx hj
                obtain ⟨hi, rfl⟩ := hg i x hx
                rw [hpk i hi] at hj
                exact ((hq i hi).2.1.2 j c hj).2
            rw [hll] at key
            exact key
        · unfold Ty
          rw [hu]
          refine ⟨css, rfl, ?_, fun c hc => ?_⟩
          · have hcl : css.length = len := by simp [css]
            rw [hcl]
            refine Nat.le_trans (Nat.mul_le_mul_right _ ?_) hwl
            rw [List.length_map, List.length_map, hlen]; omega
          obtain ⟨i, hi, rfl⟩ := List.mem_map.1 hc
          exact (hq i (by simpa using hi)).2.2.1
    · rename_i fs hu
      simp only [Bool.and_eq_true, List.all_eq_true, List.contains_iff_mem] at hp
      obtain ⟨hp1, hp2⟩ := hp
      obtain ⟨xs, n', hn, hy, hl, hlen, hf⟩ := DataW.trod_struct hu h
      cases hn
      rw [hy] at hw
      simp only [DataW.weights, hu] at hw
      have key : ∀ (l : List Field) (o : Nat) (cs : List Value), (∀ f ∈ l, f.type ∈ S) → tiles P l o (o + cs.length) = true → (∀ f ∈ l, o ≤ f.offset → ∃ y, DataW.trod enc P W 0 (fun _ => true) true n f.type ((cs.drop (f.offset - o)).take (P.cellsOf f.type)) = some y ∧ ∀ k ∈ y.1.weights P f.type, k ≤ reachBytes) →
          ∃ acs, Stands W cs acs ∧ TyF P (Ty P n) (l.map (·.type)) acs := by
        intro l
        induction l with
        | nil =>
          intro o cs _ ht _
          have : cs = [] := List.length_eq_zero_iff.1 (by simp only [tiles, beq_iff_eq] at ht; omega)
          subst this
          exact ⟨[], ⟨rfl, by simp⟩, rfl⟩
        | cons f l ih =>
          intro o cs hin ht hx
          simp only [tiles, Bool.and_eq_true, beq_iff_eq] at ht
          obtain ⟨ho, ht⟩ := ht
          obtain ⟨y, hy, hyw⟩ := hx f (by simp) (by omega)
          rw [ho, Nat.sub_self, List.drop_zero] at hy
          obtain ⟨h1, a, h2, h3⟩ := open_trod S hS n f.type _ y (hin f (by simp)) hy hyw
          rw [List.length_take] at h1
          have hle : ∀ (l : List Field) (o m : Nat), tiles P l o m = true → (∀ g ∈ l, o ≤ g.offset) := by
            intro l
            induction l with
            | nil => intro o m _ g hg; cases hg
            | cons g' l ih2 =>
              intro o m hm g hg
              simp only [tiles, Bool.and_eq_true, beq_iff_eq] at hm
              rcases List.mem_cons.1 hg with rfl | hg
              · omega
              · have := ih2 _ _ hm.2 g hg; omega
          obtain ⟨b, h4, h5⟩ := ih (o + P.cellsOf f.type) (cs.drop (P.cellsOf f.type)) (fun g hg => hin g (by simp [hg])) (by rw [List.length_drop, show o + P.cellsOf f.type + (cs.length - P.cellsOf f.type) = o + cs.length by omega]; exact ht) (fun g hg hog => by
            obtain ⟨y2, hy2, hyw2⟩ := hx g (by simp [hg]) (by omega)
            refine ⟨y2, ?_, hyw2⟩
            rw [List.drop_drop, show P.cellsOf f.type + (g.offset - (o + P.cellsOf f.type)) = g.offset - o by omega]
            exact hy2)
          refine ⟨a ++ b, ?_, a, b, rfl, by rw [h2.1, List.length_take]; exact h1, h3, h5⟩
          have := h2.app h4
          rwa [List.take_append_drop] at this
      refine ⟨hl, ?_⟩
      obtain ⟨acs, h1, h2⟩ := key fs.toList 0 cs (fun f hf => hp1 f hf) (by rw [Nat.zero_add, hl]; exact hp2) (fun f hf' _ => by
        obtain ⟨i, hi⟩ := List.mem_iff_getElem?.1 hf'
        have hi' : fs[i]? = some f := by simpa using hi
        have h3 := hf i f hi'
        have hlt : i < xs.length := by rw [hlen]; exact (Array.getElem?_eq_some_iff.1 hi').1
        refine ⟨xs[i], by rw [Nat.sub_zero, h3, List.getElem?_eq_getElem hlt], fun k hk => hw k (DataW.weights_mem_each (j := i) (t := f.type) (d := xs[i].1) ?_ ?_ k hk)⟩
        · rw [List.getElem?_map, hi]; rfl
        · rw [List.getElem?_map, List.getElem?_eq_getElem hlt]; rfl)
      exact ⟨acs, h1, by unfold Ty; rw [hu]; exact h2⟩
    · rename_i m e hu
      simp only [Bool.and_eq_true, List.contains_iff_mem, beq_iff_eq] at hp
      obtain ⟨hp1, hp2⟩ := hp
      obtain ⟨xs, n', hn, hy, hl, hlen, hf⟩ := DataW.trod_array hu h
      cases hn
      rw [hy] at hw
      simp only [DataW.weights, hu] at hw
      have key : ∀ (k : Nat) (cs : List Value), cs.length = k * P.cellsOf e → (∀ i, i < k → ∃ y, DataW.trod enc P W 0 (fun _ => true) true n e ((cs.drop (i * P.cellsOf e)).take (P.cellsOf e)) = some y ∧ ∀ k ∈ y.1.weights P e, k ≤ reachBytes) →
          ∃ acs, Stands W cs acs ∧ TyF P (Ty P n) (List.replicate k e) acs := by
        intro k
        induction k with
        | zero =>
          intro cs hc _
          have : cs = [] := List.length_eq_zero_iff.1 (by omega)
          subst this
          exact ⟨[], ⟨rfl, by simp⟩, rfl⟩
        | succ k ih =>
          intro cs hc hx
          obtain ⟨y, hy, hyw⟩ := hx 0 (by omega)
          rw [Nat.zero_mul, List.drop_zero] at hy
          obtain ⟨h1, a, h2, h3⟩ := open_trod S hS n e _ y hp1 hy hyw
          obtain ⟨b, h4, h5⟩ := ih (cs.drop (P.cellsOf e)) (by rw [List.length_drop, hc, Nat.succ_mul]; omega) (fun i hi => by
            obtain ⟨y2, hy2, hyw2⟩ := hx (i + 1) (by omega)
            refine ⟨y2, ?_, hyw2⟩
            rw [List.drop_drop, show P.cellsOf e + i * P.cellsOf e = (i + 1) * P.cellsOf e by rw [Nat.succ_mul]; omega]
            exact hy2)
          refine ⟨a ++ b, ?_, a, b, rfl, by rw [h2.1]; exact h1, h3, h5⟩
          have := h2.app h4
          rwa [List.take_append_drop] at this
      obtain ⟨acs, h1, h2⟩ := key m cs (by rw [hl]; exact hp2) (fun i hi => by
        have h3 := hf i hi
        exact ⟨xs[i], by rw [h3, List.getElem?_eq_getElem (by omega)], fun k hk => hw k (weightsAll_mem (List.mem_map.2 ⟨_, List.getElem_mem (show i < xs.length by omega), rfl⟩) hk)⟩)
      exact ⟨hl, acs, h1, by unfold Ty; rw [hu]; exact h2⟩
    · cases hp
/-- .. as an argument. -/
theorem open_arg (S : List TypeId) (hS : S.all (plainT P S) = true) {r : Reach} {b0 : Nat} {t : TypeId} {v : Value} {d : DataW H} {ps : List MemPlace} (ht : t ∈ S) (hval : Value.okWide P W r b0 t v)
    (hd : DataW.Trod enc P W 0 (fun _ => true) true t v d ps) (hw : ∀ k ∈ d.weights P t, k ≤ reachBytes) : ∃ acs n, V (gh0 W) v (pack P t acs) ∧ Ty P n t acs := by
  obtain ⟨n, hd⟩ := hd
  obtain ⟨hl, acs, h1, h2⟩ := open_trod S hS n t _ _ ht hd hw
  refine ⟨acs, n, ?_, h2⟩
  have hp := List.all_eq_true.1 hS t ht
  have agg : ∀ cs, v = .agg cs → V (gh0 W) v (.agg acs) := by
    rintro cs rfl
    exact .agg cs acs (by have := h1.1; simpa [Value.cells] using this.symm) (fun j c hc => (h1.2 j c hc).1) fun j c hc => by
      have := (h1.2 j c hc).2
      simpa [Value.cells, List.getD_eq_getElem?_getD] using this
  unfold pack
  split
  · rename_i fs hu
    obtain ⟨cs, rfl, _⟩ := okWide_struct hu hval
    exact agg cs rfl
  · rename_i m e hu
    have : ∃ cs, v = .agg cs := by unfold Value.okWide at hval; rw [hu] at hval; obtain ⟨cs, h, _⟩ := hval; exact ⟨cs, h⟩
    obtain ⟨cs, rfl⟩ := this
    exact agg cs rfl
  · rename_i hn1 hn2
    have hone : ∀ u, v.cells.toList = [u] → u = v → V (gh0 W) v (acs.headD .junk) := by
      intro u hu e
      subst e
      obtain ⟨h3, h4⟩ := h1
      rw [hu] at h3 h4
      match acs, h3 with
      | [a], _ => exact (h4 0 a rfl).2
    unfold plainT at hp
    split at hp
    · rename_i hu
      obtain ⟨b, h3, _⟩ := DataW.trod_bool hu hd
      refine hone _ h3 ?_
      cases v <;> simp_all [Value.cells]
      all_goals first | (rename_i x; obtain ⟨l⟩ := x; simp_all [Value.okWide]; done) | skip
      all_goals (unfold Value.okWide at hval; rw [hu] at hval; simp [Cell.okWide, hu, Cell.ok] at hval)
    · rename_i k hu
      obtain ⟨m, h3, _⟩ := DataW.trod_int hu hd
      refine hone _ h3 ?_
      cases v <;> simp_all [Value.cells]
      all_goals (unfold Value.okWide at hval; rw [hu] at hval; simp [Cell.okWide, hu, Cell.ok] at hval)
    · rename_i hu
      obtain ⟨s, rfl⟩ := okWide_string hu hval
      exact hone _ rfl rfl
    · rename_i e hu
      obtain ⟨a, len, cap, rfl⟩ := okWide_slice hu hval
      exact hone _ rfl rfl
    · rename_i fs hu; exact absurd hu (hn1 fs)
    · rename_i m e hu; exact absurd hu (hn2 m e)
    · cases hp
end
end Go.Proofs.YtnpgcmeclkncnaaGreatDoor.X
/- The program logic's rules: loops that change a few slots; what a loop over a slice is told by. No condition. -/
set_option linter.unusedVariables false
set_option linter.unusedSimpArgs false
namespace Go.Proofs.YtnpgcmeclkncnaaGreatDoor.X
open Go Go.RowKit
section
variable {P : Program} {N : Nat} {s : St} {Q : Exit → St → Prop}
/-- A LOOP that changes what 'upd' tells, and leaves 'rest'. -/
theorem Tri.loopk {c : Code} {α : Type} (upd : α → St) (rest : St) (I : α → Prop) (m : α → Nat) (a0 : α) (hs : s = upd a0 ++ rest) (h0 : I a0)
    (hb : ∀ a, I a → Tri P N c (upd a ++ rest) fun e s' => match e with | .normal => ∃ b, m b < m a ∧ I b ∧ s' = upd b ++ rest | e => Q e s') : Tri P N (.loop c) s Q := by
  refine Tri.loop (fun n t => ∃ a, m a = n ∧ I a ∧ t = upd a ++ rest) ?_ (n := m a0) ⟨a0, rfl, h0, hs⟩
  rintro n t ⟨a, rfl, ha, rfl⟩
  refine (hb a ha).mono fun e s' h => ?_
  cases e with
  | normal => obtain ⟨b, h1, h2, h3⟩ := h; exact ⟨m b, h1, b, rfl, h2, h3⟩
  | _ => exact h
/-- WAYS MEET: behind them the slots that 'upd' tells, the rest as it was. -/
theorem Tri.joinu {c d : Code} {α : Type} (cs : List Comp) (upd : α → St) (F : α → Prop) {rest : St} (hr : X.keep cs s cs = some rest) (h1 : Tri P N c s fun e s' => match e with | .normal => ∃ a, F a ∧ s' = upd a ++ rest | e => Q e s')
    (h2 : ∀ a, F a → Tri P N d (upd a ++ rest) Q) : Tri P N (.seq c d) s Q :=
  Tri.join (fun s' => ∃ a, F a ∧ s' = upd a ++ rest) h1 fun s' ⟨a, ha, e⟩ => e ▸ h2 a ha
/-- a slot's number, told in another way -/
theorem Kept.seti {Q : St → Prop} (n : Nat) {k : IntKind} {v v' : Int} (h : get s (.s n) = some (.sv (.v (.int k v)))) (e : v = v') (hq : Kept ((.s n, .sv (.v (.int k v'))) :: s) Q) : Kept s Q := fun E N a w ⟨G, L, hr⟩ => by
  subst e
  refine hq E N a w ⟨G, L, hr.ext fun c => ?_⟩
  simp only [get]
  split
  · rename_i hc; subst hc; exact h.symm
  · rfl
/-- the objects, told in another way -/
theorem Kept.seth {Q : St → Prop} {H H' : Hp} (h : get s .h = some (.hp H)) (e : H = H') (hq : Kept ((.h, .hp H') :: s) Q) : Kept s Q := fun E N a w ⟨G, L, hr⟩ => by
  subst e
  refine hq E N a w ⟨G, L, hr.ext fun c => ?_⟩
  simp only [get]
  split
  · rename_i hc; subst hc; exact h.symm
  · rfl
/-- a slot's value, told in another way -/
theorem Kept.setv {Q : St → Prop} (n : Nat) {v v' : AV} (h : get s (.s n) = some (.sv (.v v))) (e : v = v') (hq : Kept ((.s n, .sv (.v v')) :: s) Q) : Kept s Q := fun E N a w ⟨G, L, hr⟩ => by
  subst e
  refine hq E N a w ⟨G, L, hr.ext fun c => ?_⟩
  simp only [get]
  split
  · rename_i hc; subst hc; exact h.symm
  · rfl
end
theorem TriD.g3 {P : Program} {N : Nat} {ops : Array Oper} {l : List Oper} {s : St} {Q : St → Prop} {o : Oper} {R : List Comp} {A : List (List Nat)} {acc : List (List Comp × St)} {c c' c2 : Comp} {v u y : CV} {d : Nat} {b b' : Bool} (hg : gslot ops o = some (d, b)) (hN : d < N) (hc : get s (.s d) = some (.sv (.v (.bool b')))) (hb : b' = b) (ho : OpOK P N o s R [(c, v), (c', u), (c2, y)]) (h : TriD P N ops A Q (acc ++ [(.s d :: R, [(c, v), (c', u), (c2, y)])]) l ((c, v) :: (c', u) :: (c2, y) :: s)) : TriD P N ops A Q acc (o :: l) s := TriD.cons (StepOK.on hN hg (hb ▸ hc) ho) h
theorem fdiv_nat (a k : Nat) : ((a : Nat) : Int).fdiv (2 ^ k) = ((a / 2 ^ k : Nat) : Int) := by
  rw [Int.fdiv_eq_ediv_of_nonneg _ (by exact Int.le_of_lt (Int.pow_pos (by decide)))]
  norm_cast
section
variable {P : Program} {N : Nat} {s : St} {d : Nat} {ty : TypeId} {pos : String} {af : Array Edge} {g : Option (Nat × Bool)}
/-- a >> b of a number that is none below nought -/
theorem op_shr {t1 t2 : TypeId} {x y : Operand} {k k' : IntKind} {a : Nat} {b : Int} (hN : d < N) (hx : opv x s = some (.int k (a : Int))) (hy : opv y s = some (.int k' b)) (hb : 0 ≤ b) :
    OpOK P N ⟨some d, .binOp .shr t1 x y t2, ty, pos, af, g⟩ s (rd x ++ rd y) [(.s d, .sv (.v (.int k ((a / 2 ^ (min b.toNat k.bits) : Nat) : Int))))] :=
  op_bin hN hx hy (by
    show (if b < 0 then none else some (AV.int k (((a : Nat) : Int).fdiv (2 ^ (min b.toNat k.bits))))) = _
    rw [if_neg (by omega), fdiv_nat])
theorem op_maxi {ts : Array TypeId} {x y : Operand} {k k' : IntKind} {m n : Int} (hN : d < N) (hx : opv x s = some (.int k m)) (hy : opv y s = some (.int k' n)) :
    OpOK P N ⟨some d, .call { callee := .builtin .max, args := #[x, y], argTypes := ts }, ty, pos, af, g⟩ s (rd x ++ rd y) [(.s d, .sv (.v (.int k (if n > m then n else m))))] :=
  OpOK.val rfl hN fun _ G _ a w _ hr hR => by
    refine ⟨.int k (if n > m then n else m), ?_, .int _ _⟩
    have h1 := (opv_sound hr hR.left hx).int_eq
    have h2 := (opv_sound hr hR.right hy).int_eq
    simp [execOp, resolve, invoke, builtin, h1, h2, run_max_int2]
theorem op_mini {ts : Array TypeId} {x y : Operand} {k k' : IntKind} {m n : Int} (hN : d < N) (hx : opv x s = some (.int k m)) (hy : opv y s = some (.int k' n)) :
    OpOK P N ⟨some d, .call { callee := .builtin .min, args := #[x, y], argTypes := ts }, ty, pos, af, g⟩ s (rd x ++ rd y) [(.s d, .sv (.v (.int k (if n < m then n else m))))] :=
  OpOK.val rfl hN fun _ G _ a w _ hr hR => by
    refine ⟨.int k (if n < m then n else m), ?_, .int _ _⟩
    have h1 := (opv_sound hr hR.left hx).int_eq
    have h2 := (opv_sound hr hR.right hy).int_eq
    simp [execOp, resolve, invoke, builtin, h1, h2, run_min_int2]
end
theorem Hp.set_set {H : Hp} {id : Nat} {a b : List Hc} : (H.set id a).set id b = H.set id b := by
  simp only [Hp.set]
  congr 1
  funext i
  split <;> rfl
theorem Hp.set_obj {H : Hp} {id : Nat} {hs : List Hc} : (H.set id hs).obj id = some hs := by simp [Hp.set]
theorem Hp.set_same {H : Hp} {id : Nat} {hs : List Hc} (h : H.obj id = some hs) : H.set id hs = H := by
  obtain ⟨n, o⟩ := H
  simp only [Hp.set]
  congr 1
  funext i
  split
  · rename_i e; subst e; exact h.symm
  · rfl
theorem Hp.del_set (H : Hp) (id : Nat) (hs : List Hc) : (H.del id).set id hs = H.set id hs := by
  simp only [Hp.del, Hp.set]
  congr 1
  funext i
  split <;> rfl
theorem inc {n : Nat} (h : n < 9223372036854775807) : IntKind.i64.wrap ((n : Int) + 1) = ((n + 1 : Nat) : Int) := by
  simp only [IntKind.wrap, IntKind.bits, IntKind.signed]; simp; omega
theorem ltm {α β : Type} {f : α → β} {xs : List α} {i : Nat} (h : decide ((i : Int) < ((xs.map f).length : Int)) = true) : i < xs.length := by
  have := of_decide_eq_true h; rw [List.length_map] at this; omega
theorem gem {α β : Type} {f : α → β} {xs : List α} {i : Nat} (h : decide ((i : Int) < ((xs.map f).length : Int)) = false) : xs.length ≤ i := by
  have := of_decide_eq_false h; rw [List.length_map] at this; omega
theorem ixm {α β : Type} {f : α → β} {xs : List α} {i : Nat} (h : i < xs.length) : (xs.map f)[((i : Nat) : Int).toNat]? = some (f xs[i]) := by
  simp [h]
theorem lts {xs : List UInt8} {i : Nat} (h : decide ((i : Int) < (xs.length : Int)) = true) : i < xs.length := by
  have := of_decide_eq_true h; omega
theorem ges {xs : List UInt8} {i : Nat} (h : decide ((i : Int) < (xs.length : Int)) = false) : xs.length ≤ i := by
  have := of_decide_eq_false h; omega
theorem ixs {xs : List UInt8} {i : Nat} (h : i < xs.length) : xs[((i : Nat) : Int).toNat]? = some xs[i] := by
  simp [h]
theorem ltz {i n : Nat} (h : decide ((i : Int) < (n : Int)) = true) : i < n := by
  have := of_decide_eq_true h; omega
theorem gez {i n : Nat} (h : decide ((i : Int) < (n : Int)) = false) : n ≤ i := by
  have := of_decide_eq_false h; omega
theorem ltl {α : Type} {xs : List α} {i : Nat} (h : decide ((i : Int) < (xs.length : Int)) = true) : i < xs.length := by
  have := of_decide_eq_true h; omega
theorem gel {α : Type} {xs : List α} {i : Nat} (h : decide ((i : Int) < (xs.length : Int)) = false) : xs.length ≤ i := by
  have := of_decide_eq_false h; omega
theorem ixl {α : Type} {xs : List α} {i : Nat} (h : i < xs.length) : xs[((i : Nat) : Int).toNat]? = some xs[i] := by
  simp [h]
theorem ixm1 {α β : Type} {f : α → β} {xs : List α} {i : Nat} {j : Int} (hj : j = (i : Int)) (h : i < xs.length) : (xs.map f)[j.toNat]? = some (f xs[i]) := by
  subst hj; simp [h]
theorem dec1 {i : Nat} (h : 0 < i) (h2 : i ≤ 9223372036854775807) : IntKind.i64.wrap ((i : Int) - 1) = ((i - 1 : Nat) : Int) := by
  simp only [IntKind.wrap, IntKind.bits, IntKind.signed]; simp; omega
end Go.Proofs.YtnpgcmeclkncnaaGreatDoor.X
/- The program logic's rules: a local box is known for ever from now on; maps of one's own. No condition. -/
set_option linter.unusedVariables false
set_option linter.unusedSimpArgs false
namespace Go.Proofs.YtnpgcmeclkncnaaGreatDoor.X
open Go Go.RowKit
section
variable {N : Nat} {s : St}
def fzbSv (k : Nat) (cs : List AV) : Sv → Sv
  | .lp j o => if j = k then .v (.kp (cs.drop o)) else .lp j o
  | x => x
def fzbCV (k : Nat) (cs : List AV) : CV → CV
  | .sv x => .sv (fzbSv k cs x)
  | v => v
/-- the slots that point into a box that is written no more -/
def fzb (k : Nat) (cs : List AV) : St → St
  | [] => []
  | (c, v) :: s => (c, (if c = .b k then .gone else fzbCV k cs v)) :: fzb k cs s
theorem get_fzb {k : Nat} {cs : List AV} : ∀ {s : St} (c : Comp), get (fzb k cs s) c = (get s c).map (fun v => if c = .b k then .gone else fzbCV k cs v)
  | [], c => by simp [fzb, get]
  | (d, v) :: s, c => by
    simp only [fzb, get]
    split
    · rename_i e; subst e; rfl
    · exact get_fzb c
theorem Rel.fzb {E : Ent} {G : Gh} {L : Loc} {a : Act} {w : World} (h : Rel E N G L a w s) {k : Nat} {l : List Sv} {cs : List AV} (hk : get s (.b k) = some (.bx l)) (hcs : svavs l = some cs) : ∃ G', Rel E N G' L a w (fzb k cs s) := by
  obtain ⟨blk, o, hb, hbase, hh, ⟨arr, el, rfl, hsz, hc⟩, hno, _⟩ := h.box k _ hk rfl
  have hmine : owns s L (.b k) blk := ⟨⟨_, hk, rfl⟩, hb⟩
  obtain ⟨hl1, hl2⟩ := svavs_get hcs
  let G' := G.add blk arr.toList
  have hle : G.le G' := Gh.add_le (fun o v e => by rw [hno o] at e; cases e)
  have hcell : ∀ (j : Nat) c, cs[j]? = some c → c.flat = true ∧ V G (arr.getD j undef) c := fun j c e => by
    obtain ⟨y, hy, hav⟩ := hl2 j c e
    exact ⟨av_flat (hc j y hy).1 hav, (hc j y hy).2.av hav⟩
  have hkn2 : ∀ c j, c ≠ blk → G'.kn c j = G.kn c j := fun c j e => by simp [G', Gh.add, e]
  have hg := fun c => get_fzb (k := k) (cs := cs) (s := s) c
  have hsv : ∀ v x, SV G L v x → SV G' L v (fzbSv k cs x) := by
    intro v x hv
    cases x with
    | lp j n =>
      simp only [fzbSv]
      split
      · rename_i e; subst e
        obtain ⟨b2, h1, rfl⟩ := hv
        rw [hb] at h1; cases h1
        refine V.kp blk n (cs.drop n) (fun j => arr.getD (n + j) undef) (fun j c e => ?_) (fun j c e => ?_) (fun j c e => ?_)
        · rw [List.getElem?_drop] at e
          have hlt : n + j < arr.size := by have := (List.getElem?_eq_some_iff.1 e).1; omega
          rw [add_kn, Array.getElem?_toList, Array.getElem?_eq_getElem hlt, Array.getD_eq_getD_getElem?, Array.getElem?_eq_getElem hlt]; rfl
        · rw [List.getElem?_drop] at e; exact (hcell _ c e).1
        · rw [List.getElem?_drop] at e; exact ((hcell _ c e).2).mono hle
      · exact hv
    | v a => exact SV.mono hle hv
    | mv j o => exact hv
    | ow j ys => exact SV.mono hle hv
    | om j n => exact hv
    | ov j z l n => exact hv
    | ta j o => exact hv
    | mp j => exact hv
    | cd g b a => exact SV.mono hle hv
  have hlive : ∀ v, (fzbCV k cs v).live = v.live := by intro v; cases v <;> rfl
  have hown : ∀ c b, owns (X.fzb k cs s) L c b → c ≠ .b k ∧ owns s L c b := by
    intro c b hc
    cases c with
    | b j =>
      obtain ⟨⟨cv, g, hl⟩, hb'⟩ := hc
      rw [hg] at g
      obtain ⟨v, q1, q2⟩ := Option.map_eq_some_iff.1 g
      split at q2
      · subst q2; cases hl
      · rename_i e
        subst q2
        exact ⟨e, ⟨v, q1, by rw [← hlive]; exact hl⟩, hb'⟩
    | t j =>
      obtain ⟨⟨m, el, esz, ys, g⟩, v, hv, hb'⟩ := hc
      rw [hg] at g
      obtain ⟨v2, q1, q2⟩ := Option.map_eq_some_iff.1 g
      simp only [reduceCtorEq, if_false] at q2
      have hv2 : v2 = .tk m el esz ys := by cases v2 <;> simp [fzbCV] at q2 <;> first | exact q2 | (obtain ⟨rfl, rfl, rfl, rfl⟩ := q2; rfl)
      subst hv2
      exact ⟨by simp, ⟨_, _, _, _, q1⟩, v, hv, hb'⟩
    | s n => exact hc.elim
    | h => exact hc.elim
  have hneb : ∀ c b, owns (X.fzb k cs s) L c b → b ≠ blk := by
    rintro c b hc rfl
    obtain ⟨h1, h2⟩ := hown c _ hc
    exact h1 (h.disj c (.b k) _ h2 hmine)
  obtain ⟨H0, gH, hokH, hmayH⟩ := h.heap
  have hfb : ∀ c, foot G H0 w c → c ≠ blk := fun c hc e => h.hdisj _ _ hmine H0 gH (e ▸ hc)
  have hst := hokH.stay (w' := w) hle rfl (fun c hc o => (hkn2 c o (hfb c hc)).trans ((hokH.foot hc).2 o)) (fun c hc => rfl) (Nat.le_refl _)
  have hgh : ∀ H2, get (X.fzb k cs s) .h = some (.hp H2) → get s .h = some (.hp H2) := by
    intro H2 g2
    rw [hg] at g2
    obtain ⟨v, q1, q2⟩ := Option.map_eq_some_iff.1 g2
    simp only [reduceCtorEq, if_false] at q2
    have hv2 : v = .hp H2 := by cases v <;> simp [fzbCV] at q2; exact congrArg _ q2
    rw [hv2] at q1; exact q1
  refine ⟨G', h.size, h.defs, h.ge, ?_, ?_, h.obs, h.obn, h.fr, ?_, ?_, ?_, fun c d b hc hd => h.disj c d b (hown _ _ hc).2 (hown _ _ hd).2, ⟨H0, by rw [hg]; simp [gH, fzbCV], hst.1, fun b hb => hmayH b ((hst.2 b).1 hb)⟩, fun c b hc H2 g2 e2 => ?_, ?_, ?_⟩
  · intro b j v e
    by_cases eb : b = blk
    · subst eb
      rw [add_kn] at e
      rw [cell_of_row w b j arr el (0, 0) hh]
      simpa using e
    · rw [hkn2 b j eb] at e; exact h.kn b j v e
  · intro b j hlt hm
    rw [hkn2 b j (fun e => by
      subst e
      rcases hbase with e | e
      · omega
      · exact hm e)]
    exact h.old b j hlt hm
  · intro n x g
    rw [hg] at g
    obtain ⟨v, q1, q2⟩ := Option.map_eq_some_iff.1 g
    simp only [reduceCtorEq, if_false] at q2
    cases v <;> simp [fzbCV] at q2
    subst q2
    exact hsv _ _ (h.slot n _ q1)
  · intro j cv g hl
    rw [hg] at g
    obtain ⟨v, q1, q2⟩ := Option.map_eq_some_iff.1 g
    split at q2
    · subst q2; cases hl
    · rename_i e
      subst q2
      rw [hlive] at hl
      have hne : ∀ b2, L.box j = some b2 → b2 ≠ blk := by
        rintro b2 p1 rfl
        exact e (h.disj (.b j) (.b k) _ ⟨⟨v, q1, hl⟩, p1⟩ hmine)
      have e1 : fzbCV k cs v = v := by cases v <;> first | rfl | cases hl
      rw [e1]
      exact (h.box j v q1 hl).stay hle (fun _ _ e => .inl e) (fun _ _ => rfl) (fun b2 p1 o => hkn2 b2 o (hne b2 p1))
  · intro j m el' esz' ys g
    rw [hg] at g
    obtain ⟨v2, q1, q2⟩ := Option.map_eq_some_iff.1 g
    simp only [reduceCtorEq, if_false] at q2
    have hv2 : v2 = .tk m el' esz' ys := by cases v2 <;> simp [fzbCV] at q2 <;> first | exact q2 | (obtain ⟨rfl, rfl, rfl, rfl⟩ := q2; rfl)
    subst hv2
    refine (h.tok j m el' esz' ys q1).stay hle (fun _ _ e => .inl e) (fun _ _ _ _ => rfl) (fun v b2 hv hb2 o => hkn2 b2 o ?_)
    rintro rfl
    have := h.disj (.t j) (.b k) _ ⟨⟨_, _, _, _, q1⟩, v, hv, hb2⟩ hmine
    cases this
  · have := hgh H2 g2
    rw [gH] at this; cases this
    have e3 := (hst.2 b).1 e2
    exact h.hdisj c b (hown _ _ hc).2 _ gH e3
  · intro j g
    rw [hg] at g
    exact h.nobox j (by simpa using g)
  · intro j g
    rw [hg] at g
    exact h.notok j (by simpa using g)
theorem Kept.fzb {Q : St → Prop} (k : Nat) {l : List Sv} {cs : List AV} (hk : get s (.b k) = some (.bx l)) (hcs : svavs l = some cs) (h : Kept (X.fzb k cs s) Q) : Kept s Q := fun E N a w ⟨G, L, hr⟩ => by
  obtain ⟨G', hr'⟩ := hr.fzb hk hcs
  exact h E N a w ⟨G', L, hr'⟩
end
/-! ### arrays as values -/
section
variable {P : Program} {N : Nat} {s : St} {d : Nat} {ty : TypeId} {pos : String} {af : Array Edge} {g : Option (Nat × Bool)}
/-- An array type: how many elements, of which type, and how many cells one has. -/
def asz (P : Program) (t : TypeId) : Option (Nat × TypeId × Nat) :=
  match P.underlying t with
  | some (.array n e) => (P.info? e).map fun i => (n, e, i.size)
  | _ => none
theorem op_blda {t1 : TypeId} {ps : List (Nat × Operand)} {n sz : Nat} {e : TypeId} {zs : List AV} {qs : List (Nat × AV)} {r : List AV} (hN : d < N) (ht : asz P t1 = some (n, e, sz)) (hz : zeroA P t1 = some zs) (hq : opps ps s = some qs) (hf : afill (fun i => some (i * sz, sz)) zs qs = some r) :
    OpOK P N ⟨some d, .build t1 ps.toArray, ty, pos, af, g⟩ s (rds (ps.map (·.2))) [(.s d, .sv (.v (.agg r)))] :=
  OpOK.val rfl hN fun E G L a w t hr hR => by
    have hparts := opps_sound hr hR hq
    obtain ⟨i, z, hi, hzz, hrow0⟩ := zeroA_row hz
    have hrow := hrow0 G
    obtain ⟨arr', hfill, hrow'⟩ := fill_row hparts hrow hf
    unfold asz at ht
    split at ht
    · rename_i n' e' hu
      obtain ⟨ie, hie, e2⟩ := Option.map_eq_some_iff.1 ht
      cases e2
      refine ⟨.agg arr', ?_, V.agg _ _ hrow'.1 (fun j c e => (hrow'.2 j c e).1) (fun j c e => (hrow'.2 j c e).2)⟩
      have hfill' : Instr.fill (fun i => some (i * ie.size, ie.size)) z.cells (List.map (fun (x : Nat × Operand) => (x.1, a.eval x.2)) ps) = some arr' := by
        simpa using hfill
      simp only [execOp, Instr.build, Sem.run_bind, zeroValue, sizeOf, typeInfo, run_program, Result.andThen_ok, hi, hie, Sem.run_pure, hzz, run_underlying hu, List.map_toArray]
      rw [hfill']
      rfl
    · cases ht
theorem op_ixa {t1 : TypeId} {x i : Operand} {n : Nat} {e : TypeId} {cs : List AV} {k : IntKind} {j : Int} {c : AV} (hN : d < N) (ht : asz P t1 = some (n, e, 1)) (hl : lk P e = some (false, 1)) (hx : opv x s = some (.agg cs)) (hi : opv i s = some (.int k j)) (h0 : 0 ≤ j) (h1 : j < n) (hc : cs[j.toNat]? = some c) :
    OpOK P N ⟨some d, .index t1 x i, ty, pos, af, g⟩ s (rd x ++ rd i) [(.s d, .sv (.v c))] :=
  OpOK.val rfl hN fun E G L a w t hr hR => by
    have hv := opv_sound hr hR.left hx
    have hn := V_int (opv_sound hr hR.right hi)
    unfold asz at ht
    split at ht
    · rename_i n' e' hu
      obtain ⟨ie, hie, e2⟩ := Option.map_eq_some_iff.1 ht
      simp only [Prod.mk.injEq] at e2
      obtain ⟨rfl, rfl, h1s⟩ := e2
      generalize hav : a.eval x = u at hv
      cases hv with
      | agg vs _ hsz hf hvv =>
        have hlt : j.toNat < vs.size := by rw [hsz]; exact (List.getElem?_eq_some_iff.1 hc).1
        refine ⟨vs.getD j.toNat undef, ?_, hvv _ c hc⟩
        obtain ⟨ha, _⟩ := lk_run hl w
        have hp : (part e' vs (j.toNat * ie.size)).run P w = .ok (vs.getD j.toNat undef) w := by
          unfold part
          simp only [Sem.run_bind, ha, Result.andThen_ok, h1s, Nat.mul_one, Array.getElem?_eq_getElem hlt, Array.getD_eq_getD_getElem?]
          rfl
        simp [execOp, hav, hn, Instr.index, asIntOf, run_underlying hu, h0, h1, sizeOf, typeInfo, hie, hp]
    · cases ht
end
/-! ### maps of one's own, of texts to whole numbers -/
section
open Go.Maps Go.MapKept
open Go.WideElems (Fit rd rg pl rd_val elemAt)
open Go.ChangeMaps (notKey putKey setBlock heap_setBlock_same heap_setBlock_other)
/-- The block is a map that answers so; it has not more than so many entries. -/
def MapSI (P : Program) (kt et : TypeId) (n : Nat) (f : List UInt8 → Int) (o : Obj) : Prop :=
  ∃ es clock, o = .map es clock ∧ Fit P kt (plainElem (H := Unit) P et) es clock ∧ es.size ≤ n ∧ ∀ key : List UInt8, (DataW.map ((es.toList.map (rg P kt (plainElem (H := Unit) P et))).foldr DataW.insert [])).atKey (.string key) (.lit (.int .i64 0)) = .lit (.int .i64 (f key))
theorem MapSI.owns {P : Program} {kt et : TypeId} {n : Nat} {f : List UInt8 → Int} {o : Obj} {w : World} {b : Nat} (h : MapSI P kt et n f o) (hb : w.heap[b]? = some o) :
    ∃ D : DataW Unit, w.ownsMap P kt (plainElem P et) b n D ∧ ∀ key : List UInt8, D.atKey (.string key) (.lit (.int .i64 0)) = .lit (.int .i64 (f key)) := by
  obtain ⟨es, clock, rfl, F, hs, hf⟩ := h
  exact ⟨_, ⟨es, clock, hb, F, hs, rfl⟩, hf⟩
theorem strkey {P : Program} {kt : TypeId} (hk : P.underlying kt = some .string) {key : List UInt8} (hl : key.length ≤ 9223372036854775807) : keyOf P kt (.string ⟨key.toArray⟩) = some (.string key) := by
  have hm : (⟨key.toArray⟩ : ByteArray).size ≤ maxLen := by simp [ByteArray.size, maxLen]; omega
  unfold keyOf
  rw [hk]
  simp only [mapKey, hk, hm, if_true]
section
variable {P : Program} {N : Nat} {s : St} {d : Nat} {ty : TypeId} {pos : String} {af : Array Edge} {g : Option (Nat × Bool)}
/-- make(map[string]int) -/
theorem op_mkm {t1 kt et : TypeId} (hN : d < N) (hk : get s (.b d) = none) :
    OpOK P N ⟨some d, .makeMap t1 none, ty, pos, af, g⟩ s [.b d] [(.s d, .sv (.mp d)), (.b d, .raw (MapSI P kt et 0 fun _ => 0))] := by
  intro t hR E G L a w hr K Q hK
  have hk' : get t (.b d) = none := by rw [hR (.b d) (by simp)]; exact hk
  have hm : MapSI P kt et 0 (fun _ => 0) (.map #[] 0) := by
    refine ⟨#[], 0, rfl, ⟨by simp, stamped_empty 0, by simp⟩, Nat.le_refl _, fun key => rfl⟩
  have hr1 := hr.alloc d hk' (.map #[] 0) (.raw (MapSI P kt et 0 fun _ => 0)) rfl rfl hm
  unfold Oper.wp
  have he : (execOp a.eval ⟨some d, .makeMap t1 none, ty, pos, af, g⟩).run P w = .ok (.value (.map (some w.heap.size))) (w.alloc (.map #[] 0)) := by
    simp [execOp, Go.RowKit.run_makeMap, Option.map]
  rw [he]
  exact hK _ _ G _ (hr1.put d hN _ (.mp d) ⟨w.heap.size, by simp [Loc.setBox], rfl⟩)
/-- m[key] -/
theorem op_lku {t1 kt et : TypeId} {m x : Operand} {k n : Nat} {f : List UInt8 → Int} {key : List UInt8} (hN : d < N) (ht : P.underlying t1 = some (.map kt et)) (hkt : P.underlying kt = some .string) (he : P.underlying et = some (.int .i64)) (hz : ∀ w, (zeroValue et).run P w = .ok (.int .i64 0) w)
    (hx : opd m s = some (.mp k)) (hk : get s (.b k) = some (.raw (MapSI P kt et n f))) (hi : opv x s = some (.str key)) (hl : key.length ≤ 9223372036854775807) :
    OpOK P N ⟨some d, .lookup t1 m x false, ty, pos, af, g⟩ s (rd m ++ (rd x ++ [.b k])) [(.s d, .sv (.v (.int .i64 (f key))))] := by
  intro t hR E G L a w hr K Q hK
  obtain ⟨blk, hb, hv⟩ := opd_sound hr hR.left hx
  have hi' := (opv_sound hr hR.right.left hi).str_eq
  have hk' : get t (.b k) = some (.raw (MapSI P kt et n f)) := by rw [hR (.b k) (by simp)]; exact hk
  obtain ⟨blk', o, hb', hbase, hh, ho, hno⟩ := hr.box k _ hk' rfl
  rw [hb] at hb'; cases hb'
  have ho' : MapSI P kt et n f o := ho
  obtain ⟨D, hown, hD⟩ := ho'.owns hh
  obtain ⟨c, hrun, hat, _⟩ := hown.lookup_int (string_keyed hkt) ht he (hz w) (strkey hkt hl)
  rw [hD] at hat
  obtain rfl : f key = c := by injection hat with h; injection h
  unfold Oper.wp
  have hex : (execOp a.eval ⟨some d, .lookup t1 m x false, ty, pos, af, g⟩).run P w = .ok (.value (.int .i64 (f key))) w := by
    simp [execOp, hv, hi', hrun, Result.andThen]
  rw [hex]
  exact hK _ _ G L (hr.put d hN _ (.v (.int .i64 (f key))) (.int _ _))
/-- m[key] = v -/
theorem op_mpu {t1 kt et : TypeId} {m x y : Operand} {k n : Nat} {f : List UInt8 → Int} {key : List UInt8} {v : Int} (ht : P.underlying t1 = some (.map kt et)) (hkt : P.underlying kt = some .string) (he : P.underlying et = some (.int .i64))
    (hx : opd m s = some (.mp k)) (hk : get s (.b k) = some (.raw (MapSI P kt et n f))) (hi : opv x s = some (.str key)) (hy : opv y s = some (.int .i64 v)) (hl : key.length ≤ 9223372036854775807) (hn : n < 9223372036854775807) (hw : (Lit.int .i64 v).wf = true) :
    OpOK P N ⟨none, .mapUpdate t1 m x y, ty, pos, af, g⟩ s (rd m ++ (rd x ++ (rd y ++ [.b k]))) [(.b k, .raw (MapSI P kt et (n + 1) fun l => if l = key then v else f l))] := by
  intro t hR E G L a w hr K Q hK
  obtain ⟨blk, hb, hv⟩ := opd_sound hr hR.left hx
  have hi' := (opv_sound hr hR.right.left hi).str_eq
  have hy' := (opv_sound hr hR.right.right.left hy).int_eq
  have hk' : get t (.b k) = some (.raw (MapSI P kt et n f)) := by rw [hR (.b k) (by simp)]; exact hk
  obtain ⟨blk', o, hb', hbase, hh, ho, hno⟩ := hr.box k _ hk' rfl
  rw [hb] at hb'; cases hb'
  have ho' : MapSI P kt et n f o := ho
  obtain ⟨es, clock, rfl, F, hs, hD⟩ := ho'
  have hroom : es.size < maxLen := by unfold maxLen; omega
  have hkey := strkey hkt hl
  have hR1 : plainElem (H := Unit) P et (.int .i64 v) = some (.lit (.int .i64 v), []) := plainElem_int he hw
  obtain ⟨es', clock', hrun, F', hput, _⟩ := Maps.fit_store (R' := plainElem (H := Unit) P et) (string_keyed hkt) ht hh F hroom (fun _ _ _ _ hz => hz) hkey hR1
  have hsz : es'.size ≤ n + 1 := by
    have e1 : es'.size = ((es'.toList.map (rg P kt (plainElem (H := Unit) P et))).foldr DataW.insert []).length := by rw [length_sorted]; simp
    rw [e1, hput]
    unfold putKey
    rw [length_insert]
    have e2 := List.length_filter_le (notKey (.string key)) ((es.toList.map (rg P kt (plainElem (H := Unit) P et))).foldr DataW.insert [])
    rw [length_sorted] at e2
    simp at e2
    omega
  have hm : MapSI P kt et (n + 1) (fun l => if l = key then v else f l) (.map es' clock') := by
    refine ⟨es', clock', rfl, F', hsz, fun l => ?_⟩
    rw [hput, ← DataW.put_eq]
    by_cases hlk : l = key
    · subst hlk
      rw [atKey_put_same (k := .string l) ⟨_, rfl⟩ (by simp [WideAt.IsKeyLit])]
      simp
    · rw [atKey_put_other (by intro e; injection e with e; exact hlk e), hD]
      simp [hlk]
  have hlt := (Array.getElem?_eq_some_iff.1 hh).1
  have hr1 := hr.turn (w' := setBlock w blk (.map es' clock')) (cv := .raw (MapSI P kt et (n + 1) fun l => if l = key then v else f l)) hk' rfl rfl rfl hb (o := .map es' clock') hm rfl rfl rfl (by simp [setBlock]) (fun j hj => heap_setBlock_other hh _ hj) (heap_setBlock_same hh _)
  unfold Oper.wp
  have hex : (execOp a.eval ⟨none, .mapUpdate t1 m x y, ty, pos, af, g⟩).run P w = .ok .skip (setBlock w blk (.map es' clock')) := by
    simp [execOp, hv, hi', hy', hrun, Result.andThen]
  rw [hex]
  exact hK _ _ G L hr1
end
end
end Go.Proofs.YtnpgcmeclkncnaaGreatDoor.X
/- The program logic's rules: a call that makes objects and lets go of them leaves all others as they were; a closure that turns objects. No condition. -/
set_option linter.unusedVariables false
namespace Go.Proofs.YtnpgcmeclkncnaaGreatDoor.X
open Go Go.RowKit
/-- The objects that a value names are such. -/
inductive OpsIn (D : Nat → Prop) : AV → Prop where
  | bool (b : Bool) : OpsIn D (.bool b)
  | int (k : IntKind) (n : Int) : OpsIn D (.int k n)
  | str (s : List UInt8) : OpsIn D (.str s)
  | sl (xs : List AV) (h : ∀ x ∈ xs, OpsIn D x) : OpsIn D (.sl xs)
  | agg (xs : List AV) (h : ∀ x ∈ xs, OpsIn D x) : OpsIn D (.agg xs)
  | tup (xs : List AV) (h : ∀ x ∈ xs, OpsIn D x) : OpsIn D (.tup xs)
  | nilp : OpsIn D .nilp
  | nsl : OpsIn D .nsl
  | sll (n : Nat) : OpsIn D (.sll n)
  | kp (xs : List AV) (h : ∀ x ∈ xs, OpsIn D x) : OpsIn D (.kp xs)
  | op (id off : Nat) (h : D id) : OpsIn D (.op id off)
  | fn (f : FuncId) (xs : List AV) (h : ∀ x ∈ xs, OpsIn D x) : OpsIn D (.fn f xs)
  | nilf : OpsIn D .nilf
  | ifc (t : TypeId) (v : AV) (h : OpsIn D v) : OpsIn D (.ifc t v)
  | nili : OpsIn D .nili
  | junk : OpsIn D .junk
theorem mem_get {α : Type} {l : List α} {x : α} (h : x ∈ l) : ∃ i : Nat, l[i]? = some x := List.mem_iff_getElem?.1 h
theorem OpsIn.ofCells {D : Nat → Prop} {e : AV} (h : ∀ c ∈ e.cells, OpsIn D c) : OpsIn D e := by
  by_cases hf : e.flat = true
  · rw [AV.cells_flat hf] at h
    exact h e (by simp)
  · cases e with
    | agg cs => exact .agg cs h
    | tup vs => exact h _ (by simp [AV.cells])
    | _ => exact absurd rfl hf
theorem OpsIn.toCells {D : Nat → Prop} {e : AV} (h : OpsIn D e) : ∀ c ∈ e.cells, OpsIn D c := by
  intro c hc
  cases h with
  | agg cs hh => exact hh c hc
  | _ => simp [AV.cells] at hc; subst hc; constructor <;> assumption
theorem V.ops {G : Gh} {v : Value} {a : AV} (h : V G v a) : OpsIn (fun id => ∃ b, G.ob id = some b) a := by
  induction h with
  | bool b => exact .bool b
  | int k n => exact .int k n
  | str s => exact .str s
  | junk v h => exact .junk
  | nilp => exact .nilp
  | nsl => exact .nsl
  | sll a n cap => exact .sll n
  | kp b off cs vs hk hf _ ih => exact .kp cs fun x hx => by obtain ⟨j, hj⟩ := mem_get hx; exact ih j x hj
  | op id off b e => exact .op id off ⟨b, e⟩
  | slE a cap => exact .sl [] (by simp)
  | slN b off cap esz xs vs hc he hk hf _ ih =>
    refine .sl xs fun x hx => ?_
    obtain ⟨i, hi⟩ := mem_get hx
    refine OpsIn.ofCells fun c hc => ?_
    obtain ⟨j, hj⟩ := mem_get hc
    exact ih i x j c hi hj
  | agg vs cs hl hf _ ih => exact .agg cs fun x hx => by obtain ⟨j, hj⟩ := mem_get hx; exact ih j x hj
  | tup vs cs hl _ ih => exact .tup cs fun x hx => by obtain ⟨j, hj⟩ := mem_get hx; exact ih j x hj
  | fn f vs cs hl _ ih => exact .fn f cs fun x hx => by obtain ⟨j, hj⟩ := mem_get hx; exact ih j x hj
  | nilf => exact .nilf
  | ifc t v a _ ih => exact .ifc t a ih
  | nili => exact .nili
theorem OpsIn.mono {D D' : Nat → Prop} (hd : ∀ i, D i → D' i) {a : AV} (h : OpsIn D a) : OpsIn D' a := by
  induction h with
  | bool b => exact .bool b
  | int k n => exact .int k n
  | str s => exact .str s
  | sl xs _ ih => exact .sl xs ih
  | agg xs _ ih => exact .agg xs ih
  | tup xs _ ih => exact .tup xs ih
  | nilp => exact .nilp
  | nsl => exact .nsl
  | sll n => exact .sll n
  | kp xs _ ih => exact .kp xs ih
  | op id off h => exact .op id off (hd _ h)
  | fn f xs _ ih => exact .fn f xs ih
  | nilf => exact .nilf
  | ifc t v _ ih => exact .ifc t v ih
  | nili => exact .nili
  | junk => exact .junk
/-- Only the objects below n are known any more. -/
def Gh.res (G : Gh) (n : Nat) : Gh := ⟨G.kn, fun id => if id < n then G.ob id else none⟩
theorem V.res {G : Gh} {n : Nat} {v : Value} {a : AV} (h : V G v a) (ho : OpsIn (fun id => id < n) a) : V (G.res n) v a := by
  induction h with
  | bool b => exact .bool b
  | int k m => exact .int k m
  | str s => exact .str s
  | junk v h => exact .junk v h
  | nilp => exact .nilp
  | nsl => exact .nsl
  | sll a m cap => exact .sll a m cap
  | kp b off cs vs hk hf _ ih =>
    cases ho with
    | kp _ hh => exact .kp b off cs vs hk hf fun j c hj => ih j c hj (hh c (List.mem_of_getElem? hj))
  | op id off b e =>
    cases ho with
    | op _ _ hh => exact .op id off b (by simp [Gh.res, hh, e])
  | slE a cap => exact .slE a cap
  | slN b off cap esz xs vs hc he hk hf _ ih =>
    cases ho with
    | sl _ hh => exact .slN b off cap esz xs vs hc he hk hf fun i e j c hi hj => ih i e j c hi hj ((hh e (List.mem_of_getElem? hi)).toCells c (List.mem_of_getElem? hj))
  | agg vs cs hl hf _ ih =>
    cases ho with
    | agg _ hh => exact .agg vs cs hl hf fun j c hj => ih j c hj (hh c (List.mem_of_getElem? hj))
  | tup vs cs hl _ ih =>
    cases ho with
    | tup _ hh => exact .tup vs cs hl fun j c hj => ih j c hj (hh c (List.mem_of_getElem? hj))
  | fn f vs cs hl _ ih =>
    cases ho with
    | fn _ _ hh => exact .fn f vs cs hl fun j c hj => ih j c hj (hh c (List.mem_of_getElem? hj))
  | nilf => exact .nilf
  | ifc t v a _ ih =>
    cases ho with
    | ifc _ _ hh => exact .ifc t v a (ih hh)
  | nili => exact .nili
/-- A call that may make objects, and lets go of them. -/
theorem Run.of_triF {P : Program} {f : FuncId} {fn : Func} {c : Code} {N : Nat} {args : List AV} {H : Hp} {r : AV} (hf : P.funcs[f]? = some fn) (hb : fn.body = some c) (hN : fn.ntmps = N) (hle : args.length ≤ N) (hro : OpsIn (fun id => id < H.next) r)
    (h : Tri P N c ((.h, .hp H) :: initS args 0) fun e s' => (e = .normal ∨ e = .ret) ∧ ResOK P fn s' r ∧ ∃ H', get s' .h = some (.hp H') ∧ H.next ≤ H'.next ∧ ∀ i, i < H.next → H'.obj i = H.obj i) : Run P f args H r H := by
  intro G w cargs hg hk hH hV
  refine calls_of_wp hf hb ?_
  have h0 := fits0 hN hle hg hk hH hV
  refine wp_mono (h ⟨G, w, foot G H w⟩ _ w h0) ?_
  rintro e a' w' ⟨s', ⟨G', L', hr⟩, he, hres, H', hh, hnx, hobj⟩
  obtain ⟨v, hv, hV'⟩ := hres _ _ _ _ _ _ hr
  obtain ⟨H2, g, hok, hmay⟩ := hr.heap
  rw [hh] at g; cases g
  have hlt : ∀ id b, G.ob id = some b → id < H.next := fun id b e => (hH.lt id b e).1
  have hres1 : ∀ id, id < H.next → (G'.res H.next).ob id = G'.ob id := fun id h => by simp [Gh.res, h]
  have hres2 : ∀ id b, (G'.res H.next).ob id = some b → id < H.next ∧ G'.ob id = some b := fun id b h => by
    simp only [Gh.res] at h
    split at h
    · exact ⟨by assumption, h⟩
    · cases h
  have hop : ∀ {u : Value} {a : AV}, V G u a → OpsIn (fun id => id < H.next) a := fun hu => hu.ops.mono fun id ⟨b, e⟩ => hlt id b e
  have hidl : ∀ id cs, H.obj id = some cs → id < H.next := fun id cs e => by
    obtain ⟨blk, _, _, q1, _⟩ := hH.obj id cs e
    exact hlt id blk q1
  have hrow : ∀ id j b, hrow (G'.res H.next) H w' id j b → hrow G' H' w' id j b := by
    rintro id j b ⟨cs, el, esz, xs, b0, arr, t, fr, h1, h2, h3, h4, h5⟩
    exact ⟨cs, el, esz, xs, b0, arr, t, fr, by rw [hobj id (hidl id cs h1)]; exact h1, h2, (hres2 _ _ h3).2, h4, h5⟩
  have hfoot : ∀ b, foot (G'.res H.next) H w' b → foot G' H' w' b := by
    rintro b (⟨id, ⟨cs, h1⟩, h2⟩ | ⟨id, j, h1⟩)
    · exact .inl ⟨id, ⟨cs, by rw [hobj id (hidl id cs h1)]; exact h1⟩, (hres2 _ _ h2).2⟩
    · exact .inr ⟨id, j, hrow _ _ _ h1⟩
  have hHp : HpOK (G'.res H.next) w' H := by
    refine ⟨fun id b e => ⟨(hres2 id b e).1, (hok.lt id b (hres2 id b e).2).2⟩, fun id id' b e e' => hok.inj id id' b (hres2 _ _ e).2 (hres2 _ _ e').2, fun id cs e => ?_, fun id j blk hh' => ?_⟩
    · obtain ⟨blk, arr, el, q1, q2, q3, q4, q5⟩ := hok.obj id cs (by rw [hobj id (hidl id cs e)]; exact e)
      obtain ⟨blk0, arr0, el0, p1, p2, p3, p4, p5⟩ := hH.obj id cs e
      refine ⟨blk, arr, el, by rw [hres1 id (hidl id cs e)]; exact q1, q2, q3, fun j x hx => ?_, q5⟩
      have hq := q4 j x hx
      have hp := p4 j x hx
      cases x with
      | v a => exact ⟨hq.1, hq.2.res (hop hp.2)⟩
      | row el2 esz xs =>
        have hq' : RowOK G' w' true el2 esz (arr.getD j undef) xs := hq
        have hp' : RowOK G w true el2 esz (arr0.getD j undef) xs := hp
        obtain ⟨cells, k1, k2, k3, k4, k5⟩ := hq'
        obtain ⟨cells0, _, _, _, l4, _⟩ := hp'
        exact ⟨cells, (fun e => by cases e), k2, k3, ⟨k4.1, fun i e j c a b => ⟨(k4.2 i e j c a b).1, (k4.2 i e j c a b).2.res (hop (l4.2 i e j c a b).2)⟩⟩, k5⟩
    · obtain ⟨q1, q2⟩ := hok.apart id j blk (hrow _ _ _ hh')
      exact ⟨fun id' e => q1 id' (hres2 _ _ e).2, fun id' j' h2 => q2 id' j' (hrow _ _ _ h2)⟩
  have hpost : ∃ v2 G'', Ending.returned v = .returned v2 ∧ V G'' v2 r ∧ GExt (foot G H w) G G'' w ∧ KnOK G'' w' ∧ HpOK G'' w' H ∧ Fr (foot G H w) w w' ∧ ∀ b, foot G'' H w' b → w.heap.size ≤ b ∨ foot G H w b :=
    ⟨v, G'.res H.next, rfl, hV'.res hro, ⟨hr.old, fun id b e => by rw [hres1 id (hlt id b e)]; exact hr.obs id b e, fun id b e => hr.obn id b (hres2 id b e).2⟩, hr.kn, hHp, hr.fr, fun b hb => hmay b (hfoot b hb)⟩
  rcases he with rfl | rfl
  · exact ⟨hr.defs, v, hv, hpost⟩
  · exact ⟨hr.defs, v, hv, hpost⟩
section
variable {P : Program} {N : Nat} {s : St} {d : Nat} {ty : TypeId} {pos : String} {af : Array Edge} {g : Option (Nat × Bool)}
/-- a closure is called, which may turn the objects -/
theorem op_callch {x : Operand} {f : FuncId} {xs : Array Operand} {tys : Array TypeId} {«as» caps : List AV} {r : AV} {H H' : Hp} (hN : d < N) (hf : isFn P f = true) (hx : opv x s = some (.fn f caps)) (hH : get s .h = some (.hp H)) (ha : opvs xs.toList s = some «as») (hp : Run P f («as» ++ caps) H r H') :
    OpOK P N ⟨some d, .call { callee := .value x, args := xs, argTypes := tys }, ty, pos, af, g⟩ s ((rd x ++ rds xs.toList) ++ [.h]) [(.s d, .sv (.v r)), (.h, .hp H')] :=
  call_run hp rfl hN hH (enter_clo hf hx ha)
end
end Go.Proofs.YtnpgcmeclkncnaaGreatDoor.X
/- The data that the program speaks of: schemas, trees, steps; what stands for them. No condition. -/
set_option linter.unusedVariables false
namespace Go.Proofs.YtnpgcmeclkncnaaGreatDoor.X
open Go Go.RowKit
abbrev Str := List UInt8
def iAV (n : Int) : AV := .int .i64 n
structure Fld where
  name : Str
  num : Int
  ty : Int
  ref : Str
  rep : Bool
  loose : Bool
  one : Str
  deriving DecidableEq, Inhabited
def Fld.cells (f : Fld) : List AV := [.str f.name, .int .i64 f.num, .int .i64 f.ty, .str f.ref, .bool f.rep, .bool f.loose, .str f.one]
def Fld.av (f : Fld) : AV := .agg f.cells
structure Msg where
  name : Str
  fields : List Fld
  barred : List Int
  deriving DecidableEq, Inhabited
def Msg.cells (m : Msg) : List AV := [.str m.name, .sl (m.fields.map Fld.av), .sl (m.barred.map iAV)]
def Msg.av (m : Msg) : AV := .agg m.cells
structure Vlu where
  name : Str
  num : Int
  deriving DecidableEq, Inhabited
def Vlu.cells (v : Vlu) : List AV := [.str v.name, .int .i64 v.num]
def Vlu.av (v : Vlu) : AV := .agg v.cells
structure Enm where
  name : Str
  values : List Vlu
  deriving DecidableEq, Inhabited
def Enm.cells (e : Enm) : List AV := [.str e.name, .sl (e.values.map Vlu.av)]
def Enm.av (e : Enm) : AV := .agg e.cells
structure Sch where
  enums : List Enm
  msgs : List Msg
  deriving DecidableEq, Inhabited
def Sch.cells (s : Sch) : List AV := [.sl (s.enums.map Enm.av), .sl (s.msgs.map Msg.av)]
def Sch.av (s : Sch) : AV := .agg s.cells
structure Rw where
  num : Int
  wire : Int
  n : Nat
  s : Str
  deriving DecidableEq, Inhabited
def Rw.cells (r : Rw) : List AV := [.int .i64 r.num, .int .i64 r.wire, .int .u64 (r.n : Int), .str r.s]
def Rw.av (r : Rw) : AV := .agg r.cells
mutual
inductive Val where
  | mk (n : Nat) (s : Str) (m : List Tree)
inductive Slot where
  | mk (num : Int) (vals : List Val)
inductive Tree where
  | mk (slots : List Slot) (rest : List Rw)
end
instance : Inhabited Tree := ⟨.mk [] []⟩
instance : Inhabited Val := ⟨.mk 0 [] []⟩
instance : Inhabited Slot := ⟨.mk 0 []⟩
def Val.n : Val → Nat | .mk n _ _ => n
def Val.s : Val → Str | .mk _ s _ => s
def Val.m : Val → List Tree | .mk _ _ m => m
def Slot.num : Slot → Int | .mk n _ => n
def Slot.vals : Slot → List Val | .mk _ v => v
def Tree.slots : Tree → List Slot | .mk s _ => s
def Tree.rest : Tree → List Rw | .mk _ r => r
mutual
def Val.av : Val → AV
  | .mk n s m => .agg [.int .u64 (n : Int), .str s, .sl (treesAV m)]
def Slot.av : Slot → AV
  | .mk n vs => .agg [.int .i64 n, .sl (valsAV vs)]
def Tree.av : Tree → AV
  | .mk ss r => .agg [.sl (slotsAV ss), .sl (r.map Rw.av)]
def treesAV : List Tree → List AV
  | [] => []
  | t :: l => t.av :: treesAV l
def valsAV : List Val → List AV
  | [] => []
  | v :: l => v.av :: valsAV l
def slotsAV : List Slot → List AV
  | [] => []
  | s :: l => s.av :: slotsAV l
end
theorem treesAV_map (l : List Tree) : treesAV l = l.map Tree.av := by induction l with | nil => simp [treesAV] | cons t l ih => simp [treesAV, ih]
theorem valsAV_map (l : List Val) : valsAV l = l.map Val.av := by induction l with | nil => simp [valsAV] | cons t l ih => simp [valsAV, ih]
theorem slotsAV_map (l : List Slot) : slotsAV l = l.map Slot.av := by induction l with | nil => simp [slotsAV] | cons t l ih => simp [slotsAV, ih]
def Val.cells (v : Val) : List AV := [.int .u64 (v.n : Int), .str v.s, .sl (v.m.map Tree.av)]
def Slot.cells (x : Slot) : List AV := [.int .i64 x.num, .sl (x.vals.map Val.av)]
def Tree.cells (t : Tree) : List AV := [.sl (t.slots.map Slot.av), .sl (t.rest.map Rw.av)]
theorem Val.av_eq (v : Val) : v.av = .agg v.cells := by cases v; simp [Val.av, Val.cells, Val.n, Val.s, Val.m, treesAV_map]
theorem Slot.av_eq (v : Slot) : v.av = .agg v.cells := by cases v; simp [Slot.av, Slot.cells, Slot.num, Slot.vals, valsAV_map]
theorem Tree.av_eq (v : Tree) : v.av = .agg v.cells := by cases v; simp [Tree.av, Tree.cells, Tree.slots, Tree.rest, slotsAV_map]
structure Stp where
  kind : Int
  msg : Str
  field : Str
  to : Str
  also : Str
  num : Int
  other : Int
  ty : Int
  names : List Str
  «def» : Val
  deriving Inhabited
def Stp.cells (x : Stp) : List AV := [.int .i64 x.kind, .str x.msg, .str x.field, .str x.to, .str x.also, .int .i64 x.num, .int .i64 x.other, .int .i64 x.ty, .sl (x.names.map .str), .int .u64 (x.def.n : Int), .str x.def.s, .sl (x.def.m.map Tree.av)]
def Stp.av (x : Stp) : AV := .agg x.cells
theorem ixmE {α : Type} {f : α → AV} {c : α → List AV} {xs : List α} {i : Nat} (he : ∀ x, f x = .agg (c x)) (h : i < xs.length) : (xs.map f)[((i : Nat) : Int).toNat]? = some (.agg (c xs[i])) := by
  simp [h, he]
theorem ixmE1 {α : Type} {f : α → AV} {c : α → List AV} {xs : List α} {i : Nat} {j : Int} (he : ∀ x, f x = .agg (c x)) (hj : j = (i : Int)) (h : i < xs.length) : (xs.map f)[j.toNat]? = some (.agg (c xs[i])) := by
  subst hj; simp [h, he]
end Go.Proofs.YtnpgcmeclkncnaaGreatDoor.X
/- Plain laws: names, numbers of fields, types, fields, schemas, as the document defines them. No condition. -/
set_option linter.unusedVariables false
namespace Go.Proofs.YtnpgcmeclkncnaaGreatDoor.X
open Go Go.RowKit Go.Proofs
theorem mixed : Tryz.prog.follows .mixedOrders = true := by kernel_rfl
/-- the place of the first one; -1: there is none -/
def ixFrom {α : Type} (p : α → Bool) : List α → Nat → Int
  | [], _ => -1
  | a :: l, i => if p a then i else ixFrom p l (i + 1)
theorem ixFrom_step {α : Type} {p : α → Bool} {l : List α} {i : Nat} (h : i < l.length) : ixFrom p (l.drop i) i = if p l[i] then (i : Int) else ixFrom p (l.drop (i + 1)) (i + 1) := by
  rw [List.drop_eq_getElem_cons h]; rfl
theorem ixFrom_end {α : Type} {p : α → Bool} {l : List α} {i : Nat} (h : l.length ≤ i) : ixFrom p (l.drop i) i = -1 := by
  rw [List.drop_of_length_le h]; rfl
theorem all_step {α : Type} {p : α → Bool} {l : List α} {i : Nat} (h : i < l.length) : (l.drop i).all p = (p l[i] && (l.drop (i + 1)).all p) := by
  rw [List.drop_eq_getElem_cons h]; rfl
theorem all_end {α : Type} {p : α → Bool} {l : List α} {i : Nat} (h : l.length ≤ i) : (l.drop i).all p = true := by
  rw [List.drop_of_length_le h]; rfl
theorem any_step {α : Type} {p : α → Bool} {l : List α} {i : Nat} (h : i < l.length) : (l.drop i).any p = (p l[i] || (l.drop (i + 1)).any p) := by
  rw [List.drop_eq_getElem_cons h]; rfl
theorem any_end {α : Type} {p : α → Bool} {l : List α} {i : Nat} (h : l.length ≤ i) : (l.drop i).any p = false := by
  rw [List.drop_of_length_le h]; rfl
theorem take_app {α : Type} {l : List α} {i : Nat} {f : α → AV} {acc : List AV} (h : i < l.length) (ha : acc = (l.take i).map f) : acc ++ [f l[i]] = (l.take (i + 1)).map f := by
  rw [ha, List.take_succ_eq_append_getElem h, List.map_append]; rfl
theorem take_app2 {α : Type} {l : List α} {i : Nat} {f : α → AV} {acc l0 : List AV} (h : i < l.length) (ha : acc = l0 ++ (l.take i).map f) : acc ++ [f l[i]] = l0 ++ (l.take (i + 1)).map f := by
  rw [ha, List.take_succ_eq_append_getElem h, List.map_append, List.append_assoc]; rfl
theorem take_end {α : Type} {l : List α} {i : Nat} (h : l.length ≤ i) : l.take i = l := List.take_of_length_le h
theorem Pure.at {P : Program} {f : FuncId} {a a' : List AV} {r : AV} (h : Pure P f a r) (e : a' = a) : Pure P f a' r := e ▸ h
theorem okEls_str {α : Type} (f : α → Str) (l : List α) : okEls 1 (l.map fun x => AV.str (f x)) = true := by
  simp [okEls, AV.cells, AV.flat]
theorem okEls_int {α : Type} (k : IntKind) (f : α → Int) (l : List α) : okEls 1 (l.map fun x => AV.int k (f x)) = true := by
  simp [okEls, AV.cells, AV.flat]
theorem okEls_agg {α : Type} {n : Nat} (f : α → List AV) (hn : ∀ x, (f x).length = n) (l : List α) : okEls n (l.map fun x => AV.agg (f x)) = true := by
  simp [okEls, AV.cells, hn]
theorem ixeq {α : Type} {f : α → AV} {xs : List α} {c : List AV} {i : Nat} (h : c = xs.map f) (hi : i < xs.length) : c[((i : Nat) : Int).toNat]? = some (f xs[i]) := by
  subst h; exact ixm hi
theorem ixeq1 {α : Type} {f : α → AV} {xs : List α} {c : List AV} {i : Nat} {j : Int} (hj : j = (i : Int)) (h : c = xs.map f) (hi : i < xs.length) : c[j.toNat]? = some (f xs[i]) := by
  subst h; subst hj; exact ixm hi
theorem headD_map {α β : Type} {f : α → β} {l : List α} {d : β} (h : 0 < l.length) : (l.map f).headD d = f l[0] := by
  cases l with
  | nil => simp at h
  | cons a l => rfl
theorem lastD_map {α β : Type} {f : α → β} {l : List α} {d : β} (h : 0 < l.length) : (l.map f).getLastD d = f (l[l.length - 1]'(by omega)) := by
  rw [List.getLastD_eq_getLast?, List.getLast?_map, List.getLast?_eq_getElem?, List.getElem?_eq_getElem (by omega)]; rfl
theorem headD_get {α : Type} {l : List α} {d : α} (h : 0 < l.length) : l.headD d = l[0] := by
  cases l with
  | nil => simp at h
  | cons a l => rfl
theorem lastD_get {α : Type} {l : List α} {d : α} (h : 0 < l.length) : l.getLastD d = l[l.length - 1]'(by omega) := by
  rw [List.getLastD_eq_getLast?, List.getLast?_eq_getElem?, List.getElem?_eq_getElem (by omega)]; rfl
theorem take_drop0 {α : Type} (l : List α) : (l.take (0 + 1)).drop 1 = [] := by cases l <;> simp
theorem take_drop1 {α : Type} {l : List α} {i : Nat} (h0 : 0 < i) (h : i < l.length) : (l.take (i + 1)).drop 1 = (l.take i).drop 1 ++ [l[i]] := by
  rw [List.take_succ_eq_append_getElem h, List.drop_append_of_le_length (by rw [List.length_take]; omega)]
/-! ### names -/
def letter (c : UInt8) : Bool := (decide (97 ≤ c.toNat) && decide (c.toNat ≤ 122)) || (decide (65 ≤ c.toNat) && decide (c.toNat ≤ 90))
def idc (c : UInt8) : Bool := letter c || (decide (48 ≤ c.toNat) && decide (c.toNat ≤ 57)) || decide (c.toNat = 95)
def wordsL : List Str := [[101, 110, 117, 109], [109, 101, 115, 115, 97, 103, 101], [111, 110, 101, 111, 102], [114, 101, 112, 101, 97, 116, 101, 100], [114, 101, 115, 101, 114, 118, 101, 100], [108, 111, 111, 115, 101], [105, 110, 116, 51, 50], [105, 110, 116, 54, 52], [117, 105, 110, 116, 51, 50], [117, 105, 110, 116, 54, 52], [115, 105, 110, 116, 51, 50], [115, 105, 110, 116, 54, 52], [98, 111, 111, 108], [102, 105, 120, 101, 100, 51, 50], [102, 105, 120, 101, 100, 54, 52], [115, 102, 105, 120, 101, 100, 51, 50], [115, 102, 105, 120, 101, 100, 54, 52], [115, 116, 114, 105, 110, 103], [98, 121, 116, 101, 115], [114, 101, 110, 97, 109, 101], [114, 101, 110, 117, 109, 98, 101, 114], [114, 101, 116, 121, 112, 101], [115, 112, 108, 105, 116], [106, 111, 105, 110], [119, 114, 97, 112], [117, 110, 119, 114, 97, 112], [97, 100, 100], [100, 114, 111, 112], [116, 111], [105, 110, 116, 111], [97, 115], [111, 102], [100, 101, 102, 97, 117, 108, 116], [116, 114, 117, 101], [102, 97, 108, 115, 101]]
def nameOK (s : Str) : Bool := decide (1 ≤ s.length) && decide (s.length ≤ 12) && letter (s.headD 0) && s.all idc && wordsL.all (fun w => !(w == s))
/-- none stands ahead again, from the i-th on -/
def onceFrom (l : List Str) : List Str → Nat → Bool
  | [], _ => true
  | a :: r, i => !((l.take i).any fun b => a == b) && onceFrom l r (i + 1)
def once (l : List Str) : Bool := onceFrom l l 0
def riseS : List Str → Bool
  | a :: b :: l => !(!lessB a b) && riseS (b :: l)
  | _ => true
def rises : List Int → Bool
  | a :: b :: l => decide (a < b) && rises (b :: l)
  | _ => true
theorem onceFrom_step {l : List Str} {i : Nat} (h : i < l.length) : onceFrom l (l.drop i) i = (!((l.take i).any fun b => l[i] == b) && onceFrom l (l.drop (i + 1)) (i + 1)) := by
  rw [List.drop_eq_getElem_cons h]; rfl
theorem onceFrom_end {l : List Str} {i : Nat} (h : l.length ≤ i) : onceFrom l (l.drop i) i = true := by
  rw [List.drop_of_length_le h]; rfl
theorem rises_step {l : List Int} {i : Nat} (h0 : 0 < i) (h : i < l.length) : rises (l.drop (i - 1)) = (decide (l[i - 1] < l[i]) && rises (l.drop (i + 1 - 1))) := by
  obtain ⟨k, rfl⟩ : ∃ k, i = k + 1 := ⟨i - 1, by omega⟩
  simp only [Nat.add_sub_cancel]
  rw [List.drop_eq_getElem_cons (show k < l.length by omega), List.drop_eq_getElem_cons h]
  rfl
theorem rises_end {l : List Int} {i : Nat} (h0 : 0 < i) (h : l.length ≤ i) : rises (l.drop (i - 1)) = true := by
  obtain ⟨k, rfl⟩ : ∃ k, i = k + 1 := ⟨i - 1, by omega⟩
  simp only [Nat.add_sub_cancel]
  by_cases hk : k < l.length
  · rw [List.drop_eq_getElem_cons hk, List.drop_of_length_le h]; rfl
  · rw [List.drop_of_length_le (by omega)]; rfl
theorem riseS_step {l : List Str} {i : Nat} (h0 : 0 < i) (h : i < l.length) : riseS (l.drop (i - 1)) = (!(!lessB l[i - 1] l[i]) && riseS (l.drop (i + 1 - 1))) := by
  obtain ⟨k, rfl⟩ : ∃ k, i = k + 1 := ⟨i - 1, by omega⟩
  simp only [Nat.add_sub_cancel]
  rw [List.drop_eq_getElem_cons (show k < l.length by omega), List.drop_eq_getElem_cons h]
  rfl
theorem riseS_end {l : List Str} {i : Nat} (h0 : 0 < i) (h : l.length ≤ i) : riseS (l.drop (i - 1)) = true := by
  obtain ⟨k, rfl⟩ : ∃ k, i = k + 1 := ⟨i - 1, by omega⟩
  simp only [Nat.add_sub_cancel]
  by_cases hk : k < l.length
  · rw [List.drop_eq_getElem_cons hk, List.drop_of_length_le h]; rfl
  · rw [List.drop_of_length_le (by omega)]; rfl
/-! ### numbers and types -/
def fnum (n : Int) : Bool := decide (1 ≤ n) && decide (n ≤ 536870911) && (decide (n < 19000) || decide (19999 < n))
def tagOK (n w : Int) : Bool := decide (1 ≤ n) && decide (n ≤ 536870911) && (decide (w = 0) || decide (w = 1) || decide (w = 2) || decide (w = 5))
def wholeT (t : Int) : Bool := (decide (1 ≤ t) && decide (t ≤ 6)) || (decide (8 ≤ t) && decide (t ≤ 11))
def numT (t : Int) : Bool := wholeT t || decide (t = 7) || decide (t = 14)
def signT (t : Int) : Bool := decide (t = 1) || decide (t = 2) || decide (t = 5) || decide (t = 6) || decide (t = 10) || decide (t = 11) || decide (t = 14)
def wideT (t : Int) : Bool := decide (t = 2) || decide (t = 4) || decide (t = 6) || decide (t = 9) || decide (t = 11)
def wireT (t : Int) : Int := if t = 8 ∨ t = 10 then 5 else if t = 9 ∨ t = 11 then 1 else if t = 12 ∨ t = 13 ∨ t = 15 then 2 else 0
/-! ### fields and schemas -/
/-- 0: right; 1: ErrArg; 2: ErrText -/
def Fld.chk (f : Fld) : Int :=
  if !nameOK f.name || (!(f.one == []) && !nameOK f.one) then 2
  else if (f.ty = 14 ∨ f.ty = 15) ∧ nameOK f.ref = false then 2
  else if ¬ (f.ty = 14 ∨ f.ty = 15) ∧ (f.ref == []) = false then 2
  else if !fnum f.num || decide (f.ty < 1) || decide (15 < f.ty) || (f.rep && !(f.one == [])) then 1
  else if f.loose && (!f.rep || !numT f.ty) then 1
  else 0
def Sch.many (s : Sch) : Bool := decide (3 < s.enums.length) || decide (6 < s.msgs.length) || s.enums.any (fun e => decide (8 < e.values.length)) || s.msgs.any (fun m => decide (10 < m.fields.length) || decide (8 < m.barred.length))
def Sch.none (s : Sch) : Bool := decide (s.msgs.length = 0) || s.enums.any (fun e => decide (e.values.length = 0))
def Sch.text (s : Sch) : Bool := s.enums.any (fun e => !nameOK e.name || e.values.any (fun v => !nameOK v.name)) || s.msgs.any (fun m => !nameOK m.name)
def chkFields : List Fld → Int
  | [] => 0
  | f :: l => if f.chk = 0 then chkFields l else f.chk
def chkMsgs : List Msg → Int
  | [] => 0
  | m :: l => if chkFields m.fields = 0 then chkMsgs l else chkFields m.fields
theorem chkFields_step {l : List Fld} {i : Nat} (h : i < l.length) : chkFields (l.drop i) = if l[i].chk = 0 then chkFields (l.drop (i + 1)) else l[i].chk := by
  rw [List.drop_eq_getElem_cons h]; rfl
theorem chkFields_end {l : List Fld} {i : Nat} (h : l.length ≤ i) : chkFields (l.drop i) = 0 := by
  rw [List.drop_of_length_le h]; rfl
theorem chkMsgs_step {l : List Msg} {i : Nat} (h : i < l.length) : chkMsgs (l.drop i) = if chkFields l[i].fields = 0 then chkMsgs (l.drop (i + 1)) else chkFields l[i].fields := by
  rw [List.drop_eq_getElem_cons h]; rfl
theorem chkMsgs_end {l : List Msg} {i : Nat} (h : l.length ≤ i) : chkMsgs (l.drop i) = 0 := by
  rw [List.drop_of_length_le h]; rfl
def Msg.twice (m : Msg) : Bool := !once (m.fields.map (·.name)) || m.fields.any (fun f => !(f.one == []) && !once (m.fields.map (·.name) ++ [f.one]))
def Sch.twice (s : Sch) : Bool := s.enums.any (fun e => !once (e.values.map (·.name))) || s.msgs.any Msg.twice || !once (s.enums.map (·.name) ++ s.msgs.map (·.name))
def Enm.order (e : Enm) : Bool := !rises (e.values.map (·.num)) || !decide ((e.values.map (·.num)).headD 0 = 0) || decide (1048576 < (e.values.map (·.num)).getLastD 0)
def Msg.order (m : Msg) : Bool := !rises (m.fields.map (·.num)) || !rises m.barred || (!(m.barred == []) && (decide (m.barred.headD 0 < 1) || decide (536870911 < m.barred.getLastD 0)))
def Sch.order (s : Sch) : Bool := s.enums.any Enm.order || !riseS (s.enums.map (·.name)) || s.msgs.any Msg.order || !riseS ((s.msgs.drop 1).map (·.name))
def Sch.barred (s : Sch) : Bool := s.msgs.any fun m => m.fields.any fun f => m.barred.any (· == f.num)
def Sch.msgIx (s : Sch) (name : Str) : Int := ixFrom (fun m : Msg => m.name == name) s.msgs 0
def Sch.enumIx (s : Sch) (name : Str) : Int := ixFrom (fun m : Enm => m.name == name) s.enums 0
def Sch.refs (s : Sch) : Bool := s.msgs.any fun m => m.fields.any fun f => (decide (f.ty = 14) && decide (s.enumIx f.ref < 0)) || (decide (f.ty = 15) && decide (s.msgIx f.ref < 0))
def Sch.chk (s : Sch) : Int :=
  if s.many then 4 else if s.none then 5 else if s.text then 2 else if chkMsgs s.msgs ≠ 0 then chkMsgs s.msgs else if s.twice then 6 else if s.order then 1 else if s.barred then 6 else if s.refs then 5 else 0
/-- a schema's lists are no longer than lists are -/
structure Sch.big (s : Sch) : Prop where
  e : s.enums.length ≤ 9223372036854775807
  m : s.msgs.length ≤ 9223372036854775807
/-- .. than may be -/
structure Sch.sm (s : Sch) : Prop where
  e : s.enums.length ≤ 3
  m : s.msgs.length ≤ 6
  v : ∀ x ∈ s.enums, x.values.length ≤ 8
  f : ∀ x ∈ s.msgs, x.fields.length ≤ 10
  b : ∀ x ∈ s.msgs, x.barred.length ≤ 8
theorem Sch.sm.vi {s : Sch} (h : s.sm) {i : Nat} (hi : i < s.enums.length) : s.enums[i].values.length ≤ 8 := h.v _ (List.getElem_mem hi)
theorem Sch.sm.fi {s : Sch} (h : s.sm) {i : Nat} (hi : i < s.msgs.length) : s.msgs[i].fields.length ≤ 10 := h.f _ (List.getElem_mem hi)
theorem Sch.sm.bi {s : Sch} (h : s.sm) {i : Nat} (hi : i < s.msgs.length) : s.msgs[i].barred.length ≤ 8 := h.b _ (List.getElem_mem hi)
theorem Sch.sm_of {s : Sch} (h : s.many = false) : s.sm := by
  simp only [Sch.many, Bool.or_eq_false_iff, List.any_eq_false, decide_eq_false_iff_not, Bool.or_eq_true, decide_eq_true_eq, not_or] at h
  obtain ⟨⟨⟨h1, h2⟩, h3⟩, h4⟩ := h
  exact ⟨by omega, by omega, fun x hx => by have := h3 x hx; omega, fun x hx => by have := h4 x hx; omega, fun x hx => by have := h4 x hx; omega⟩
theorem Sch.none_of {s : Sch} (h : s.none = false) : 0 < s.msgs.length ∧ ∀ x ∈ s.enums, 0 < x.values.length := by
  simp only [Sch.none, Bool.or_eq_false_iff, List.any_eq_false, decide_eq_false_iff_not, decide_eq_true_eq] at h
  exact ⟨by omega, fun x hx => by have := h.2 x hx; omega⟩
theorem Enm.order_pos {e : Enm} (h : 0 < e.values.length) : e.order = (!rises (e.values.map (·.num)) || !decide (e.values[0].num = 0) || decide (1048576 < (e.values[e.values.length - 1]'(by omega)).num)) := by
  unfold Enm.order; rw [headD_map h, lastD_map h]
theorem Msg.order_pos {m : Msg} (h : 0 < m.barred.length) : m.order = (!rises (m.fields.map (·.num)) || !rises m.barred || (decide (m.barred[0] < 1) || decide (536870911 < m.barred[m.barred.length - 1]'(by omega)))) := by
  unfold Msg.order; rw [headD_get h, lastD_get h]
  have : (m.barred == []) = false := by cases hb : m.barred with | nil => rw [hb] at h; simp at h | cons a l => rfl
  rw [this]; simp
theorem Msg.order_nil {m : Msg} (h : m.barred.length ≤ 0) : m.order = (!rises (m.fields.map (·.num)) || !rises m.barred) := by
  unfold Msg.order
  have : m.barred = [] := List.length_eq_zero_iff.1 (by omega)
  rw [this]; simp
end Go.Proofs.YtnpgcmeclkncnaaGreatDoor.X
/- Plain laws: values of messages: parts, sameness, how great and how deep. No condition. -/
set_option linter.unusedVariables false
namespace Go.Proofs.YtnpgcmeclkncnaaGreatDoor.X
open Go Go.RowKit
/-- within, at whatever depth -/
inductive Tree.Sub : Tree → Tree → Prop where
  | refl (t : Tree) : Sub t t
  | step {t t1 t2 : Tree} {v : Val} {x : Slot} (h1 : t1 ∈ v.m) (h2 : v ∈ x.vals) (h3 : x ∈ t2.slots) (h : Sub t t1) : Sub t t2
def Tree.Every (Q : Tree → Prop) (t : Tree) : Prop := ∀ u, Tree.Sub u t → Q u
theorem Tree.Every.here {Q : Tree → Prop} {t : Tree} (h : t.Every Q) : Q t := h t (.refl t)
theorem Tree.Every.sub {Q : Tree → Prop} {t t1 : Tree} {v : Val} {x : Slot} (h : t.Every Q) (h1 : t1 ∈ v.m) (h2 : v ∈ x.vals) (h3 : x ∈ t.slots) : t1.Every Q := fun u hu => h u (.step h1 h2 h3 hu)
theorem Tree.Every.mk {Q : Tree → Prop} {t : Tree} (h : Q t) (hs : ∀ x ∈ t.slots, ∀ v ∈ x.vals, ∀ u ∈ v.m, u.Every Q) : t.Every Q := by
  intro u hu
  cases hu with
  | refl => exact h
  | step h1 h2 h3 hh => exact hs _ h3 _ h2 _ h1 u hh
theorem Tree.sub_lt {t t1 : Tree} {v : Val} {x : Slot} (h1 : t1 ∈ v.m) (h2 : v ∈ x.vals) (h3 : x ∈ t.slots) : SizeOf.sizeOf t1 < SizeOf.sizeOf t := by
  cases t with
  | mk ss r =>
    cases x with
    | mk n vs =>
      cases v with
      | mk k s m =>
        have a1 : SizeOf.sizeOf t1 < SizeOf.sizeOf m := List.sizeOf_lt_of_mem h1
        have a2 : SizeOf.sizeOf (Val.mk k s m) < SizeOf.sizeOf vs := List.sizeOf_lt_of_mem h2
        have a3 : SizeOf.sizeOf (Slot.mk n vs) < SizeOf.sizeOf ss := List.sizeOf_lt_of_mem h3
        simp only [Val.mk.sizeOf_spec, Slot.mk.sizeOf_spec, Tree.mk.sizeOf_spec] at *
        omega
/-- By what is within. -/
theorem Tree.ind {Q : Tree → Prop} (h : ∀ t, (∀ x ∈ t.slots, ∀ v ∈ x.vals, ∀ u ∈ v.m, Q u) → Q t) : ∀ t, Q t := by
  have key : ∀ (n : Nat) t, SizeOf.sizeOf t < n → Q t := by
    intro n
    induction n with
    | zero => intro t ht; omega
    | succ n ih => intro t ht; exact h t fun x hx v hv u hu => ih u (by have := Tree.sub_lt hu hv hx; omega)
  exact fun t => key _ t (Nat.lt_succ_self _)
/-- its lists are no longer than lists are -/
structure Tree.big1 (t : Tree) : Prop where
  s : t.slots.length ≤ 9223372036854775807
  r : t.rest.length ≤ 9223372036854775807
  v : ∀ x ∈ t.slots, x.vals.length ≤ 9223372036854775807
  m : ∀ x ∈ t.slots, ∀ v ∈ x.vals, v.m.length ≤ 9223372036854775807
  vs : ∀ x ∈ t.slots, ∀ v ∈ x.vals, v.s.length ≤ 9223372036854775807
  vn : ∀ x ∈ t.slots, ∀ v ∈ x.vals, v.n < 18446744073709551616
  rs : ∀ r ∈ t.rest, r.s.length ≤ 9223372036854775807
  rn : ∀ r ∈ t.rest, r.n < 18446744073709551616
def Tree.big (t : Tree) : Prop := t.Every Tree.big1
noncomputable def eqb {α : Type} (a b : α) : Bool := @decide (a = b) (Classical.propDecidable _)
theorem eqb_true {α : Type} {a b : α} : eqb a b = true ↔ a = b := by unfold eqb; simp
theorem eqb_false {α : Type} {a b : α} : eqb a b = false ↔ ¬ a = b := by unfold eqb; simp
theorem eqb_self {α : Type} (a : α) : eqb a a = true := eqb_true.2 rfl
theorem Tree.ext {a b : Tree} (h1 : a.slots = b.slots) (h2 : a.rest = b.rest) : a = b := by cases a; cases b; simp [Tree.slots, Tree.rest] at *; exact ⟨h1, h2⟩
theorem Slot.ext {a b : Slot} (h1 : a.num = b.num) (h2 : a.vals = b.vals) : a = b := by cases a; cases b; simp [Slot.num, Slot.vals] at *; exact ⟨h1, h2⟩
theorem Val.ext {a b : Val} (h1 : a.n = b.n) (h2 : a.s = b.s) (h3 : a.m = b.m) : a = b := by cases a; cases b; simp [Val.n, Val.s, Val.m] at *; exact ⟨h1, h2, h3⟩
theorem take_eq_step {α : Type} {a b : List α} {i : Nat} (ha : i < a.length) (hb : i < b.length) (h : a.take i = b.take i) (e : a[i] = b[i]) : a.take (i + 1) = b.take (i + 1) := by
  rw [List.take_succ_eq_append_getElem ha, List.take_succ_eq_append_getElem hb, h, e]
theorem take_eq_end {α : Type} {a b : List α} {i : Nat} (hl : a.length = b.length) (hi : a.length ≤ i) (h : a.take i = b.take i) : a = b := by
  rwa [List.take_of_length_le hi, List.take_of_length_le (by omega)] at h
theorem ne_at {α : Type} {a b : List α} {i : Nat} (ha : i < a.length) (hb : i < b.length) (e : ¬ a[i] = b[i]) : ¬ a = b := by
  rintro rfl; exact e rfl
/-! ### how much of so much a value leaves (numbers wrap round) -/
abbrev w64 (n : Int) : Int := IntKind.i64.wrap n
def leftR : List Rw → Int → Int
  | [], n => n
  | x :: l, n => if 0 ≤ n then leftR l (w64 (n - w64 ((x.s.length : Int).tdiv 20))) else n
mutual
def Tree.left : Tree → Int → Int → Int
  | .mk ss r, n, d => if d ≤ 0 then -1 else leftS ss (leftR r (w64 (w64 (n - (r.length : Int)) - (ss.length : Int)))) d
def Slot.left : Slot → Int → Int → Int
  | .mk _ vs, n, d => leftV vs (w64 (n - (vs.length : Int))) d
def Val.left : Val → Int → Int → Int
  | .mk _ s m, n, d => leftT m (w64 (n - w64 ((s.length : Int).tdiv 20))) d
def leftS : List Slot → Int → Int → Int
  | [], n, _ => n
  | x :: l, n, d => if 0 ≤ n then leftS l (x.left n d) d else n
def leftV : List Val → Int → Int → Int
  | [], n, _ => n
  | x :: l, n, d => if 0 ≤ n then leftV l (x.left n d) d else n
def leftT : List Tree → Int → Int → Int
  | [], n, _ => n
  | x :: l, n, d => if 0 ≤ n then leftT l (x.left (w64 (n - 1)) (w64 (d - 1))) d else n
end
theorem Tree.left_eq (t : Tree) (n d : Int) : t.left n d = if d ≤ 0 then -1 else leftS t.slots (leftR t.rest (w64 (w64 (n - (t.rest.length : Int)) - (t.slots.length : Int)))) d := by
  cases t; simp [Tree.left, Tree.slots, Tree.rest]
theorem Slot.left_eq (x : Slot) (n d : Int) : x.left n d = leftV x.vals (w64 (n - (x.vals.length : Int))) d := by
  cases x; simp [Slot.left, Slot.vals]
theorem Val.left_eq (x : Val) (n d : Int) : x.left n d = leftT x.m (w64 (n - w64 ((x.s.length : Int).tdiv 20))) d := by
  cases x; simp [Val.left, Val.s, Val.m]
theorem leftR_step {l : List Rw} {i : Nat} {n : Int} (h : i < l.length) : leftR (l.drop i) n = if 0 ≤ n then leftR (l.drop (i + 1)) (w64 (n - w64 ((l[i].s.length : Int).tdiv 20))) else n := by
  rw [List.drop_eq_getElem_cons h]; rfl
theorem leftS_step {l : List Slot} {i : Nat} {n d : Int} (h : i < l.length) : leftS (l.drop i) n d = if 0 ≤ n then leftS (l.drop (i + 1)) (l[i].left n d) d else n := by
  rw [List.drop_eq_getElem_cons h]; simp [leftS]
theorem leftV_step {l : List Val} {i : Nat} {n d : Int} (h : i < l.length) : leftV (l.drop i) n d = if 0 ≤ n then leftV (l.drop (i + 1)) (l[i].left n d) d else n := by
  rw [List.drop_eq_getElem_cons h]; simp [leftV]
theorem leftT_step {l : List Tree} {i : Nat} {n d : Int} (h : i < l.length) : leftT (l.drop i) n d = if 0 ≤ n then leftT (l.drop (i + 1)) (l[i].left (w64 (n - 1)) (w64 (d - 1))) d else n := by
  rw [List.drop_eq_getElem_cons h]; simp [leftT]
theorem leftR_end {l : List Rw} {i : Nat} {n : Int} (h : l.length ≤ i) : leftR (l.drop i) n = n := by rw [List.drop_of_length_le h]; rfl
theorem leftS_end {l : List Slot} {i : Nat} {n d : Int} (h : l.length ≤ i) : leftS (l.drop i) n d = n := by rw [List.drop_of_length_le h]; simp [leftS]
theorem leftV_end {l : List Val} {i : Nat} {n d : Int} (h : l.length ≤ i) : leftV (l.drop i) n d = n := by rw [List.drop_of_length_le h]; simp [leftV]
theorem leftT_end {l : List Tree} {i : Nat} {n d : Int} (h : l.length ≤ i) : leftT (l.drop i) n d = n := by rw [List.drop_of_length_le h]; simp [leftT]
theorem leftR_neg {l : List Rw} {n : Int} (h : ¬ 0 ≤ n) : leftR l n = n := by cases l <;> simp [leftR]; omega
theorem leftS_neg {l : List Slot} {n d : Int} (h : ¬ 0 ≤ n) : leftS l n d = n := by cases l <;> simp [leftS]; omega
theorem leftV_neg {l : List Val} {n d : Int} (h : ¬ 0 ≤ n) : leftV l n d = n := by cases l <;> simp [leftV]; omega
theorem leftT_neg {l : List Tree} {n d : Int} (h : ¬ 0 ≤ n) : leftT l n d = n := by cases l <;> simp [leftT]; omega
/-! ### how deep -/
mutual
def Tree.deep : Tree → Nat
  | .mk ss _ => deepS ss + 1
def Slot.deep : Slot → Nat
  | .mk _ vs => deepV vs
def Val.deep : Val → Nat
  | .mk _ _ m => deepT m
def deepS : List Slot → Nat
  | [] => 0
  | x :: l => max x.deep (deepS l)
def deepV : List Val → Nat
  | [] => 0
  | x :: l => max x.deep (deepV l)
def deepT : List Tree → Nat
  | [] => 0
  | x :: l => max x.deep (deepT l)
end
theorem Tree.deep_eq (t : Tree) : t.deep = deepS t.slots + 1 := by cases t; simp [Tree.deep, Tree.slots]
theorem Slot.deep_eq (x : Slot) : x.deep = deepV x.vals := by cases x; simp [Slot.deep, Slot.vals]
theorem Val.deep_eq (x : Val) : x.deep = deepT x.m := by cases x; simp [Val.deep, Val.m]
theorem deepS_step {l : List Slot} {i : Nat} (h : i < l.length) : deepS (l.drop i) = max l[i].deep (deepS (l.drop (i + 1))) := by rw [List.drop_eq_getElem_cons h]; simp [deepS]
theorem deepV_step {l : List Val} {i : Nat} (h : i < l.length) : deepV (l.drop i) = max l[i].deep (deepV (l.drop (i + 1))) := by rw [List.drop_eq_getElem_cons h]; simp [deepV]
theorem deepT_step {l : List Tree} {i : Nat} (h : i < l.length) : deepT (l.drop i) = max l[i].deep (deepT (l.drop (i + 1))) := by rw [List.drop_eq_getElem_cons h]; simp [deepT]
theorem deepS_end {l : List Slot} {i : Nat} (h : l.length ≤ i) : deepS (l.drop i) = 0 := by rw [List.drop_of_length_le h]; simp [deepS]
theorem deepV_end {l : List Val} {i : Nat} (h : l.length ≤ i) : deepV (l.drop i) = 0 := by rw [List.drop_of_length_le h]; simp [deepV]
theorem deepT_end {l : List Tree} {i : Nat} (h : l.length ≤ i) : deepT (l.drop i) = 0 := by rw [List.drop_of_length_le h]; simp [deepT]
end Go.Proofs.YtnpgcmeclkncnaaGreatDoor.X
/- Plain laws: numbers of types, on the wire and in values. No condition. -/
set_option linter.unusedVariables false
set_option linter.unusedSimpArgs false
namespace Go.Proofs.YtnpgcmeclkncnaaGreatDoor.X
open Go Go.RowKit
def kindT (t : Int) : Int :=
  if t = 1 ∨ t = 5 ∨ t = 10 then 7 else if t = 2 ∨ t = 6 ∨ t = 11 then 15 else if t = 3 ∨ t = 8 then 3 else if t = 4 ∨ t = 9 then 11 else if t = 7 then 2 else if t = 14 then 6 else 0
theorem ty_cases (t : Int) : (t < 1 ∨ 15 < t) ∨ t = 1 ∨ t = 2 ∨ t = 3 ∨ t = 4 ∨ t = 5 ∨ t = 6 ∨ t = 7 ∨ t = 8 ∨ t = 9 ∨ t = 10 ∨ t = 11 ∨ t = 12 ∨ t = 13 ∨ t = 14 ∨ t = 15 := by omega
theorem kindT_out {t : Int} (h : t < 1 ∨ 15 < t) : kindT t = 0 := by unfold kindT; split <;> first | omega | (split <;> first | omega | (split <;> first | omega | (split <;> first | omega | (split <;> first | omega | (split <;> first | omega | rfl)))))
theorem kind_num (t : Int) : (!(ibits .and .i64 (kindT t) 2 == 0)) = numT t := by
  rcases ty_cases t with h | h
  · rw [kindT_out h, show ibits .and .i64 0 2 = 0 by decide]
    have : numT t = false := by unfold numT wholeT; simp; omega
    rw [this]; rfl
  · rcases h with rfl | rfl | rfl | rfl | rfl | rfl | rfl | rfl | rfl | rfl | rfl | rfl | rfl | rfl | rfl <;> decide
theorem kind_whole (t : Int) : (!(ibits .and .i64 (kindT t) 1 == 0)) = wholeT t := by
  rcases ty_cases t with h | h
  · rw [kindT_out h, show ibits .and .i64 0 1 = 0 by decide]
    have : wholeT t = false := by unfold wholeT; simp; omega
    rw [this]; rfl
  · rcases h with rfl | rfl | rfl | rfl | rfl | rfl | rfl | rfl | rfl | rfl | rfl | rfl | rfl | rfl | rfl <;> decide
theorem kind_sign (t : Int) : (!(ibits .and .i64 (kindT t) 4 == 0)) = signT t := by
  rcases ty_cases t with h | h
  · rw [kindT_out h, show ibits .and .i64 0 4 = 0 by decide]
    have : signT t = false := by unfold signT; simp; omega
    rw [this]; rfl
  · rcases h with rfl | rfl | rfl | rfl | rfl | rfl | rfl | rfl | rfl | rfl | rfl | rfl | rfl | rfl | rfl <;> decide
theorem kind_wide (t : Int) : (!(ibits .and .i64 (kindT t) 8 == 0)) = wideT t := by
  rcases ty_cases t with h | h
  · rw [kindT_out h, show ibits .and .i64 0 8 = 0 by decide]
    have : wideT t = false := by unfold wideT; simp; omega
    rw [this]; rfl
  · rcases h with rfl | rfl | rfl | rfl | rfl | rfl | rfl | rfl | rfl | rfl | rfl | rfl | rfl | rfl | rfl <;> decide
theorem kind_cell {t : Int} (h0 : 0 ≤ t) (h1 : t < 16) : ([.int .i64 0, .int .i64 7, .int .i64 15, .int .i64 3, .int .i64 11, .int .i64 7, .int .i64 15, .int .i64 2, .int .i64 3, .int .i64 11, .int .i64 7, .int .i64 15, .int .i64 0, .int .i64 0, .int .i64 6, .int .i64 0] : List AV)[t.toNat]? = some (.int .i64 (kindT t)) := by
  have : t = 0 ∨ t = 1 ∨ t = 2 ∨ t = 3 ∨ t = 4 ∨ t = 5 ∨ t = 6 ∨ t = 7 ∨ t = 8 ∨ t = 9 ∨ t = 10 ∨ t = 11 ∨ t = 12 ∨ t = 13 ∨ t = 14 ∨ t = 15 := by omega
  rcases this with rfl | rfl | rfl | rfl | rfl | rfl | rfl | rfl | rfl | rfl | rfl | rfl | rfl | rfl | rfl | rfl <;> rfl
/-- a number's sign -/
def s64 (n : Nat) : Int := IntKind.i64.wrap (n : Int)
theorem s64_eq {n : Nat} (h : n < 18446744073709551616) : s64 n = if n < 9223372036854775808 then (n : Int) else (n : Int) - 18446744073709551616 := by
  unfold s64; simp only [IntKind.wrap, IntKind.bits, IntKind.signed]; simp; omega
def fitsT (z : Int) : Bool := decide (-2147483648 ≤ z) && decide (z ≤ 2147483647)
theorem fits_wrap (z : Int) : (IntKind.i64.wrap (IntKind.i32.wrap z) == z) = fitsT z := by
  have h : IntKind.i64.wrap (IntKind.i32.wrap z) = IntKind.i32.wrap z := by simp only [IntKind.wrap, IntKind.bits, IntKind.signed]; simp; omega
  rw [h]
  simp only [IntKind.wrap, IntKind.bits, IntKind.signed, fitsT]
  rw [Bool.eq_iff_iff]
  simp
  omega
def zigT (z : Int) : Nat := if 0 ≤ z then (2 * z).toNat else (-2 * z - 1).toNat
def mayT (t : Int) (n : Nat) : Bool :=
  if t < 1 ∨ 15 < t then false else if wideT t then true else if signT t then fitsT (s64 n) else if t = 3 ∨ t = 8 then decide (n < 4294967296) else if t = 7 then decide (n < 2) else decide (n = 0)
def toT (t : Int) (n : Nat) : Nat :=
  if t = 3 ∨ t = 8 ∨ t = 10 then n % 4294967296 else if t = 5 ∨ t = 6 then zigT (s64 n) else if numT t then n else 0
theorem zigT_lt {z : Int} (h0 : -9223372036854775808 ≤ z) (h1 : z < 9223372036854775808) : zigT z < 18446744073709551616 := by unfold zigT; split <;> omega
theorem s64_range {n : Nat} (h : n < 18446744073709551616) : -9223372036854775808 ≤ s64 n ∧ s64 n < 9223372036854775808 := by rw [s64_eq h]; split <;> omega
theorem toT_lt {t : Int} {n : Nat} (h : n < 18446744073709551616) : toT t n < 18446744073709551616 := by
  have := s64_range h
  have := zigT_lt this.1 this.2
  unfold toT; split
  · omega
  · split
    · exact this
    · split <;> omega
/-- the program's zigzag -/
theorem zig_xor {z : Int} (h0 : -9223372036854775808 ≤ z) (h1 : z < 9223372036854775808) :
    ibits .xor .u64 (IntKind.u64.wrap (IntKind.u64.wrap z * 2)) (IntKind.u64.wrap ((IntKind.i64.wrap (IntKind.u64.wrap z)).fdiv (2 ^ 63))) = (zigT z : Int) := by
  have hw : IntKind.i64.wrap (IntKind.u64.wrap z) = z := by simp only [IntKind.wrap, IntKind.bits, IntKind.signed]; simp; omega
  rw [hw]
  by_cases hz : 0 ≤ z
  · have e1 : IntKind.u64.wrap (IntKind.u64.wrap z * 2) = 2 * z := by simp only [IntKind.wrap, IntKind.bits, IntKind.signed]; simp; omega
    have e2 : IntKind.u64.wrap (z.fdiv (2 ^ 63)) = 0 := by
      have : z.fdiv (2 ^ 63) = 0 := by rw [Int.fdiv_eq_ediv_of_nonneg _ (by omega)]; omega
      rw [this]; decide
    rw [e1, e2]
    simp only [ibits, zigT, if_pos hz]
    obtain ⟨k, hk⟩ : ∃ k : Nat, z = k := ⟨z.toNat, by omega⟩
    subst hk
    show IntKind.u64.wrap (((BitVec.ofInt 64 (2 * (k : Int))) ^^^ 0#64).toNat : Int) = _
    rw [BitVec.xor_zero, BitVec.toNat_ofInt]
    simp only [IntKind.wrap, IntKind.bits, IntKind.signed]
    simp
    omega
  · have e1 : IntKind.u64.wrap (IntKind.u64.wrap z * 2) = 2 * z + 18446744073709551616 := by simp only [IntKind.wrap, IntKind.bits, IntKind.signed]; simp; omega
    have e2 : IntKind.u64.wrap (z.fdiv (2 ^ 63)) = 18446744073709551615 := by
      have : z.fdiv (2 ^ 63) = -1 := by rw [Int.fdiv_eq_ediv_of_nonneg _ (by omega)]; omega
      rw [this]; decide
    rw [e1, e2]
    simp only [ibits, zigT, if_neg hz]
    have h2 : BitVec.ofInt IntKind.u64.bits 18446744073709551615 = BitVec.allOnes 64 := show BitVec.ofInt 64 18446744073709551615 = BitVec.allOnes 64 from by decide
    rw [h2]
    obtain ⟨k, hk⟩ : ∃ k : Nat, 2 * z + 18446744073709551616 = k := ⟨(2 * z + 18446744073709551616).toNat, by omega⟩
    rw [hk]
    show IntKind.u64.wrap (((BitVec.ofInt 64 (k : Int)) ^^^ BitVec.allOnes 64).toNat : Int) = _
    rw [BitVec.xor_allOnes, BitVec.toNat_not, BitVec.toNat_ofInt]
    simp only [IntKind.wrap, IntKind.bits, IntKind.signed]
    simp
    omega
end Go.Proofs.YtnpgcmeclkncnaaGreatDoor.X
