/- The program logic's rules: a strings.Builder in a local box. No condition. -/
import Derived.Test.YtabihkfhoohfnaaGreatDoorZAF
import Derived.Test.YtabihkfhoohfnaaGreatDoorZAC
import Derived.Lib.SmallJoins
import Derived.Test.YtabihkfhoohfnaaGreatDoorZAD
set_option linter.unusedVariables false
set_option linter.unusedSimpArgs false
namespace Go.Proofs.YtabihkfhoohfnaaGreatDoor.X
open Go Go.RowKit Go.Proofs
section
variable {N : Nat} {s : St} {d : Nat} {ty : TypeId} {pos : String} {af : Array Edge} {g : Option (Nat × Bool)}
theorem zero66' : (Tryz.prog.info? 173).bind (·.zero) = some (.agg #[.pointer none, .slice none 0 0]) := by kernel_rfl
theorem zero66 : ∃ i, Tryz.prog.info? 173 = some i ∧ i.zero = some (.agg #[.pointer none, .slice none 0 0]) := Option.bind_eq_some_iff.1 zero66'
theorem bt_new {G : Gh} {L : Loc} {f : Nat} (hf : L.tok f = some (.slice none 0 0)) : ObjOK G L (.cells #[.pointer none, .slice none 0 0] 173) (.bt 173 [.v .nilp, .om f 0]) := by
 refine ⟨#[.pointer none, .slice none 0 0], rfl, rfl, fun j x e => ?_⟩
 match j, e with
 | 0, e => cases e; exact ⟨rfl, .nilp⟩
 | 1, e => cases e; exact ⟨rfl, hf, none, 0, rfl⟩
/-- var b strings.Builder; its row: f -/
theorem op_alb' {P : Program} {i : TypeInfo} (hi : P.info? 173 = some i) (hz : i.zero = some (.agg #[.pointer none, .slice none 0 0])) {f : Nat} (hN : d < N) (hk : get s (.b d) = none) (hf : get s (.t f) = none) :
  OpOK P N ⟨some d, .alloc 173, ty, pos, af, g⟩ s [.b d, .t f] [(.s d, .sv (.lp d 0)), (.b d, .bt 173 [.v .nilp, .om f 0]), (.t f, .tk true 5 1 [])] := by
 intro t hR E G L a w hr K Q hK
 have hk' : get t (.b d) = none := by rw [hR (.b d) (by simp)]; exact hk
 have hf' : get t (.t f) = none := by rw [hR (.t f) (by simp)]; exact hf
 have hr0 := hr.niltok (el := 5) (esz := 1) hf' (by decide)
 have hr1 := hr0.alloc d (by simpa [get] using hk') (.cells #[.pointer none, .slice none 0 0] 173) (.bt 173 [.v .nilp, .om f 0]) rfl rfl (bt_new (by simp [Loc.setBox, Loc.setTok]))
 have he : (execOp a.eval ⟨some d, .alloc 173, ty, pos, af, g⟩).run P w = .ok (.value (.pointer (some ⟨w.heap.size, 0, none⟩))) (w.alloc (.cells #[.pointer none, .slice none 0 0] 173)) := by
  simp [execOp, Instr.alloc, zeroValue, typeInfo, hi, hz, newVar, newRow]
  rfl
 unfold Oper.wp
 rw [he]
 exact hK _ _ G _ (hr1.put d hN _ (.lp d 0) ⟨w.heap.size, by simp [Loc.setBox], rfl⟩)
set_option maxRecDepth 1000000 in
theorem op_alb {f : Nat} (hN : d < N) (hk : get s (.b d) = none) (hf : get s (.t f) = none) :
  OpOK Tryz.prog N ⟨some d, .alloc 173, ty, pos, af, g⟩ s [.b d, .t f] [(.s d, .sv (.lp d 0)), (.b d, .bt 173 [.v .nilp, .om f 0]), (.t f, .tk true 5 1 [])] :=
 Exists.elim zero66 fun i h => op_alb' h.1 h.2 hN hk hf
theorem lay_bytes {G : Gh} {l : List UInt8} {cells : List Value} (h : Lay G 1 (bsl l) cells) (hl : cells.length = l.length) : cells = Lib.byteCells l := by
 refine List.ext_getElem? fun i => ?_
 by_cases hi : i < l.length
 ·have h1 : (bsl l)[i]? = some (.int .u8 ((l[i]).toNat : Int)) := by simp [bsl, hi]
  have h2 := (h.2 i _ 0 (.int .u8 ((l[i]).toNat : Int)) h1 rfl).2
  have h3 : cells.getD (i * 1 + 0) undef = .int .u8 ((l[i]).toNat : Int) := V.int_eq h2
  simp only [Nat.mul_one, Nat.add_zero] at h3
  rw [List.getD_eq_getElem?_getD, List.getElem?_eq_getElem (by omega)] at h3
  rw [List.getElem?_eq_getElem (by omega)]
  simp only [Lib.byteCells, List.getElem?_map, List.getElem?_eq_getElem hi, Option.map_some]
  simpa using h3
 ·rw [List.getElem?_eq_none (by omega), List.getElem?_eq_none (by simp [Lib.byteCells]; omega)]
/-- What a builder's box is. -/
theorem bt_open {E : Ent} {G : Gh} {L : Loc} {a : Act} {w : World} {t : St} (hr : Rel E N G L a w t) {k f n : Nat} {c0 : Sv} (hk : get t (.b k) = some (.bt 173 [c0, .om f n])) (hc0 : c0 = .v .nilp ∨ c0 = .lp k 0) :
  ∃ b p v, L.box k = some b ∧ L.tok f = some v ∧ w.heap[b]? = some (.cells #[p, v] 173 (0, 0)) ∧ (p = .pointer none ∨ p = .pointer (some ⟨b, 0, none⟩)) := by
 obtain ⟨b, o, hb, _, hh, ⟨arr, rfl, hsz, hc⟩, _⟩ := hr.box k _ hk rfl
 have hp := (hc 0 c0 rfl).2
 have hv := (hc 1 (.om f n) rfl).2.1
 obtain ⟨al⟩ := arr
 match al, hsz with
 | [p, v], _ =>
  refine ⟨b, p, v, hb, hv, hh, ?_⟩
  rcases hc0 with rfl | rfl
  ·have h1 : V G p .nilp := hp
   cases h1; exact .inl rfl
  ·obtain ⟨b2, h2, h3⟩ := hp
   rw [hb] at h2; cases h2
   exact .inr h3
set_option maxRecDepth 1000000 in
set_option maxHeartbeats 2000000 in
/-- b.WriteString(text) -/
theorem op_bws {x y : Operand} {tys : Array TypeId} {k f n : Nat} {c0 : Sv} {xs : List UInt8} {l : List UInt8} (hN : d < N) (hx : opd x s = some (.lp k 0)) (hk : get s (.b k) = some (.bt 173 [c0, .om f n])) (hc0 : c0 = .v .nilp ∨ c0 = .lp k 0)
  (hf : get s (.t f) = some (.tk true 5 1 (bsl xs))) (hy : opv y s = some (.str l)) (hd : get s (.t d) = none) (hfn : isFn Tryz.prog 129 = true) (hlen : xs.length + l.length ≤ 140737488355328) :
  OpOK Tryz.prog N ⟨some d, .call { callee := .value (.func 129), args := #[x, y], argTypes := tys }, ty, pos, af, g⟩ s (rd x ++ (rd y ++ [.b k, .t f, .t d]))
   [(.s d, .sv (.v (.tup [.int .i64 l.length, .nili]))), (.b k, .bt 173 [.lp k 0, .om d (xs ++ l).length]), (.t d, .tk true 5 1 (bsl (xs ++ l))), (.t f, .gone)] := by
 intro t hR E G L a w hr K Q hK
 have hk' : get t (.b k) = some (.bt 173 [c0, .om f n]) := by rw [hR (.b k) (by simp)]; exact hk
 have hf' : get t (.t f) = some (.tk true 5 1 (bsl xs)) := by rw [hR (.t f) (by simp)]; exact hf
 have hd' : get t (.t d) = none := by rw [hR (.t d) (by simp)]; exact hd
 obtain ⟨b, p, v, hb, hv, hbk, hp⟩ := bt_open hr hk' hc0
 have hx1 : a.eval x = .pointer (some ⟨b, 0, none⟩) := by
  obtain ⟨b2, h2, h3⟩ := opd_sound hr hR.left hx
  rw [hb] at h2; cases h2; exact h3
 have hy1 : a.eval y = .string ⟨l.toArray⟩ := V.str_eq (opv_sound hr hR.right.left hy)
 obtain ⟨v2, hv2, ⟨cells, _, hown, hz, hL, hkn0⟩, hmay⟩ := hr.tok f true 5 1 (bsl xs) hf'
 rw [hv] at hv2; cases hv2
 have hlx : (bsl xs).length = xs.length := by simp [bsl]
 have hne : v.ownBlock ≠ some b := fun e => by
  have := hr.disj (.t f) (.b k) b ⟨⟨_, _, _, _, hf'⟩, v, hv, e⟩ ⟨⟨_, hk', rfl⟩, hb⟩
  cases this
 have hsz : (⟨l.toArray⟩ : ByteArray).size = l.length := by simp [ByteArray.size]
 have he : (execOp a.eval ⟨some d, .call { callee := .value (.func 129), args := #[x, y], argTypes := tys }, ty, pos, af, g⟩).run Tryz.prog w = .ok (.enter 129 #[.pointer (some ⟨b, 0, none⟩), .string ⟨l.toArray⟩]) w := by
  have heF : a.eval (.func 129) = .func (.func 129) #[] #[] := rfl
  have e : #[] ++ Array.map a.eval #[x, y] ++ #[] = #[.pointer (some ⟨b, 0, none⟩), .string ⟨l.toArray⟩] := by simp [hx1, hy1]
  simp only [execOp, resolve, heF, Deferred.ofValue, Sem.run_bind, Sem.run_pure, Result.andThen_ok, invoke, run_callFunc hfn, e]
 unfold Oper.wp
 rw [he]
 refine (Tryz.bld_ws hbk hp hown hne (by rw [hsz, hlx]; exact hlen)).mono ?_
 rintro e w' ⟨rfl, w1, v', w2, t1, hk1, hown1, ho2, hg, hat, hcell, t2, hk2, hk3⟩
 have hr1 := hr.turn (cv0 := .bt 173 [c0, .om f n]) (cv := .bt 173 [.lp k 0, .om f n]) hk' rfl rfl rfl hb (o := .cells #[.pointer (some ⟨b, 0, none⟩), v] 173 (0, 0)) ⟨_, rfl, rfl, fun j z e => by
  match j, e with
  | 0, e => cases e; exact ⟨rfl, b, hb, rfl⟩
  | 1, e =>
   cases e
   obtain ⟨_, _, _, _, _, ⟨arr, h1, h2, h3⟩, _⟩ := hr.box k _ hk' rfl
   refine ⟨rfl, hv, ?_⟩
   obtain ⟨b0, o0, q1, _, q3, ⟨arr0, q4, q5, q6⟩, _⟩ := hr.box k _ hk' rfl
   rw [hb] at q1; cases q1
   rw [hbk] at q3; cases q3
   cases q4
   exact (q6 1 _ rfl).2.2⟩ t1.os t1.tape t1.output t1.size t1.block hk1
 have hbl : (bsl l).length = l.length := by simp [bsl]
 obtain ⟨G', _, hle, hr2⟩ := grow_tok hr1 (k := f) (d := d) (m := true) (el := 5) (esz := 1) (xs := bsl xs) (ys := bsl l) (v1 := v') (w1 := w2) (news := Lib.strCells ⟨l.toArray⟩) (by simpa [get] using hf') (by simpa [get] using hd') hv hown1 hL (by decide)
  (fun blk e o u h => by have := hkn0 blk e o; rw [this] at h; cases h) (by rw [hbl, ← hsz]; exact ho2) hg hat hcell (strCells_lay G l)
 have e1 : bsl xs ++ bsl l = bsl (xs ++ l) := by simp [bsl]
 rw [e1] at hr2
 have hs2 : ∃ A C, v' = .slice A (xs ++ l).length C := by
  have hn : (bsl xs).length + (⟨l.toArray⟩ : ByteArray).size = (xs ++ l).length := by rw [hlx, hsz, List.length_append]
  rcases ho2.2 with ⟨h1, h2⟩ | ⟨g2, cap, cur, h1, _⟩
  ·rw [hn] at h2; exact ⟨none, 0, by rw [h2]; exact h1⟩
  ·exact ⟨_, _, by rw [← hn]; exact h1⟩
 have hr3 := hr2.turn (cv0 := .bt 173 [.lp k 0, .om f n]) (cv := .bt 173 [.lp k 0, .om d (xs ++ l).length]) (k := k) (by simp [get]) rfl rfl rfl (blk := b) hb (o := .cells #[.pointer (some ⟨b, 0, none⟩), v'] 173 (0, 0)) ⟨_, rfl, rfl, fun j z e => by
  match j, e with
  | 0, e => cases e; exact ⟨rfl, b, hb, rfl⟩
  | 1, e => cases e; exact ⟨rfl, by simp [Loc.setTok], hs2⟩⟩ t2.os t2.tape t2.output t2.size t2.block hk3
 have hr4 := hr3.put d hN (.tuple #[.int .i64 (⟨l.toArray⟩ : ByteArray).size, .nilIface]) (.v (.tup [.int .i64 l.length, .nili])) (by rw [hsz]; exact V.tup2 (.int _ _) .nili)
 refine hK _ w' G' (L.setTok d v') (hr4.ext fun c => ?_)
 simp only [List.cons_append, List.nil_append, get]
 repeat' split
 all_goals first | rfl | (rename_i h1 h2; subst h1; cases h2) | (exfalso; simp_all)
set_option maxRecDepth 1000000 in
set_option maxHeartbeats 2000000 in
/-- b.String(): the builder is not written any more -/
theorem op_bstr {x : Operand} {tys : Array TypeId} {k f n : Nat} {c0 : Sv} {xs : List UInt8} (hN : d < N) (hx : opd x s = some (.lp k 0)) (hk : get s (.b k) = some (.bt 173 [c0, .om f n])) (hc0 : c0 = .v .nilp ∨ c0 = .lp k 0)
  (hf : get s (.t f) = some (.tk true 5 1 (bsl xs))) (hd : get s (.t d) = none) (hfn : isFn Tryz.prog 130 = true) :
  OpOK Tryz.prog N ⟨some d, .call { callee := .value (.func 130), args := #[x], argTypes := tys }, ty, pos, af, g⟩ s (rd x ++ [.b k, .t f, .t d])
   [(.s d, .sv (.v (.str xs))), (.t d, .tk true 5 1 []), (.t f, .gone)] := by
 intro t hR E G L a w hr K Q hK
 have hk' : get t (.b k) = some (.bt 173 [c0, .om f n]) := by rw [hR (.b k) (by simp)]; exact hk
 have hf' : get t (.t f) = some (.tk true 5 1 (bsl xs)) := by rw [hR (.t f) (by simp)]; exact hf
 have hd' : get t (.t d) = none := by rw [hR (.t d) (by simp)]; exact hd
 have hne' : d ≠ f := by rintro rfl; rw [hf'] at hd'; cases hd'
 obtain ⟨b, p, v, hb, hv, hbk, hp⟩ := bt_open hr hk' hc0
 have hx1 : a.eval x = .pointer (some ⟨b, 0, none⟩) := by
  obtain ⟨b2, h2, h3⟩ := opd_sound hr hR.left hx
  rw [hb] at h2; cases h2; exact h3
 obtain ⟨v2, hv2, ⟨cells, _, hown, hz, hL, hkn0⟩, hmay⟩ := hr.tok f true 5 1 (bsl xs) hf'
 rw [hv] at hv2; cases hv2
 have hlx : (bsl xs).length = xs.length := by simp [bsl]
 have he : (execOp a.eval ⟨some d, .call { callee := .value (.func 130), args := #[x], argTypes := tys }, ty, pos, af, g⟩).run Tryz.prog w = .ok (.enter 130 #[.pointer (some ⟨b, 0, none⟩)]) w := by
  have heF : a.eval (.func 130) = .func (.func 130) #[] #[] := rfl
  have e : #[] ++ Array.map a.eval #[x] ++ #[] = #[.pointer (some ⟨b, 0, none⟩)] := by simp [hx1]
  simp only [execOp, resolve, heF, Deferred.ofValue, Sem.run_bind, Sem.run_pure, Result.andThen_ok, invoke, run_callFunc hfn, e]
 unfold Oper.wp
 rw [he]
 have hcl : cells.length = xs.length := by have := hown.1; rw [hlx] at this; simpa using this
 have hcb := lay_bytes hL hcl
 rw [hlx, hcb] at hown
 refine (Tryz.bld_str hbk hown).mono ?_
 rintro e w' ⟨rfl, hg⟩
 have hr1 := hr.gonetok hf'
 have hmine : ∀ b, v.ownBlock = some b → owns t L (.t f) b := fun b hb => ⟨⟨_, _, _, _, hf'⟩, v, hv, hb⟩
 obtain ⟨G', _, hle, hr2⟩ := hr1.newtok true (d := d) (el := 5) (esz := 1) (xs := []) (v1 := .slice none 0 0) (cells := []) (row := v.ownBlock) (by simp [get, Ne.symm hne']; exact hd') (by decide) hg (fun b hb => by
   refine ⟨(owns_lt hr (hmine b hb)).2, fun c hc => ?_, fun H g => hr.hdisj _ _ (hmine b hb) H (by simpa [get] using g), (hmay b hb).2, fun o u e => ?_⟩
   ·by_cases e : c = .t f
    ·subst e; obtain ⟨⟨m, el, esz, xs, g⟩, _⟩ := hc; simp [get] at g
    ·exact e (hr.disj c (.t f) b (owns_cons e hc) (hmine b hb))
   ·have := hkn0 b hb o
    rw [this] at e; cases e) (fun b hb => by simp [Value.ownBlock] at hb) (World.ownsRow_nil w' 0 5 1) ⟨fun i e h => by simp at h, fun i e j c h => by simp at h⟩ (fun b hb => by simp [Value.ownBlock] at hb)
 have hr4 := hr2.put d hN (.string ⟨xs.toArray⟩) (.v (.str xs)) (.str _)
 exact hK _ w' G' _ hr4
end
/- The library's functions as calls of the logic: HasPrefix, CutPrefix, Index, IndexByte, ParseUint, FormatUint, ReplaceAll. Condition: the texts are not too long. -/
theorem ba (s : List UInt8) : (⟨s.toArray⟩ : ByteArray).data.toList = s := by simp
theorem bas (s : List UInt8) : (⟨s.toArray⟩ : ByteArray).size = s.length := by simp [ByteArray.size]
theorem has_pure (s p : List UInt8) : Pure Tryz.prog 54 [.str s, .str p] (.bool (Lib.hasPrefix s p)) := Pure.of_same fun G w c _ _ _ hV => by
 obtain ⟨x, y, rfl, hx, hy⟩ := hV.two
 rw [hx.str_eq, hy.str_eq]
 refine (Tryz.strings_HasPrefix _ _ w).mono fun e w' ⟨he, hw⟩ => ⟨⟨_, he, ?_⟩, hw⟩
 rw [ba, ba]; exact .bool _
theorem cut_pure (s p : List UInt8) : Pure Tryz.prog 125 [.str s, .str p] (.tup [.str (Lib.trimPrefix s p), .bool (Lib.hasPrefix s p)]) := Pure.of_same fun G w c _ _ _ hV => by
 obtain ⟨x, y, rfl, hx, hy⟩ := hV.two
 rw [hx.str_eq, hy.str_eq]
 refine (Tryz.strings_CutPrefix _ _ w).mono fun e w' ⟨he, hw⟩ => ⟨⟨_, he, ?_⟩, hw⟩
 rw [ba, ba]; exact V.tup2 (.str _) (.bool _)
theorem index_pure (s : List UInt8) (c : UInt8) : Pure Tryz.prog 128 [.str s, .str [c]] (.int .i64 (Lib.indexByte s c)) := Pure.of_same fun G w cc _ _ _ hV => by
 obtain ⟨x, y, rfl, hx, hy⟩ := hV.two
 rw [hx.str_eq, hy.str_eq]
 refine (Tryz.strings_Index_one _ c w).mono fun e w' ⟨he, hw⟩ => ⟨⟨_, he, ?_⟩, hw⟩
 rw [ba]; exact .int _ _
theorem indexByte_pure (s : List UInt8) (c : UInt8) : Pure Tryz.prog 131 [.str s, .int .u8 (c.toNat : Int)] (.int .i64 (Lib.indexByte s c)) := Pure.of_same fun G w cc _ _ _ hV => by
 obtain ⟨x, y, rfl, hx, hy⟩ := hV.two
 rw [hx.str_eq, hy.int_eq]
 refine (Tryz.strings_IndexByte _ _ w).mono fun e w' ⟨he, hw⟩ => ⟨⟨_, he, ?_⟩, hw⟩
 rw [ba]
 have : ((c.toNat : Int).toNat.toUInt8) = c := by simp
 rw [this]; exact .int _ _
theorem parse_ok (s : List UInt8) (h63 : s.length ≤ 281474976710656) (u : Nat) (h : Lib.parseUintB 64 s = .ok u) : Pure Tryz.prog 126 [.str s, .int .i64 10, .int .i64 64] (.tup [.int .u64 u, .nili]) := Pure.of_calls fun G w c _ _ _ hV => by
 obtain ⟨x, y, z, rfl, hx, hy, hz⟩ := hV.three
 rw [hx.str_eq, hy.int_eq, hz.int_eq]
 refine (Tryz.strconv_ParseUint_10_at64_ok _ (by rw [bas]; omega) u (by rw [ba]; exact h) w).mono fun e w' ⟨he, hw⟩ => ⟨_, he, V.tup2 (.int _ _) .nili, ?_⟩
 rcases hw with rfl | rfl
 ·exact Below.refl _ _
 ·exact Go.Joins.below_bytesWorld _ _ _ _ (Nat.le_refl _)
theorem parse_bad (s : List UInt8) (h63 : s.length ≤ 281474976710656) (h : ∀ u, Lib.parseUintB 64 s ≠ .ok u) : ∃ u : Nat, Pure Tryz.prog 126 [.str s, .int .i64 10, .int .i64 64] (.tup [.int .u64 u, .ifc 209 .junk]) := by
 rcases h2 : Lib.parseUintB 64 s with u | _ | _
 ·exact absurd h2 (h u)
 ·
  refine ⟨0, Pure.of_calls fun G w c hg _ _ hV => ?_⟩
  obtain ⟨x, y, z, rfl, hx, hy, hz⟩ := hV.three
  rw [hx.str_eq, hy.int_eq, hz.int_eq]
  obtain ⟨te, pe, h4⟩ := gokSyn hg
  refine (Tryz.strconv_ParseUint_10_at64_syntax _ (by rw [bas]; omega) (by rw [ba]; exact h2.trans rfl) _ w h4 (.inr ⟨te, pe, rfl⟩)).mono fun e w' ⟨n, he, _, _, hw⟩ => ⟨_, he, V.tup2 (.int _ _) (.ifc _ _ _ (.junk _ rfl)), hw⟩
 ·
  refine ⟨18446744073709551615, Pure.of_calls fun G w c hg _ _ hV => ?_⟩
  obtain ⟨x, y, z, rfl, hx, hy, hz⟩ := hV.three
  rw [hx.str_eq, hy.int_eq, hz.int_eq]
  obtain ⟨te, pe, h4⟩ := gokRange hg
  refine (Tryz.strconv_ParseUint_10_at64_range _ (by rw [bas]; omega) (by rw [ba]; exact h2) _ w h4 (.inr ⟨te, pe, rfl⟩)).mono fun e w' ⟨n, he, _, _, hw⟩ => ⟨_, he, V.tup2 (.int _ _) (.ifc _ _ _ (.junk _ rfl)), hw⟩
theorem format_pure (u : Nat) (hu : u < 18446744073709551616) : Pure Tryz.prog 190 [.int .u64 u, .int .i64 10] (.str (Lib.decDigits u)) := Pure.of_calls fun G w c hg _ _ hV => by
 obtain ⟨x, y, rfl, hx, hy⟩ := hV.two
 rw [hx.int_eq, hy.int_eq]
 exact (Tryz.inner_FormatUint u hu w (gokPow hg)).mono fun e w' ⟨he, hw⟩ => ⟨_, he, .str _, hw⟩
set_option linter.unusedSectionVars false
set_option maxRecDepth 100000
/- lex: what a byte is, in the program and in the document. -/
theorem fn122_q : isFn Tryz.prog 122 = true := by kernel_rfl
theorem fn124_q : isFn Tryz.prog 124 = true := by kernel_rfl
theorem wru64 {n : Int} (h0 : 0 ≤ n) (h : n < 18446744073709551616) : IntKind.u64.wrap n = n := by simp only [IntKind.wrap, IntKind.bits, IntKind.signed]; simp; omega
theorem wru8 {n : Int} (h0 : 0 ≤ n) (h : n < 256) : IntKind.u8.wrap n = n := by simp only [IntKind.wrap, IntKind.bits, IntKind.signed]; simp; omega
theorem letter_pure (c : UInt8) : Pure Tryz.prog 122 [.int .u8 (c.toNat : Int)] (.bool (isLet c)) := by
 refine Pure.of_tri Tryz.func122 rfl rfl (ltb rfl) fun H => ?_
 refine Tri.seq (Tri.region ?_)
 refine TriL.c1 rfl (op_as (ltb rfl) rfl) ?_
 refine TriL.nil (Tri.seq (Tri.region ?_))
 refine TriL.c1 rfl (op_mv (ltb rfl) rfl) ?_
 refine TriL.c1 rfl (op_bin (ltb rfl) rfl rfl rfl) ?_
 refine TriL.c1 rfl (op_mv (ltb rfl) rfl) ?_
 refine TriL.split (d := 5) rfl (fun hg1 => ?_) (fun hg1 => ?_)
 ·refine TriL.g1 rfl (ltb rfl) rfl hg1 (op_mv (ltb rfl) rfl) ?_
  refine TriL.g1 rfl (ltb rfl) rfl hg1 (op_bin (ltb rfl) rfl rfl rfl) ?_
  refine TriL.c1 rfl (op_pickt (ltb rfl) rfl hg1 rfl) ?_
  refine TriL.c1 rfl (op_mv (ltb rfl) rfl) ?_
  refine TriL.split (d := 9) rfl (fun hg2 => ?_) (fun hg2 => ?_)
  ·iterate 3 (refine TriL.skipu rfl rfl (ltb rfl) (ltb rfl) rfl hg2 ?_)
   iterate 2 (refine TriL.skipg rfl rfl (ltb rfl) (ltb rfl) rfl ?_)
   refine TriL.skipu rfl rfl (ltb rfl) (ltb rfl) rfl hg2 ?_
   refine TriL.c1 rfl (op_pickt (ltb rfl) rfl hg2 rfl) ?_
   refine TriL.c1 rfl (op_as (ltb rfl) rfl) ?_
   refine TriL.nil (Tri.ret ?_)
   exact ⟨.inr rfl, (ResOK.r1 rfl (.tmp rfl .nil)).cast (by exact congrArg AV.bool (Bool.eq_iff_iff.2 (by simp [isLet] at *; omega))), rfl⟩
  ·refine TriL.g1 rfl (ltb rfl) rfl hg2 (op_mv (ltb rfl) rfl) ?_
   refine TriL.g1 rfl (ltb rfl) rfl hg2 (op_bin (ltb rfl) rfl rfl rfl) ?_
   refine TriL.g1 rfl (ltb rfl) rfl hg2 (op_mv (ltb rfl) rfl) ?_
   refine TriL.split (d := 12) rfl (fun hg3 => ?_) (fun hg3 => ?_)
   ·refine TriL.g1 rfl (ltb rfl) rfl hg3 (op_mv (ltb rfl) rfl) ?_
    refine TriL.g1 rfl (ltb rfl) rfl hg3 (op_bin (ltb rfl) rfl rfl rfl) ?_
    refine TriL.g1 rfl (ltb rfl) rfl hg2 (op_pickt (ltb rfl) rfl hg3 rfl) ?_
    refine TriL.c1 rfl (op_pickf (ltb rfl) rfl hg2 rfl) ?_
    refine TriL.c1 rfl (op_as (ltb rfl) rfl) ?_
    refine TriL.nil (Tri.ret ?_)
    exact ⟨.inr rfl, (ResOK.r1 rfl (.tmp rfl .nil)).cast (by exact congrArg AV.bool (Bool.eq_iff_iff.2 (by simp [isLet] at *; omega))), rfl⟩
   ·iterate 2 (refine TriL.skipu rfl rfl (ltb rfl) (ltb rfl) rfl hg3 ?_)
    refine TriL.g1 rfl (ltb rfl) rfl hg2 (op_pickf (ltb rfl) rfl hg3 rfl) ?_
    refine TriL.c1 rfl (op_pickf (ltb rfl) rfl hg2 rfl) ?_
    refine TriL.c1 rfl (op_as (ltb rfl) rfl) ?_
    refine TriL.nil (Tri.ret ?_)
    exact ⟨.inr rfl, (ResOK.r1 rfl (.tmp rfl .nil)).cast (by exact congrArg AV.bool (Bool.eq_iff_iff.2 (by simp [isLet] at *; omega))), rfl⟩
 ·iterate 2 (refine TriL.skipu rfl rfl (ltb rfl) (ltb rfl) rfl hg1 ?_)
  refine TriL.c1 rfl (op_pickf (ltb rfl) rfl hg1 rfl) ?_
  refine TriL.c1 rfl (op_mv (ltb rfl) rfl) ?_
  refine TriL.g1 rfl (ltb rfl) rfl rfl (op_mv (ltb rfl) rfl) ?_
  refine TriL.g1 rfl (ltb rfl) rfl rfl (op_bin (ltb rfl) rfl rfl rfl) ?_
  refine TriL.g1 rfl (ltb rfl) rfl rfl (op_mv (ltb rfl) rfl) ?_
  refine TriL.split (d := 12) rfl (fun hg4 => ?_) (fun hg4 => ?_)
  ·refine TriL.g1 rfl (ltb rfl) rfl hg4 (op_mv (ltb rfl) rfl) ?_
   refine TriL.g1 rfl (ltb rfl) rfl hg4 (op_bin (ltb rfl) rfl rfl rfl) ?_
   refine TriL.g1 rfl (ltb rfl) rfl rfl (op_pickt (ltb rfl) rfl hg4 rfl) ?_
   refine TriL.c1 rfl (op_pickf (ltb rfl) rfl rfl rfl) ?_
   refine TriL.c1 rfl (op_as (ltb rfl) rfl) ?_
   refine TriL.nil (Tri.ret ?_)
   exact ⟨.inr rfl, (ResOK.r1 rfl (.tmp rfl .nil)).cast (by exact congrArg AV.bool (Bool.eq_iff_iff.2 (by simp [isLet] at *; omega))), rfl⟩
  ·iterate 2 (refine TriL.skipu rfl rfl (ltb rfl) (ltb rfl) rfl hg4 ?_)
   refine TriL.g1 rfl (ltb rfl) rfl rfl (op_pickf (ltb rfl) rfl hg4 rfl) ?_
   refine TriL.c1 rfl (op_pickf (ltb rfl) rfl rfl rfl) ?_
   refine TriL.c1 rfl (op_as (ltb rfl) rfl) ?_
   refine TriL.nil (Tri.ret ?_)
   exact ⟨.inr rfl, (ResOK.r1 rfl (.tmp rfl .nil)).cast (by exact congrArg AV.bool (Bool.eq_iff_iff.2 (by simp [isLet] at *; omega))), rfl⟩
theorem digit_pure (c : UInt8) : Pure Tryz.prog 124 [.int .u8 (c.toNat : Int)] (.bool (isDig c)) := by
 refine Pure.of_tri Tryz.func124 rfl rfl (ltb rfl) fun H => ?_
 refine Tri.seq (Tri.region ?_)
 refine TriL.c1 rfl (op_as (ltb rfl) rfl) ?_
 refine TriL.nil (Tri.seq (Tri.region ?_))
 refine TriL.c1 rfl (op_mv (ltb rfl) rfl) ?_
 refine TriL.c1 rfl (op_bin (ltb rfl) rfl rfl rfl) ?_
 refine TriL.c1 rfl (op_mv (ltb rfl) rfl) ?_
 refine TriL.split (d := 5) rfl (fun hg1 => ?_) (fun hg1 => ?_)
 ·refine TriL.g1 rfl (ltb rfl) rfl hg1 (op_mv (ltb rfl) rfl) ?_
  refine TriL.g1 rfl (ltb rfl) rfl hg1 (op_bin (ltb rfl) rfl rfl rfl) ?_
  refine TriL.c1 rfl (op_pickt (ltb rfl) rfl hg1 rfl) ?_
  refine TriL.c1 rfl (op_as (ltb rfl) rfl) ?_
  refine TriL.nil (Tri.ret ?_)
  exact ⟨.inr rfl, (ResOK.r1 rfl (.tmp rfl .nil)).cast (by exact congrArg AV.bool (Bool.eq_iff_iff.2 (by simp [isDig] at *; omega))), rfl⟩
 ·iterate 2 (refine TriL.skipu rfl rfl (ltb rfl) (ltb rfl) rfl hg1 ?_)
  refine TriL.c1 rfl (op_pickf (ltb rfl) rfl hg1 rfl) ?_
  refine TriL.c1 rfl (op_as (ltb rfl) rfl) ?_
  refine TriL.nil (Tri.ret ?_)
  exact ⟨.inr rfl, (ResOK.r1 rfl (.tmp rfl .nil)).cast (by exact congrArg AV.bool (Bool.eq_iff_iff.2 (by simp [isDig] at *; omega))), rfl⟩
theorem nonl_pure (c : UInt8) : Pure Tryz.prog 56 [.int .u8 (c.toNat : Int)] (.bool (noNl c)) := by
 refine Pure.of_tri Tryz.func56 rfl rfl (ltb rfl) fun H => ?_
 refine Tri.seq (Tri.region ?_)
 refine TriL.c1 rfl (op_as (ltb rfl) rfl) ?_
 refine TriL.nil (Tri.seq (Tri.region ?_))
 refine TriL.c1 rfl (op_mv (ltb rfl) rfl) ?_
 refine TriL.c1 rfl (op_bin (ltb rfl) rfl rfl rfl) ?_
 refine TriL.c1 rfl (op_as (ltb rfl) rfl) ?_
 refine TriL.nil (Tri.ret ?_)
 exact ⟨.inr rfl, (ResOK.r1 rfl (.tmp rfl .nil)).cast (by exact congrArg AV.bool (Bool.eq_iff_iff.2 (by simp [noNl] at *; omega))), rfl⟩
theorem rletter_pure (c : UInt8) : Pure Tryz.prog 70 [.int .u8 (c.toNat : Int)] (.bool (isLet c)) := by
 refine Pure.of_tri Tryz.func70 rfl rfl (ltb rfl) fun H => ?_
 refine Tri.seq (Tri.region ?_)
 refine TriL.c1 rfl (op_as (ltb rfl) rfl) ?_
 refine TriL.nil (Tri.seq (Tri.region ?_))
 refine TriL.c1 rfl (op_mv (ltb rfl) rfl) ?_
 refine TriL.c1 rfl (op_bin (ltb rfl) rfl rfl rfl) ?_
 refine TriL.c1 rfl (op_mv (ltb rfl) rfl) ?_
 refine TriL.split (d := 5) rfl (fun hg1 => ?_) (fun hg1 => ?_)
 ·refine TriL.g1 rfl (ltb rfl) rfl hg1 (op_mv (ltb rfl) rfl) ?_
  refine TriL.g1 rfl (ltb rfl) rfl hg1 (op_bin (ltb rfl) rfl rfl rfl) ?_
  refine TriL.c1 rfl (op_pickt (ltb rfl) rfl hg1 rfl) ?_
  refine TriL.c1 rfl (op_mv (ltb rfl) rfl) ?_
  refine TriL.split (d := 9) rfl (fun hg2 => ?_) (fun hg2 => ?_)
  ·iterate 3 (refine TriL.skipu rfl rfl (ltb rfl) (ltb rfl) rfl hg2 ?_)
   iterate 2 (refine TriL.skipg rfl rfl (ltb rfl) (ltb rfl) rfl ?_)
   refine TriL.skipu rfl rfl (ltb rfl) (ltb rfl) rfl hg2 ?_
   refine TriL.c1 rfl (op_pickt (ltb rfl) rfl hg2 rfl) ?_
   refine TriL.c1 rfl (op_as (ltb rfl) rfl) ?_
   refine TriL.nil (Tri.ret ?_)
   exact ⟨.inr rfl, (ResOK.r1 rfl (.tmp rfl .nil)).cast (by exact congrArg AV.bool (Bool.eq_iff_iff.2 (by simp [isLet] at *; omega))), rfl⟩
  ·refine TriL.g1 rfl (ltb rfl) rfl hg2 (op_mv (ltb rfl) rfl) ?_
   refine TriL.g1 rfl (ltb rfl) rfl hg2 (op_bin (ltb rfl) rfl rfl rfl) ?_
   refine TriL.g1 rfl (ltb rfl) rfl hg2 (op_mv (ltb rfl) rfl) ?_
   refine TriL.split (d := 12) rfl (fun hg3 => ?_) (fun hg3 => ?_)
   ·refine TriL.g1 rfl (ltb rfl) rfl hg3 (op_mv (ltb rfl) rfl) ?_
    refine TriL.g1 rfl (ltb rfl) rfl hg3 (op_bin (ltb rfl) rfl rfl rfl) ?_
    refine TriL.g1 rfl (ltb rfl) rfl hg2 (op_pickt (ltb rfl) rfl hg3 rfl) ?_
    refine TriL.c1 rfl (op_pickf (ltb rfl) rfl hg2 rfl) ?_
    refine TriL.c1 rfl (op_as (ltb rfl) rfl) ?_
    refine TriL.nil (Tri.ret ?_)
    exact ⟨.inr rfl, (ResOK.r1 rfl (.tmp rfl .nil)).cast (by exact congrArg AV.bool (Bool.eq_iff_iff.2 (by simp [isLet] at *; omega))), rfl⟩
   ·iterate 2 (refine TriL.skipu rfl rfl (ltb rfl) (ltb rfl) rfl hg3 ?_)
    refine TriL.g1 rfl (ltb rfl) rfl hg2 (op_pickf (ltb rfl) rfl hg3 rfl) ?_
    refine TriL.c1 rfl (op_pickf (ltb rfl) rfl hg2 rfl) ?_
    refine TriL.c1 rfl (op_as (ltb rfl) rfl) ?_
    refine TriL.nil (Tri.ret ?_)
    exact ⟨.inr rfl, (ResOK.r1 rfl (.tmp rfl .nil)).cast (by exact congrArg AV.bool (Bool.eq_iff_iff.2 (by simp [isLet] at *; omega))), rfl⟩
 ·iterate 2 (refine TriL.skipu rfl rfl (ltb rfl) (ltb rfl) rfl hg1 ?_)
  refine TriL.c1 rfl (op_pickf (ltb rfl) rfl hg1 rfl) ?_
  refine TriL.c1 rfl (op_mv (ltb rfl) rfl) ?_
  refine TriL.g1 rfl (ltb rfl) rfl rfl (op_mv (ltb rfl) rfl) ?_
  refine TriL.g1 rfl (ltb rfl) rfl rfl (op_bin (ltb rfl) rfl rfl rfl) ?_
  refine TriL.g1 rfl (ltb rfl) rfl rfl (op_mv (ltb rfl) rfl) ?_
  refine TriL.split (d := 12) rfl (fun hg4 => ?_) (fun hg4 => ?_)
  ·refine TriL.g1 rfl (ltb rfl) rfl hg4 (op_mv (ltb rfl) rfl) ?_
   refine TriL.g1 rfl (ltb rfl) rfl hg4 (op_bin (ltb rfl) rfl rfl rfl) ?_
   refine TriL.g1 rfl (ltb rfl) rfl rfl (op_pickt (ltb rfl) rfl hg4 rfl) ?_
   refine TriL.c1 rfl (op_pickf (ltb rfl) rfl rfl rfl) ?_
   refine TriL.c1 rfl (op_as (ltb rfl) rfl) ?_
   refine TriL.nil (Tri.ret ?_)
   exact ⟨.inr rfl, (ResOK.r1 rfl (.tmp rfl .nil)).cast (by exact congrArg AV.bool (Bool.eq_iff_iff.2 (by simp [isLet] at *; omega))), rfl⟩
  ·iterate 2 (refine TriL.skipu rfl rfl (ltb rfl) (ltb rfl) rfl hg4 ?_)
   refine TriL.g1 rfl (ltb rfl) rfl rfl (op_pickf (ltb rfl) rfl hg4 rfl) ?_
   refine TriL.c1 rfl (op_pickf (ltb rfl) rfl rfl rfl) ?_
   refine TriL.c1 rfl (op_as (ltb rfl) rfl) ?_
   refine TriL.nil (Tri.ret ?_)
   exact ⟨.inr rfl, (ResOK.r1 rfl (.tmp rfl .nil)).cast (by exact congrArg AV.bool (Bool.eq_iff_iff.2 (by simp [isLet] at *; omega))), rfl⟩
theorem rdigit_pure (c : UInt8) : Pure Tryz.prog 119 [.int .u8 (c.toNat : Int)] (.bool (isDig c)) := by
 refine Pure.of_tri Tryz.func119 rfl rfl (ltb rfl) fun H => ?_
 refine Tri.seq (Tri.region ?_)
 refine TriL.c1 rfl (op_as (ltb rfl) rfl) ?_
 refine TriL.nil (Tri.seq (Tri.region ?_))
 refine TriL.c1 rfl (op_mv (ltb rfl) rfl) ?_
 refine TriL.c1 rfl (op_bin (ltb rfl) rfl rfl rfl) ?_
 refine TriL.c1 rfl (op_mv (ltb rfl) rfl) ?_
 refine TriL.split (d := 5) rfl (fun hg1 => ?_) (fun hg1 => ?_)
 ·refine TriL.g1 rfl (ltb rfl) rfl hg1 (op_mv (ltb rfl) rfl) ?_
  refine TriL.g1 rfl (ltb rfl) rfl hg1 (op_bin (ltb rfl) rfl rfl rfl) ?_
  refine TriL.c1 rfl (op_pickt (ltb rfl) rfl hg1 rfl) ?_
  refine TriL.c1 rfl (op_as (ltb rfl) rfl) ?_
  refine TriL.nil (Tri.ret ?_)
  exact ⟨.inr rfl, (ResOK.r1 rfl (.tmp rfl .nil)).cast (by exact congrArg AV.bool (Bool.eq_iff_iff.2 (by simp [isDig] at *; omega))), rfl⟩
 ·iterate 2 (refine TriL.skipu rfl rfl (ltb rfl) (ltb rfl) rfl hg1 ?_)
  refine TriL.c1 rfl (op_pickf (ltb rfl) rfl hg1 rfl) ?_
  refine TriL.c1 rfl (op_as (ltb rfl) rfl) ?_
  refine TriL.nil (Tri.ret ?_)
  exact ⟨.inr rfl, (ResOK.r1 rfl (.tmp rfl .nil)).cast (by exact congrArg AV.bool (Bool.eq_iff_iff.2 (by simp [isDig] at *; omega))), rfl⟩
theorem rmark_pure (c : UInt8) : Pure Tryz.prog 85 [.int .u8 (c.toNat : Int)] (.bool (isMark c)) := by
 refine Pure.of_tri Tryz.func85 rfl rfl (ltb rfl) fun H => ?_
 refine Tri.seq (Tri.region ?_)
 refine TriL.c1 rfl (op_as (ltb rfl) rfl) ?_
 refine TriL.nil (Tri.seq (Tri.region ?_))
 refine TriL.c1 rfl (op_mv (ltb rfl) rfl) ?_
 refine TriL.c1 rfl (op_bin (ltb rfl) rfl rfl rfl) ?_
 refine TriL.c1 rfl (op_mv (ltb rfl) rfl) ?_
 refine TriL.split (d := 5) rfl (fun hg1 => ?_) (fun hg1 => ?_)
 ·iterate 2 (refine TriL.skipu rfl rfl (ltb rfl) (ltb rfl) rfl hg1 ?_)
  refine TriL.c1 rfl (op_pickt (ltb rfl) rfl hg1 rfl) ?_
  refine TriL.c1 rfl (op_mv (ltb rfl) rfl) ?_
  iterate 2 (refine TriL.skipu rfl rfl (ltb rfl) (ltb rfl) rfl rfl ?_)
  refine TriL.c1 rfl (op_pickt (ltb rfl) rfl rfl rfl) ?_
  refine TriL.c1 rfl (op_mv (ltb rfl) rfl) ?_
  iterate 2 (refine TriL.skipu rfl rfl (ltb rfl) (ltb rfl) rfl rfl ?_)
  refine TriL.c1 rfl (op_pickt (ltb rfl) rfl rfl rfl) ?_
  refine TriL.c1 rfl (op_mv (ltb rfl) rfl) ?_
  iterate 2 (refine TriL.skipu rfl rfl (ltb rfl) (ltb rfl) rfl rfl ?_)
  refine TriL.c1 rfl (op_pickt (ltb rfl) rfl rfl rfl) ?_
  refine TriL.c1 rfl (op_mv (ltb rfl) rfl) ?_
  iterate 2 (refine TriL.skipu rfl rfl (ltb rfl) (ltb rfl) rfl rfl ?_)
  refine TriL.c1 rfl (op_pickt (ltb rfl) rfl rfl rfl) ?_
  refine TriL.c1 rfl (op_mv (ltb rfl) rfl) ?_
  iterate 2 (refine TriL.skipu rfl rfl (ltb rfl) (ltb rfl) rfl rfl ?_)
  refine TriL.c1 rfl (op_pickt (ltb rfl) rfl rfl rfl) ?_
  refine TriL.c1 rfl (op_mv (ltb rfl) rfl) ?_
  iterate 2 (refine TriL.skipu rfl rfl (ltb rfl) (ltb rfl) rfl rfl ?_)
  refine TriL.c1 rfl (op_pickt (ltb rfl) rfl rfl rfl) ?_
  refine TriL.c1 rfl (op_as (ltb rfl) rfl) ?_
  refine TriL.nil (Tri.ret ?_)
  exact ⟨.inr rfl, (ResOK.r1 rfl (.tmp rfl .nil)).cast (by exact congrArg AV.bool (Bool.eq_iff_iff.2 (by simp [isMark] at *; omega))), rfl⟩
 ·refine TriL.g1 rfl (ltb rfl) rfl hg1 (op_mv (ltb rfl) rfl) ?_
  refine TriL.g1 rfl (ltb rfl) rfl hg1 (op_bin (ltb rfl) rfl rfl rfl) ?_
  refine TriL.c1 rfl (op_pickf (ltb rfl) rfl hg1 rfl) ?_
  refine TriL.c1 rfl (op_mv (ltb rfl) rfl) ?_
  refine TriL.split (d := 9) rfl (fun hg2 => ?_) (fun hg2 => ?_)
  ·iterate 2 (refine TriL.skipu rfl rfl (ltb rfl) (ltb rfl) rfl hg2 ?_)
   refine TriL.c1 rfl (op_pickt (ltb rfl) rfl hg2 rfl) ?_
   refine TriL.c1 rfl (op_mv (ltb rfl) rfl) ?_
   iterate 2 (refine TriL.skipu rfl rfl (ltb rfl) (ltb rfl) rfl rfl ?_)
   refine TriL.c1 rfl (op_pickt (ltb rfl) rfl rfl rfl) ?_
   refine TriL.c1 rfl (op_mv (ltb rfl) rfl) ?_
   iterate 2 (refine TriL.skipu rfl rfl (ltb rfl) (ltb rfl) rfl rfl ?_)
   refine TriL.c1 rfl (op_pickt (ltb rfl) rfl rfl rfl) ?_
   refine TriL.c1 rfl (op_mv (ltb rfl) rfl) ?_
   iterate 2 (refine TriL.skipu rfl rfl (ltb rfl) (ltb rfl) rfl rfl ?_)
   refine TriL.c1 rfl (op_pickt (ltb rfl) rfl rfl rfl) ?_
   refine TriL.c1 rfl (op_mv (ltb rfl) rfl) ?_
   iterate 2 (refine TriL.skipu rfl rfl (ltb rfl) (ltb rfl) rfl rfl ?_)
   refine TriL.c1 rfl (op_pickt (ltb rfl) rfl rfl rfl) ?_
   refine TriL.c1 rfl (op_mv (ltb rfl) rfl) ?_
   iterate 2 (refine TriL.skipu rfl rfl (ltb rfl) (ltb rfl) rfl rfl ?_)
   refine TriL.c1 rfl (op_pickt (ltb rfl) rfl rfl rfl) ?_
   refine TriL.c1 rfl (op_as (ltb rfl) rfl) ?_
   refine TriL.nil (Tri.ret ?_)
   exact ⟨.inr rfl, (ResOK.r1 rfl (.tmp rfl .nil)).cast (by exact congrArg AV.bool (Bool.eq_iff_iff.2 (by simp [isMark] at *; omega))), rfl⟩
  ·refine TriL.g1 rfl (ltb rfl) rfl hg2 (op_mv (ltb rfl) rfl) ?_
   refine TriL.g1 rfl (ltb rfl) rfl hg2 (op_bin (ltb rfl) rfl rfl rfl) ?_
   refine TriL.c1 rfl (op_pickf (ltb rfl) rfl hg2 rfl) ?_
   refine TriL.c1 rfl (op_mv (ltb rfl) rfl) ?_
   refine TriL.split (d := 13) rfl (fun hg3 => ?_) (fun hg3 => ?_)
   ·iterate 2 (refine TriL.skipu rfl rfl (ltb rfl) (ltb rfl) rfl hg3 ?_)
    refine TriL.c1 rfl (op_pickt (ltb rfl) rfl hg3 rfl) ?_
    refine TriL.c1 rfl (op_mv (ltb rfl) rfl) ?_
    iterate 2 (refine TriL.skipu rfl rfl (ltb rfl) (ltb rfl) rfl rfl ?_)
    refine TriL.c1 rfl (op_pickt (ltb rfl) rfl rfl rfl) ?_
    refine TriL.c1 rfl (op_mv (ltb rfl) rfl) ?_
    iterate 2 (refine TriL.skipu rfl rfl (ltb rfl) (ltb rfl) rfl rfl ?_)
    refine TriL.c1 rfl (op_pickt (ltb rfl) rfl rfl rfl) ?_
    refine TriL.c1 rfl (op_mv (ltb rfl) rfl) ?_
    iterate 2 (refine TriL.skipu rfl rfl (ltb rfl) (ltb rfl) rfl rfl ?_)
    refine TriL.c1 rfl (op_pickt (ltb rfl) rfl rfl rfl) ?_
    refine TriL.c1 rfl (op_mv (ltb rfl) rfl) ?_
    iterate 2 (refine TriL.skipu rfl rfl (ltb rfl) (ltb rfl) rfl rfl ?_)
    refine TriL.c1 rfl (op_pickt (ltb rfl) rfl rfl rfl) ?_
    refine TriL.c1 rfl (op_as (ltb rfl) rfl) ?_
    refine TriL.nil (Tri.ret ?_)
    exact ⟨.inr rfl, (ResOK.r1 rfl (.tmp rfl .nil)).cast (by exact congrArg AV.bool (Bool.eq_iff_iff.2 (by simp [isMark] at *; omega))), rfl⟩
   ·refine TriL.g1 rfl (ltb rfl) rfl hg3 (op_mv (ltb rfl) rfl) ?_
    refine TriL.g1 rfl (ltb rfl) rfl hg3 (op_bin (ltb rfl) rfl rfl rfl) ?_
    refine TriL.c1 rfl (op_pickf (ltb rfl) rfl hg3 rfl) ?_
    refine TriL.c1 rfl (op_mv (ltb rfl) rfl) ?_
    refine TriL.split (d := 17) rfl (fun hg4 => ?_) (fun hg4 => ?_)
    ·iterate 2 (refine TriL.skipu rfl rfl (ltb rfl) (ltb rfl) rfl hg4 ?_)
     refine TriL.c1 rfl (op_pickt (ltb rfl) rfl hg4 rfl) ?_
     refine TriL.c1 rfl (op_mv (ltb rfl) rfl) ?_
     iterate 2 (refine TriL.skipu rfl rfl (ltb rfl) (ltb rfl) rfl rfl ?_)
     refine TriL.c1 rfl (op_pickt (ltb rfl) rfl rfl rfl) ?_
     refine TriL.c1 rfl (op_mv (ltb rfl) rfl) ?_
     iterate 2 (refine TriL.skipu rfl rfl (ltb rfl) (ltb rfl) rfl rfl ?_)
     refine TriL.c1 rfl (op_pickt (ltb rfl) rfl rfl rfl) ?_
     refine TriL.c1 rfl (op_mv (ltb rfl) rfl) ?_
     iterate 2 (refine TriL.skipu rfl rfl (ltb rfl) (ltb rfl) rfl rfl ?_)
     refine TriL.c1 rfl (op_pickt (ltb rfl) rfl rfl rfl) ?_
     refine TriL.c1 rfl (op_as (ltb rfl) rfl) ?_
     refine TriL.nil (Tri.ret ?_)
     exact ⟨.inr rfl, (ResOK.r1 rfl (.tmp rfl .nil)).cast (by exact congrArg AV.bool (Bool.eq_iff_iff.2 (by simp [isMark] at *; omega))), rfl⟩
    ·refine TriL.g1 rfl (ltb rfl) rfl hg4 (op_mv (ltb rfl) rfl) ?_
     refine TriL.g1 rfl (ltb rfl) rfl hg4 (op_bin (ltb rfl) rfl rfl rfl) ?_
     refine TriL.c1 rfl (op_pickf (ltb rfl) rfl hg4 rfl) ?_
     refine TriL.c1 rfl (op_mv (ltb rfl) rfl) ?_
     refine TriL.split (d := 21) rfl (fun hg5 => ?_) (fun hg5 => ?_)
     ·iterate 2 (refine TriL.skipu rfl rfl (ltb rfl) (ltb rfl) rfl hg5 ?_)
      refine TriL.c1 rfl (op_pickt (ltb rfl) rfl hg5 rfl) ?_
      refine TriL.c1 rfl (op_mv (ltb rfl) rfl) ?_
      iterate 2 (refine TriL.skipu rfl rfl (ltb rfl) (ltb rfl) rfl rfl ?_)
      refine TriL.c1 rfl (op_pickt (ltb rfl) rfl rfl rfl) ?_
      refine TriL.c1 rfl (op_mv (ltb rfl) rfl) ?_
      iterate 2 (refine TriL.skipu rfl rfl (ltb rfl) (ltb rfl) rfl rfl ?_)
      refine TriL.c1 rfl (op_pickt (ltb rfl) rfl rfl rfl) ?_
      refine TriL.c1 rfl (op_as (ltb rfl) rfl) ?_
      refine TriL.nil (Tri.ret ?_)
      exact ⟨.inr rfl, (ResOK.r1 rfl (.tmp rfl .nil)).cast (by exact congrArg AV.bool (Bool.eq_iff_iff.2 (by simp [isMark] at *; omega))), rfl⟩
     ·refine TriL.g1 rfl (ltb rfl) rfl hg5 (op_mv (ltb rfl) rfl) ?_
      refine TriL.g1 rfl (ltb rfl) rfl hg5 (op_bin (ltb rfl) rfl rfl rfl) ?_
      refine TriL.c1 rfl (op_pickf (ltb rfl) rfl hg5 rfl) ?_
      refine TriL.c1 rfl (op_mv (ltb rfl) rfl) ?_
      refine TriL.split (d := 25) rfl (fun hg6 => ?_) (fun hg6 => ?_)
      ·iterate 2 (refine TriL.skipu rfl rfl (ltb rfl) (ltb rfl) rfl hg6 ?_)
       refine TriL.c1 rfl (op_pickt (ltb rfl) rfl hg6 rfl) ?_
       refine TriL.c1 rfl (op_mv (ltb rfl) rfl) ?_
       iterate 2 (refine TriL.skipu rfl rfl (ltb rfl) (ltb rfl) rfl rfl ?_)
       refine TriL.c1 rfl (op_pickt (ltb rfl) rfl rfl rfl) ?_
       refine TriL.c1 rfl (op_as (ltb rfl) rfl) ?_
       refine TriL.nil (Tri.ret ?_)
       exact ⟨.inr rfl, (ResOK.r1 rfl (.tmp rfl .nil)).cast (by exact congrArg AV.bool (Bool.eq_iff_iff.2 (by simp [isMark] at *; omega))), rfl⟩
      ·refine TriL.g1 rfl (ltb rfl) rfl hg6 (op_mv (ltb rfl) rfl) ?_
       refine TriL.g1 rfl (ltb rfl) rfl hg6 (op_bin (ltb rfl) rfl rfl rfl) ?_
       refine TriL.c1 rfl (op_pickf (ltb rfl) rfl hg6 rfl) ?_
       refine TriL.c1 rfl (op_mv (ltb rfl) rfl) ?_
       refine TriL.split (d := 29) rfl (fun hg7 => ?_) (fun hg7 => ?_)
       ·iterate 2 (refine TriL.skipu rfl rfl (ltb rfl) (ltb rfl) rfl hg7 ?_)
        refine TriL.c1 rfl (op_pickt (ltb rfl) rfl hg7 rfl) ?_
        refine TriL.c1 rfl (op_as (ltb rfl) rfl) ?_
        refine TriL.nil (Tri.ret ?_)
        exact ⟨.inr rfl, (ResOK.r1 rfl (.tmp rfl .nil)).cast (by exact congrArg AV.bool (Bool.eq_iff_iff.2 (by simp [isMark] at *; omega))), rfl⟩
       ·refine TriL.g1 rfl (ltb rfl) rfl hg7 (op_mv (ltb rfl) rfl) ?_
        refine TriL.g1 rfl (ltb rfl) rfl hg7 (op_bin (ltb rfl) rfl rfl rfl) ?_
        refine TriL.c1 rfl (op_pickf (ltb rfl) rfl hg7 rfl) ?_
        refine TriL.c1 rfl (op_as (ltb rfl) rfl) ?_
        refine TriL.nil (Tri.ret ?_)
        exact ⟨.inr rfl, (ResOK.r1 rfl (.tmp rfl .nil)).cast (by exact congrArg AV.bool (Bool.eq_iff_iff.2 (by simp [isMark] at *; omega))), rfl⟩
theorem wd_pure (c : UInt8) : Pure Tryz.prog 123 [.int .u8 (c.toNat : Int)] (.bool (isWd c)) := by
 refine Pure.of_tri Tryz.func123 rfl rfl (ltb rfl) fun H => ?_
 refine Tri.seq (Tri.region ?_)
 refine TriL.c1 rfl (op_as (ltb rfl) rfl) ?_
 refine TriL.nil (Tri.seq (Tri.region ?_))
 refine TriL.c1 rfl (op_mv (ltb rfl) rfl) ?_
 refine TriL.c1 rfl (op_call (ltb rfl) fn122_q rfl (letter_pure c)) ?_
 refine TriL.c1 rfl (op_mv (ltb rfl) rfl) ?_
 refine TriL.split (d := 5) rfl (fun hg1 => ?_) (fun hg1 => ?_)
 ·iterate 2 (refine TriL.skipu rfl rfl (ltb rfl) (ltb rfl) rfl hg1 ?_)
  refine TriL.c1 rfl (op_pickt (ltb rfl) rfl hg1 rfl) ?_
  refine TriL.c1 rfl (op_mv (ltb rfl) rfl) ?_
  iterate 2 (refine TriL.skipu rfl rfl (ltb rfl) (ltb rfl) rfl rfl ?_)
  refine TriL.c1 rfl (op_pickt (ltb rfl) rfl rfl rfl) ?_
  refine TriL.c1 rfl (op_as (ltb rfl) rfl) ?_
  refine TriL.nil (Tri.ret ?_)
  exact ⟨.inr rfl, (ResOK.r1 rfl (.tmp rfl .nil)).cast (by exact congrArg AV.bool (Bool.eq_iff_iff.2 (by simp [isWd] at *; simp_all <;> omega))), rfl⟩
 ·refine TriL.g1 rfl (ltb rfl) rfl hg1 (op_mv (ltb rfl) rfl) ?_
  refine TriL.g1 rfl (ltb rfl) rfl hg1 (op_call (ltb rfl) fn124_q rfl (digit_pure c)) ?_
  refine TriL.c1 rfl (op_pickf (ltb rfl) rfl hg1 rfl) ?_
  refine TriL.c1 rfl (op_mv (ltb rfl) rfl) ?_
  refine TriL.split (d := 9) rfl (fun hg2 => ?_) (fun hg2 => ?_)
  ·iterate 2 (refine TriL.skipu rfl rfl (ltb rfl) (ltb rfl) rfl hg2 ?_)
   refine TriL.c1 rfl (op_pickt (ltb rfl) rfl hg2 rfl) ?_
   refine TriL.c1 rfl (op_as (ltb rfl) rfl) ?_
   refine TriL.nil (Tri.ret ?_)
   exact ⟨.inr rfl, (ResOK.r1 rfl (.tmp rfl .nil)).cast (by exact congrArg AV.bool (Bool.eq_iff_iff.2 (by simp [isWd] at *; simp_all <;> omega))), rfl⟩
  ·refine TriL.g1 rfl (ltb rfl) rfl hg2 (op_mv (ltb rfl) rfl) ?_
   refine TriL.g1 rfl (ltb rfl) rfl hg2 (op_bin (ltb rfl) rfl rfl rfl) ?_
   refine TriL.c1 rfl (op_pickf (ltb rfl) rfl hg2 rfl) ?_
   refine TriL.c1 rfl (op_as (ltb rfl) rfl) ?_
   refine TriL.nil (Tri.ret ?_)
   exact ⟨.inr rfl, (ResOK.r1 rfl (.tmp rfl .nil)).cast (by exact congrArg AV.bool (Bool.eq_iff_iff.2 (by simp [isWd] at *; simp_all <;> omega))), rfl⟩
/- lex: how many bytes are such; a word; a mark; a number's digits. -/
theorem fn119_q : isFn Tryz.prog 119 = true := by kernel_rfl
theorem tup2 {a b c d : AV} (h : a = c) (k : b = d) : AV.tup [a, b] = AV.tup [c, d] := by rw [h, k]
def Tk.av (t : Tk) : AV := .agg [.int .i64 t.k, .str t.s, .int .u64 t.n, .bool t.neg, .int .i64 t.pos]
def tkn (x : Tk × Nat) : AV := .tup [x.1.av, .int .i64 x.2]
def StSp (H : Hp) (s : List UInt8) (f : FuncId) (j : Int) : St := [(.h, .hp H), (.s 0, .sv (.v (.str s))), (.s 1, .sv (.v (.fn f []))), (.s 5, .sv (.v (.int .i64 j)))]
theorem ixc {s : List UInt8} {i : Nat} {j : Int} {c : UInt8} (hj : j = i) (h : s[i]? = some c) : s[j.toNat]? = some c := by subst hj; simpa using h
theorem span_pure (s : List UInt8) (f : FuncId) (p : UInt8 → Bool) (hf : ∀ c : UInt8, Pure Tryz.prog f [.int .u8 (c.toNat : Int)] (.bool (p c))) (hfn : isFn Tryz.prog f = true) (hs : s.length ≤ 1073741824) :
  Pure Tryz.prog 55 [.str s, .fn f []] (.int .i64 (spn p s : Nat)) := by
 refine Pure.of_tri Tryz.func55 rfl rfl (ltb rfl) fun H => ?_
 refine Tri.seq (Tri.region ?_)
 refine TriL.c1 rfl (op_as (ltb rfl) rfl) ?_
 refine TriL.nil (Tri.seq (Tri.region ?_))
 refine TriL.c1 rfl (op_as (ltb rfl) rfl) ?_
 refine TriL.kept (Kept.keep [.h, .s 0, .s 1, .s 5] rfl (by decide) (Kept.now ?_))
 refine Tri.seq (Tri.blk ?_)
 -- LOOP 1: KEEP
 refine Tri.loop (fun q w => ∃ (i : Nat) (j : Int), w = StSp H s f j ∧ j = i ∧ i ≤ spn p s ∧ q = s.length - i) ?_ (n := s.length) ⟨0, 0, rfl, rfl, Nat.zero_le _, rfl⟩
 rintro q w ⟨i, j, rfl, hj, hi, rfl⟩
 have hsl := spn_le p s
 refine Tri.seq (Tri.seq (Tri.region ?_))
 iterate 2 (refine TriL.c1 rfl (op_mv (ltb rfl) rfl) ?_)
 refine TriL.c1 rfl (op_lens (ltb rfl) un9_q rfl) ?_
 refine TriL.c1 rfl (op_bin (ltb rfl) rfl rfl rfl) ?_
 refine TriL.c1 rfl (op_mv (ltb rfl) rfl) ?_
 refine TriL.split (d := 10) rfl (fun hg1 => ?_) (fun hg1 => ?_)
 ·have hlt : i < s.length := by have := of_decide_eq_true hg1; omega
  obtain ⟨c, hc⟩ : ∃ c, s[i]? = some c := ⟨s[i], List.getElem?_eq_getElem hlt⟩
  have hd := spn_drop p s i c hi hc
  iterate 3 (refine TriL.g1 rfl (ltb rfl) rfl hg1 (op_mv (ltb rfl) rfl) ?_)
  refine TriL.g1 rfl (ltb rfl) rfl hg1 (op_ixs (ltb rfl) un9_q rfl rfl (by omega) (ixc hj hc)) ?_
  refine TriL.g1 rfl (ltb rfl) rfl hg1 (op_callc (ltb rfl) hfn rfl rfl (hf c)) ?_
  refine TriL.c1 rfl (op_pickt (ltb rfl) rfl hg1 rfl) ?_
  refine TriL.nil ?_
  refine Tri.cond rfl (fun hc2 => ?_) (fun hc2 => ?_)
  ·refine Tri.skip (Tri.blk (Tri.region ?_))
   refine TriL.c1 rfl (op_mv (ltb rfl) rfl) ?_
   refine TriL.c1 rfl (op_bin (ltb rfl) rfl rfl rfl) ?_
   refine TriL.c1 rfl (op_as (ltb rfl) rfl) ?_
   refine TriL.kept (Kept.keep [.h, .s 0, .s 1, .s 5] rfl (by decide) (Kept.now ?_))
   refine ⟨s.length - (i + 1), by omega, i + 1, IntKind.i64.wrap (j + 1), rfl, by rw [hj, wr64] <;> omega, hd.1 hc2, rfl⟩
  ·refine Tri.exit (Tri.seq (Tri.region ?_))
   refine TriL.c1 rfl (op_mv (ltb rfl) rfl) ?_
   refine TriL.c1 rfl (op_as (ltb rfl) rfl) ?_
   refine TriL.nil (Tri.ret ?_)
   exact ⟨.inr rfl, (ResOK.r1 rfl (.tmp rfl .nil)).cast (by rw [hd.2 hc2, hj]), rfl⟩
 ·iterate 5 (refine TriL.skipu rfl rfl (ltb rfl) (ltb rfl) rfl hg1 ?_)
  refine TriL.c1 rfl (op_pickf (ltb rfl) rfl hg1 rfl) ?_
  refine TriL.nil ?_
  refine Tri.condF rfl rfl ?_
  refine Tri.exit (Tri.seq (Tri.region ?_))
  refine TriL.c1 rfl (op_mv (ltb rfl) rfl) ?_
  refine TriL.c1 rfl (op_as (ltb rfl) rfl) ?_
  refine TriL.nil (Tri.ret ?_)
  exact ⟨.inr rfl, (ResOK.r1 rfl (.tmp rfl .nil)).cast (by rw [hj]; have := of_decide_eq_false hg1; rw [show spn p s = i by omega]), rfl⟩
/-- how long the name is that a text begins with -/
def wordN (s : List UInt8) : Nat := (wordT s).2
def StRw (H : Hp) (s : List UInt8) (j : Int) : St := [(.h, .hp H), (.s 0, .sv (.v (.str s))), (.s 3, .sv (.v (.int .i64 j)))]
theorem wordN_step {s : List UInt8} {i : Nat} {c : UInt8} (hi : i ≤ wordN s) (hc : s[i]? = some c) : (isLet c = true → i + 1 ≤ wordN s) ∧ (isLet c = false → 0 < i → isDig c = true → i + 1 ≤ wordN s) ∧ (isLet c = false → 0 < i → c.toNat = 95 → i + 1 ≤ wordN s) ∧
  (isLet c = false → i = 0 → wordN s = i) ∧ (isLet c = false → isDig c = false → c.toNat ≠ 95 → wordN s = i) := by
 cases s with
 | nil => simp at hc
 | cons d r =>
  simp only [wordN, wordT] at hi ⊢
  cases i with
  | zero =>
   simp at hc; subst hc
   by_cases h : isLet d = true
   ·have hw : isWd d = true := by simp [isWd, h]
    simp [h, spn, hw]
   ·simp at h; simp [h]
  | succ i =>
   by_cases hd : isLet d = true
   ·rw [if_pos hd] at hi ⊢
    obtain ⟨h1, h2⟩ := spn_drop isWd (d :: r) (i + 1) c hi hc
    refine ⟨fun e => h1 (by simp [isWd, e]), fun _ _ e => h1 (by simp [isWd, e]), fun _ _ e => h1 (by simp [isWd, e]), fun _ e => by omega, fun e1 e2 e3 => h2 (by simp [isWd, e1, e2, e3])⟩
   ·rw [if_neg hd] at hi; simp at hi
theorem wordN_le (s : List UInt8) : wordN s ≤ s.length := by
 cases s with
 | nil => simp [wordN, wordT]
 | cons d r =>
  simp only [wordN, wordT]
  split
  ·exact spn_le _ _
  ·simp
theorem rword_pure (s : List UInt8) (hs : s.length ≤ 1073741824) : Pure Tryz.prog 82 [.str s] (.int .i64 (wordN s : Nat)) := by
 refine Pure.of_tri Tryz.func82 rfl rfl (ltb rfl) fun H => ?_
 refine Tri.seq (Tri.region ?_)
 refine TriL.c1 rfl (op_as (ltb rfl) rfl) ?_
 refine TriL.nil (Tri.seq (Tri.region ?_))
 refine TriL.c1 rfl (op_as (ltb rfl) rfl) ?_
 refine TriL.kept (Kept.keep [.h, .s 0, .s 3] rfl (by decide) (Kept.now ?_))
 refine Tri.seq (Tri.blk ?_)
 -- LOOP 1: KEEP
 refine Tri.loop (fun q w => ∃ (i : Nat) (j : Int), w = StRw H s j ∧ j = i ∧ i ≤ wordN s ∧ q = s.length - i) ?_ (n := s.length) ⟨0, 0, rfl, rfl, Nat.zero_le _, rfl⟩
 rintro q w ⟨i, j, rfl, hj, hi, rfl⟩
 have hsl := wordN_le s
 refine Tri.seq (Tri.seq (Tri.region ?_))
 iterate 2 (refine TriL.c1 rfl (op_mv (ltb rfl) rfl) ?_)
 refine TriL.c1 rfl (op_lens (ltb rfl) un9_q rfl) ?_
 refine TriL.c1 rfl (op_bin (ltb rfl) rfl rfl rfl) ?_
 refine TriL.c1 rfl (op_mv (ltb rfl) rfl) ?_
 refine TriL.split (d := 8) rfl (fun hg1 => ?_) (fun hg1 => ?_)
 ·have hlt : i < s.length := by have := of_decide_eq_true hg1; omega
  obtain ⟨c, hc⟩ : ∃ c, s[i]? = some c := ⟨s[i], List.getElem?_eq_getElem hlt⟩
  obtain ⟨w1, w2, w3, w4, w5⟩ := wordN_step hi hc
  iterate 2 (refine TriL.g1 rfl (ltb rfl) rfl hg1 (op_mv (ltb rfl) rfl) ?_)
  refine TriL.g1 rfl (ltb rfl) rfl hg1 (op_ixs (ltb rfl) un9_q rfl rfl (by omega) (ixc hj hc)) ?_
  refine TriL.g1 rfl (ltb rfl) rfl hg1 (op_call (ltb rfl) fn70_q rfl (rletter_pure c)) ?_
  refine TriL.g1 rfl (ltb rfl) rfl hg1 (op_mv (ltb rfl) rfl) ?_
  refine TriL.split (d := 13) rfl (fun hg2 => ?_) (fun hg2 => ?_)
  ·iterate 3 (refine TriL.skipu rfl rfl (ltb rfl) (ltb rfl) rfl hg2 ?_)
   iterate 10 (refine TriL.skipg rfl rfl (ltb rfl) (ltb rfl) rfl ?_)
   refine TriL.skipu rfl rfl (ltb rfl) (ltb rfl) rfl hg2 ?_
   refine TriL.g1 rfl (ltb rfl) rfl hg1 (op_pickt (ltb rfl) rfl hg2 rfl) ?_
   refine TriL.c1 rfl (op_pickt (ltb rfl) rfl hg1 rfl) ?_
   refine TriL.nil ?_
   refine Tri.condT rfl rfl ?_
   refine Tri.skip (Tri.blk (Tri.region ?_))
   refine TriL.c1 rfl (op_mv (ltb rfl) rfl) ?_
   refine TriL.c1 rfl (op_bin (ltb rfl) rfl rfl rfl) ?_
   refine TriL.c1 rfl (op_as (ltb rfl) rfl) ?_
   refine TriL.kept (Kept.keep [.h, .s 0, .s 3] rfl (by decide) (Kept.now ?_))
   refine ⟨s.length - (i + 1), by omega, i + 1, IntKind.i64.wrap (j + 1), rfl, by rw [hj, wr64] <;> omega, w1 hg2, rfl⟩
  ·refine TriL.g1 rfl (ltb rfl) rfl hg2 (op_mv (ltb rfl) rfl) ?_
   refine TriL.g1 rfl (ltb rfl) rfl hg2 (op_bin (ltb rfl) rfl rfl rfl) ?_
   refine TriL.g1 rfl (ltb rfl) rfl hg2 (op_mv (ltb rfl) rfl) ?_
   refine TriL.split (d := 16) rfl (fun hg3 => ?_) (fun hg3 => ?_)
   ·iterate 2 (refine TriL.g1 rfl (ltb rfl) rfl hg3 (op_mv (ltb rfl) rfl) ?_)
    refine TriL.g1 rfl (ltb rfl) rfl hg3 (op_ixs (ltb rfl) un9_q rfl rfl (by omega) (ixc hj hc)) ?_
    refine TriL.g1 rfl (ltb rfl) rfl hg3 (op_call (ltb rfl) fn119_q rfl (rdigit_pure c)) ?_
    refine TriL.g1 rfl (ltb rfl) rfl hg3 (op_mv (ltb rfl) rfl) ?_
    refine TriL.split (d := 21) rfl (fun hg4 => ?_) (fun hg4 => ?_)
    ·iterate 4 (refine TriL.skipu rfl rfl (ltb rfl) (ltb rfl) rfl hg4 ?_)
     refine TriL.g1 rfl (ltb rfl) rfl hg3 (op_pickt (ltb rfl) rfl hg4 rfl) ?_
     refine TriL.g1 rfl (ltb rfl) rfl hg2 (op_pickt (ltb rfl) rfl hg3 rfl) ?_
     refine TriL.g1 rfl (ltb rfl) rfl hg1 (op_pickf (ltb rfl) rfl hg2 rfl) ?_
     refine TriL.c1 rfl (op_pickt (ltb rfl) rfl hg1 rfl) ?_
     refine TriL.nil ?_
     refine Tri.condT rfl rfl ?_
     refine Tri.skip (Tri.blk (Tri.region ?_))
     refine TriL.c1 rfl (op_mv (ltb rfl) rfl) ?_
     refine TriL.c1 rfl (op_bin (ltb rfl) rfl rfl rfl) ?_
     refine TriL.c1 rfl (op_as (ltb rfl) rfl) ?_
     refine TriL.kept (Kept.keep [.h, .s 0, .s 3] rfl (by decide) (Kept.now ?_))
     refine ⟨s.length - (i + 1), by omega, i + 1, IntKind.i64.wrap (j + 1), rfl, by rw [hj, wr64] <;> omega, w2 hg2 (by have := of_decide_eq_true hg3; omega) hg4, rfl⟩
    ·iterate 2 (refine TriL.g1 rfl (ltb rfl) rfl hg4 (op_mv (ltb rfl) rfl) ?_)
     refine TriL.g1 rfl (ltb rfl) rfl hg4 (op_ixs (ltb rfl) un9_q rfl rfl (by omega) (ixc hj hc)) ?_
     refine TriL.g1 rfl (ltb rfl) rfl hg4 (op_bin (ltb rfl) rfl rfl rfl) ?_
     refine TriL.g1 rfl (ltb rfl) rfl hg3 (op_pickf (ltb rfl) rfl hg4 rfl) ?_
     refine TriL.g1 rfl (ltb rfl) rfl hg2 (op_pickt (ltb rfl) rfl hg3 rfl) ?_
     refine TriL.g1 rfl (ltb rfl) rfl hg1 (op_pickf (ltb rfl) rfl hg2 rfl) ?_
     refine TriL.c1 rfl (op_pickt (ltb rfl) rfl hg1 rfl) ?_
     refine TriL.nil ?_
     refine Tri.cond rfl (fun hc5 => ?_) (fun hc5 => ?_)
     ·refine Tri.skip (Tri.blk (Tri.region ?_))
      refine TriL.c1 rfl (op_mv (ltb rfl) rfl) ?_
      refine TriL.c1 rfl (op_bin (ltb rfl) rfl rfl rfl) ?_
      refine TriL.c1 rfl (op_as (ltb rfl) rfl) ?_
      refine TriL.kept (Kept.keep [.h, .s 0, .s 3] rfl (by decide) (Kept.now ?_))
      refine ⟨s.length - (i + 1), by omega, i + 1, IntKind.i64.wrap (j + 1), rfl, by rw [hj, wr64] <;> omega, w3 hg2 (by have := of_decide_eq_true hg3; omega) (by have := eq_of_beq hc5; omega), rfl⟩
     ·refine Tri.exit (Tri.seq (Tri.region ?_))
      refine TriL.c1 rfl (op_mv (ltb rfl) rfl) ?_
      refine TriL.c1 rfl (op_as (ltb rfl) rfl) ?_
      refine TriL.nil (Tri.ret ?_)
      exact ⟨.inr rfl, (ResOK.r1 rfl (.tmp rfl .nil)).cast (by rw [hj]; rw [show wordN s = i by exact w5 hg2 hg4 (by have := beq_eq_false_iff_ne.1 hc5; omega)]), rfl⟩
   ·iterate 5 (refine TriL.skipu rfl rfl (ltb rfl) (ltb rfl) rfl hg3 ?_)
    iterate 4 (refine TriL.skipg rfl rfl (ltb rfl) (ltb rfl) rfl ?_)
    refine TriL.skipu rfl rfl (ltb rfl) (ltb rfl) rfl hg3 ?_
    refine TriL.g1 rfl (ltb rfl) rfl hg2 (op_pickf (ltb rfl) rfl hg3 rfl) ?_
    refine TriL.g1 rfl (ltb rfl) rfl hg1 (op_pickf (ltb rfl) rfl hg2 rfl) ?_
    refine TriL.c1 rfl (op_pickt (ltb rfl) rfl hg1 rfl) ?_
    refine TriL.nil ?_
    refine Tri.condF rfl rfl ?_
    refine Tri.exit (Tri.seq (Tri.region ?_))
    refine TriL.c1 rfl (op_mv (ltb rfl) rfl) ?_
    refine TriL.c1 rfl (op_as (ltb rfl) rfl) ?_
    refine TriL.nil (Tri.ret ?_)
    exact ⟨.inr rfl, (ResOK.r1 rfl (.tmp rfl .nil)).cast (by rw [hj]; rw [show wordN s = i by exact w4 hg2 (by have := of_decide_eq_false hg3; omega)]), rfl⟩
 ·iterate 5 (refine TriL.skipu rfl rfl (ltb rfl) (ltb rfl) rfl hg1 ?_)
  iterate 14 (refine TriL.skipg rfl rfl (ltb rfl) (ltb rfl) rfl ?_)
  refine TriL.skipu rfl rfl (ltb rfl) (ltb rfl) rfl hg1 ?_
  refine TriL.c1 rfl (op_pickf (ltb rfl) rfl hg1 rfl) ?_
  refine TriL.nil ?_
  refine Tri.condF rfl rfl ?_
  refine Tri.exit (Tri.seq (Tri.region ?_))
  refine TriL.c1 rfl (op_mv (ltb rfl) rfl) ?_
  refine TriL.c1 rfl (op_as (ltb rfl) rfl) ?_
  refine TriL.nil (Tri.ret ?_)
  exact ⟨.inr rfl, (ResOK.r1 rfl (.tmp rfl .nil)).cast (by rw [hj]; rw [show wordN s = i by have := of_decide_eq_false hg1; omega]), rfl⟩
/- lex: a word, a mark, a number's digits. -/
theorem fn131_q : isFn Tryz.prog 131 = true := by kernel_rfl
theorem fn158_q : isFn Tryz.prog 158 = true := by kernel_rfl
theorem fn190_q : isFn Tryz.prog 190 = true := by kernel_rfl
theorem fn55_q : isFn Tryz.prog 55 = true := by kernel_rfl
theorem lk112_q : lk Tryz.prog 112 = some (true, 5) := by kernel_rfl
theorem spl112_q : spl Tryz.prog 112 = some [(0, 1), (1, 1), (2, 1), (3, 1), (4, 1)] := by kernel_rfl
theorem zA112_q : zeroA Tryz.prog 112 = some [AV.int IntKind.i64 (0), AV.str [], AV.int IntKind.u64 (0), AV.bool false, AV.int IntKind.i64 (0)] := by kernel_rfl
theorem empty_of {s : List UInt8} (h : (s == ([] : List UInt8)) = true) : s = [] := by simpa using h
theorem cons_of {s : List UInt8} (h : (s == ([] : List UInt8)) = false) : ∃ c r, s = c :: r := by
 cases s with
 | nil => simp at h
 | cons c r => exact ⟨c, r, rfl⟩
theorem ib_spec (c : UInt8) : ∀ l : List UInt8, (Lib.indexByte l c = -1 ∧ c ∉ l) ∨ ∃ n : Nat, Lib.indexByte l c = n ∧ l[n]? = some c ∧ c ∉ l.take n
 | [] => .inl ⟨rfl, by simp⟩
 | b :: l => by
  simp only [Lib.indexByte]
  by_cases hb : b = c
  ·subst hb
   rw [if_pos (by simp)]
   exact .inr ⟨0, rfl, by simp, by simp⟩
  ·rw [if_neg (by simpa using hb)]
   rcases ib_spec c l with ⟨h1, h2⟩ | ⟨n, h1, h2, h3⟩
   ·rw [if_pos (by simp [h1])]
    exact .inl ⟨rfl, by simp [h2, Ne.symm hb]⟩
   ·have hn : ¬ ((Lib.indexByte l c == -1) = true) := by rw [h1]; simp
    rw [if_neg hn, h1]
    exact .inr ⟨n + 1, by omega, by simpa using h2, by simp [h3, Ne.symm hb]⟩
theorem indexByte_mark (c : UInt8) : (Lib.indexByte [123, 125, 40, 41, 61, 44, 46, 59] c < 0) ↔ isMark c = false := by
 have e : c ∉ ([123, 125, 40, 41, 61, 44, 46, 59] : List UInt8) ↔ isMark c = false := by
  simp only [isMark, List.mem_cons, List.not_mem_nil, or_false, decide_eq_false_iff_not, ← UInt8.toNat_inj, UInt8.reduceToNat]
 rcases ib_spec c [123, 125, 40, 41, 61, 44, 46, 59] with ⟨h1, h2⟩ | ⟨n, h1, h2, h3⟩
 ·rw [h1]; exact ⟨fun _ => e.1 h2, fun _ => by decide⟩
 ·rw [h1]
  exact ⟨fun h => by omega, fun h => absurd (List.mem_of_getElem? h2) (e.2 h)⟩
theorem word_pure (s : List UInt8) (hs : s.length ≤ 1073741824) : Pure Tryz.prog 93 [.str s] (tkn (wordT s)) := by
 refine Pure.of_tri Tryz.func93 rfl rfl (ltb rfl) fun H => ?_
 refine Tri.seq (Tri.region ?_)
 refine TriL.c2 rfl (op_all (ltb rfl) zA112_q rfl) ?_
 refine TriL.c1 rfl (op_as (ltb rfl) rfl) ?_
 refine TriL.nil (Tri.seq (Tri.seq (Tri.region ?_)))
 refine TriL.c1 rfl (op_mv (ltb rfl) rfl) ?_
 refine TriL.c1 rfl (op_bin (ltb rfl) rfl rfl rfl) ?_
 refine TriL.c1 rfl (op_mv (ltb rfl) rfl) ?_
 refine TriL.split (d := 7) rfl (fun hg1 => ?_) (fun hg1 => ?_)
 ·iterate 4 (refine TriL.skipu rfl rfl (ltb rfl) (ltb rfl) rfl hg1 ?_)
  refine TriL.c1 rfl (op_pickt (ltb rfl) rfl hg1 rfl) ?_
  refine TriL.nil ?_
  refine Tri.condT rfl rfl ?_
  refine Tri.seq (Tri.region ?_)
  refine TriL.c1 rfl (op_bld (ltb rfl) spl112_q zA112_q rfl rfl) ?_
  refine TriL.c1 rfl (op_stl lk112_q rfl rfl rfl rfl rfl (leb rfl)) ?_
  refine TriL.c1 rfl (op_as (ltb rfl) rfl) ?_
  refine TriL.nil (Tri.ret ?_)
  exact ⟨.inr rfl, (ResOK.r2 rfl (.cell lk112_q rfl rfl rfl rfl (.tmp rfl .nil))).cast (by rw [empty_of hg1]; rfl), rfl⟩
 ·obtain ⟨c, r, rfl⟩ := cons_of hg1
  refine TriL.g1 rfl (ltb rfl) rfl hg1 (op_mv (ltb rfl) rfl) ?_
  refine TriL.g1 rfl (ltb rfl) rfl hg1 (op_ixs (ltb rfl) un9_q rfl rfl (by decide) rfl) ?_
  refine TriL.g1 rfl (ltb rfl) rfl hg1 (op_call (ltb rfl) fn122_q rfl (letter_pure c)) ?_
  refine TriL.g1 rfl (ltb rfl) rfl hg1 (op_un (ltb rfl) rfl rfl) ?_
  refine TriL.c1 rfl (op_pickf (ltb rfl) rfl hg1 rfl) ?_
  refine TriL.nil ?_
  refine Tri.cond rfl (fun hc2 => ?_) (fun hc2 => ?_)
  ·refine Tri.seq (Tri.region ?_)
   refine TriL.c1 rfl (op_bld (ltb rfl) spl112_q zA112_q rfl rfl) ?_
   refine TriL.c1 rfl (op_stl lk112_q rfl rfl rfl rfl rfl (leb rfl)) ?_
   refine TriL.c1 rfl (op_as (ltb rfl) rfl) ?_
   refine TriL.nil (Tri.ret ?_)
   exact ⟨.inr rfl, (ResOK.r2 rfl (.cell lk112_q rfl rfl rfl rfl (.tmp rfl .nil))).cast (by
     have : isLet c = false := by simpa using hc2
     simp only [tkn, wordT, this]; rfl), rfl⟩
  ·refine Tri.skip (Tri.seq (Tri.region ?_))
   refine TriL.c1 rfl (op_mv (ltb rfl) rfl) ?_
   refine TriL.c1 rfl (op_call (ltb rfl) fn55_q rfl (span_pure (c :: r) _ isWd wd_pure (by kernel_rfl) hs)) ?_
   refine TriL.c1 rfl (op_as (ltb rfl) rfl) ?_
   refine TriL.nil (Tri.seq (Tri.region ?_))
   iterate 2 (refine TriL.c1 rfl (op_mv (ltb rfl) rfl) ?_)
   refine TriL.c1 rfl (op_cuts (ltb rfl) un9_q rfl rfl rfl (by omega) (by omega) (by have := spn_le isWd (c :: r); omega)) ?_
   refine TriL.c1 rfl (op_bld (ltb rfl) spl112_q zA112_q rfl rfl) ?_
   refine TriL.c1 rfl (op_mv (ltb rfl) rfl) ?_
   refine TriL.c1 rfl (op_stl lk112_q rfl rfl rfl rfl rfl (leb rfl)) ?_
   refine TriL.c1 rfl (op_as (ltb rfl) rfl) ?_
   refine TriL.nil (Tri.ret ?_)
   exact ⟨.inr rfl, (ResOK.r2 rfl (.cell lk112_q rfl rfl rfl rfl (.tmp rfl .nil))).cast (by
     have : isLet c = true := by simpa using hc2
     simp only [tkn, wordT, this, if_true, Tk.av]; simp), rfl⟩
set_option maxRecDepth 100000 in
theorem mark_pure (s : List UInt8) (hs : s.length ≤ 1073741824) : Pure Tryz.prog 96 [.str s] (tkn (markT s)) := by
 refine Pure.of_tri Tryz.func96 rfl rfl (ltb rfl) fun H => ?_
 refine Tri.seq (Tri.region ?_)
 refine TriL.c2 rfl (op_all (ltb rfl) zA112_q rfl) ?_
 refine TriL.c1 rfl (op_as (ltb rfl) rfl) ?_
 refine TriL.nil (Tri.seq (Tri.seq (Tri.region ?_)))
 refine TriL.c1 rfl (op_mv (ltb rfl) rfl) ?_
 refine TriL.c1 rfl (op_bin (ltb rfl) rfl rfl rfl) ?_
 refine TriL.c1 rfl (op_mv (ltb rfl) rfl) ?_
 refine TriL.split (d := 6) rfl (fun hg1 => ?_) (fun hg1 => ?_)
 ·iterate 4 (refine TriL.skipu rfl rfl (ltb rfl) (ltb rfl) rfl hg1 ?_)
  refine TriL.c1 rfl (op_pickt (ltb rfl) rfl hg1 rfl) ?_
  refine TriL.nil ?_
  refine Tri.condT rfl rfl ?_
  refine Tri.seq (Tri.region ?_)
  refine TriL.c1 rfl (op_bld (ltb rfl) spl112_q zA112_q rfl rfl) ?_
  refine TriL.c1 rfl (op_stl lk112_q rfl rfl rfl rfl rfl (leb rfl)) ?_
  refine TriL.c1 rfl (op_as (ltb rfl) rfl) ?_
  refine TriL.nil (Tri.ret ?_)
  exact ⟨.inr rfl, (ResOK.r2 rfl (.cell lk112_q rfl rfl rfl rfl (.tmp rfl .nil))).cast (by rw [empty_of hg1]; rfl), rfl⟩
 ·obtain ⟨c, r, rfl⟩ := cons_of hg1
  refine TriL.g1 rfl (ltb rfl) rfl hg1 (op_mv (ltb rfl) rfl) ?_
  refine TriL.g1 rfl (ltb rfl) rfl hg1 (op_ixs (ltb rfl) un9_q rfl rfl (by decide) rfl) ?_
  refine TriL.g1 rfl (ltb rfl) rfl hg1 (op_call (ltb rfl) fn131_q rfl (indexByte_pure _ c)) ?_
  refine TriL.g1 rfl (ltb rfl) rfl hg1 (op_bin (ltb rfl) rfl rfl rfl) ?_
  refine TriL.c1 rfl (op_pickf (ltb rfl) rfl hg1 rfl) ?_
  refine TriL.nil ?_
  refine Tri.cond rfl (fun hc2 => ?_) (fun hc2 => ?_)
  ·refine Tri.seq (Tri.region ?_)
   refine TriL.c1 rfl (op_bld (ltb rfl) spl112_q zA112_q rfl rfl) ?_
   refine TriL.c1 rfl (op_stl lk112_q rfl rfl rfl rfl rfl (leb rfl)) ?_
   refine TriL.c1 rfl (op_as (ltb rfl) rfl) ?_
   refine TriL.nil (Tri.ret ?_)
   exact ⟨.inr rfl, (ResOK.r2 rfl (.cell lk112_q rfl rfl rfl rfl (.tmp rfl .nil))).cast (by
     have := (indexByte_mark c).1 (of_decide_eq_true hc2)
     simp only [tkn, markT, this]; rfl), rfl⟩
  ·refine Tri.skip (Tri.seq (Tri.region ?_))
   refine TriL.c1 rfl (op_mv (ltb rfl) rfl) ?_
   refine TriL.c1 rfl (op_cuts (ltb rfl) un9_q rfl rfl rfl (by omega) (by omega) (by simp <;> omega)) ?_
   refine TriL.c1 rfl (op_bld (ltb rfl) spl112_q zA112_q rfl rfl) ?_
   refine TriL.c1 rfl (op_stl lk112_q rfl rfl rfl rfl rfl (leb rfl)) ?_
   refine TriL.c1 rfl (op_as (ltb rfl) rfl) ?_
   refine TriL.nil (Tri.ret ?_)
   exact ⟨.inr rfl, (ResOK.r2 rfl (.cell lk112_q rfl rfl rfl rfl (.tmp rfl .nil))).cast (by
     have : isMark c = true := by
      cases h : isMark c
      ·exact absurd ((indexByte_mark c).2 h) (of_decide_eq_false hc2)
      ·rfl
     simp only [tkn, markT, this, if_true, Tk.av]; rfl), rfl⟩
theorem fmt_pure (u : Nat) (hu : u < 18446744073709551616) : Pure Tryz.prog 158 [.int .u64 u, .int .i64 10] (.str (Lib.decDigits u)) := by
 refine Pure.of_tri Tryz.func158 rfl rfl (ltb rfl) fun H => ?_
 refine Tri.seq (Tri.region ?_)
 refine TriL.c1 rfl (op_as (ltb rfl) rfl) ?_
 refine TriL.nil (Tri.seq (Tri.region ?_))
 iterate 2 (refine TriL.c1 rfl (op_mv (ltb rfl) rfl) ?_)
 refine TriL.c1 rfl (op_call (ltb rfl) fn190_q rfl (format_pure u hu)) ?_
 refine TriL.c1 rfl (op_as (ltb rfl) rfl) ?_
 refine TriL.nil (Tri.ret ?_)
 exact ⟨.inr rfl, (ResOK.r1 rfl (.tmp rfl .nil)), rfl⟩
theorem digs_len {u : Nat} (hu : u < 18446744073709551616) : (Lib.decDigits u).length ≤ 20 := by
 rw [Lib.decDigits_length]
 by_cases h : 1 ≤ u
 ·have := Lib.numDigits_eq u h hu; split at this <;> omega
 ·have : u = 0 := by omega
  subst this; simp [Lib.nDigits]
theorem digits_pure (u : Nat) (neg : Bool) (hu : u < 18446744073709551616) : Pure Tryz.prog 127 [.int .u64 u, .bool neg] (.str (digs u neg)) := by
 refine Pure.of_tri Tryz.func127 rfl rfl (ltb rfl) fun H => ?_
 refine Tri.seq (Tri.region ?_)
 refine TriL.c1 rfl (op_as (ltb rfl) rfl) ?_
 refine TriL.nil (Tri.seq (Tri.region ?_))
 refine TriL.c1 rfl (op_mv (ltb rfl) rfl) ?_
 refine TriL.c1 rfl (op_call (ltb rfl) fn158_q rfl (fmt_pure u hu)) ?_
 refine TriL.c1 rfl (op_as (ltb rfl) rfl) ?_
 refine TriL.nil (Tri.seq (Tri.seq (Tri.region ?_)))
 iterate 2 (refine TriL.c1 rfl (op_mv (ltb rfl) rfl) ?_)
 refine TriL.split (d := 9) rfl (fun hg1 => ?_) (fun hg1 => ?_)
 ·refine TriL.g1 rfl (ltb rfl) rfl hg1 (op_mv (ltb rfl) rfl) ?_
  refine TriL.g1 rfl (ltb rfl) rfl hg1 (op_bin (ltb rfl) rfl rfl rfl) ?_
  refine TriL.c1 rfl (op_pickt (ltb rfl) rfl hg1 rfl) ?_
  refine TriL.nil ?_
  refine Tri.cond rfl (fun hc2 => ?_) (fun hc2 => ?_)
  ·refine Tri.seq (Tri.region ?_)
   refine TriL.c1 rfl (op_mv (ltb rfl) rfl) ?_
   refine TriL.c1 rfl (op_cat (ltb rfl) rfl rfl (by have := digs_len hu; simp; omega)) ?_
   refine TriL.c1 rfl (op_as (ltb rfl) rfl) ?_
   refine TriL.nil (Tri.ret ?_)
   exact ⟨.inr rfl, (ResOK.r1 rfl (.tmp rfl .nil)).cast (by
     have h2 : u ≠ 0 := by simpa using hc2
     have h1 : neg = true := hg1
     simp [digs, h1, h2]), rfl⟩
  ·refine Tri.skip (Tri.seq (Tri.region ?_))
   refine TriL.c1 rfl (op_mv (ltb rfl) rfl) ?_
   refine TriL.c1 rfl (op_as (ltb rfl) rfl) ?_
   refine TriL.nil (Tri.ret ?_)
   exact ⟨.inr rfl, (ResOK.r1 rfl (.tmp rfl .nil)).cast (by
     have h2 : u = 0 := by simpa using hc2
     have h1 : neg = true := hg1
     simp [digs, h1, h2]), rfl⟩
 ·iterate 2 (refine TriL.skipu rfl rfl (ltb rfl) (ltb rfl) rfl hg1 ?_)
  refine TriL.c1 rfl (op_pickf (ltb rfl) rfl hg1 rfl) ?_
  refine TriL.nil ?_
  refine Tri.condF rfl rfl ?_
  refine Tri.skip (Tri.seq (Tri.region ?_))
  refine TriL.c1 rfl (op_mv (ltb rfl) rfl) ?_
  refine TriL.c1 rfl (op_as (ltb rfl) rfl) ?_
  refine TriL.nil (Tri.ret ?_)
  exact ⟨.inr rfl, (ResOK.r1 rfl (.tmp rfl .nil)).cast (by
    have h1 : neg = false := hg1
    simp [digs, h1]), rfl⟩
/- lex: a number; the document's digits. -/
theorem fn125_q : isFn Tryz.prog 125 = true := by kernel_rfl
theorem fn126_q : isFn Tryz.prog 126 = true := by kernel_rfl
theorem fn127_q : isFn Tryz.prog 127 = true := by kernel_rfl
theorem mi168_q : Tryz.prog.underlying 168 = some (.interface (Tryz.prog.methodsAt 168)) := by kernel_rfl
theorem se161_q : se Tryz.prog 161 = some (5, 1, 1) := by kernel_rfl
theorem un161_q : Tryz.prog.underlying 161 = some (TypeDesc.slice 5) := Tryz.underlying161
theorem un5_q : Tryz.prog.underlying 5 = some (TypeDesc.int IntKind.u8) := Tryz.underlying5
theorem unel161_q : Tryz.prog.underlying 5 = some (TypeDesc.int IntKind.u8) := Tryz.underlying5
theorem zAe161_q : zeroA Tryz.prog 5 = some [AV.int IntKind.u8 (0)] := by kernel_rfl
theorem decDigits_small {u : Nat} (h : u < 10) : Lib.decDigits u = [UInt8.ofNat (48 + u)] := by rw [Lib.decDigits, dif_pos h]
theorem decDigits_step {u : Nat} (h : ¬ u < 10) : Lib.decDigits u = Lib.decDigits (u / 10) ++ [UInt8.ofNat (48 + u % 10)] := by rw [Lib.decDigits, dif_neg h]
/-- what is told so far of n: u is left -/
def DigI (n u : Nat) (t : List UInt8) : Prop := (u = 0 ∧ t = Lib.decDigits n) ∨ (0 < u ∧ Lib.decDigits u ++ t = Lib.decDigits n)
theorem DigI.step {n u : Nat} {t : List UInt8} (h : DigI n u t) (h0 : 0 < u) : DigI n (u / 10) ([UInt8.ofNat (48 + u % 10)] ++ t) := by
 rcases h with ⟨h, _⟩ | ⟨_, h⟩
 ·omega
 ·by_cases hu : u < 10
  ·refine .inl ⟨by omega, ?_⟩
   rw [← h, decDigits_small hu, show u % 10 = u by omega]
  ·refine .inr ⟨by omega, ?_⟩
   rw [← h, decDigits_step hu, List.append_assoc]
theorem DigI.len {n u : Nat} {t : List UInt8} (h : DigI n u t) (hn : n < 18446744073709551616) : t.length ≤ 20 := by
 have := digs_len hn
 rcases h with ⟨_, h⟩ | ⟨_, h⟩
 ·rw [h]; exact this
 ·rw [← h, List.length_append] at this; omega
def StDg (H : Hp) (neg : Bool) (t : List UInt8) (u : Nat) : St := [(.h, .hp H), (.s 1, .sv (.v (.bool neg))), (.s 5, .sv (.v (.str t))), (.s 6, .sv (.v (.int .u64 (u : Int))))]
theorem dgc (u : Nat) : IntKind.u8.wrap (IntKind.u64.wrap (48 + ((u : Int).tmod 10))) = (((UInt8.ofNat (48 + u % 10)).toNat : Nat) : Int) := by
 have e : (u : Int).tmod 10 = ((u % 10 : Nat) : Int) := by rw [Int.tmod_eq_emod_of_nonneg (by omega)]; omega
 rw [e, wru64 (by omega) (by omega), wru8 (by omega) (by omega), UInt8.toNat_ofNat_of_lt' (by simp [UInt8.size]; omega)]; omega
theorem dgq (u : Nat) (hu : u < 18446744073709551616) : IntKind.u64.wrap ((u : Int).tdiv 10) = ((u / 10 : Nat) : Int) := by
 rw [Int.tdiv_eq_ediv_of_nonneg (by omega), wru64 (by omega) (by omega)]; omega
theorem dgb (u : Nat) : bytesOf [AV.int .u8 (IntKind.u8.wrap (IntKind.u64.wrap (48 + ((u : Int).tmod 10))))] = some [UInt8.ofNat (48 + u % 10)] := by
 rw [dgc]; exact bytesOf_bsl [UInt8.ofNat (48 + u % 10)]
theorem rdigits_pure (n : Nat) (neg : Bool) (hu : n < 18446744073709551616) : Pure Tryz.prog 78 [.int .u64 n, .bool neg] (.str (digs n neg)) := by
 refine Pure.of_tri Tryz.func78 rfl rfl (ltb rfl) fun H => ?_
 refine Tri.seq (Tri.region ?_)
 refine TriL.c1 rfl (op_as (ltb rfl) rfl) ?_
 refine TriL.nil (Tri.seq (Tri.region ?_))
 refine TriL.c1 rfl (op_as (ltb rfl) rfl) ?_
 refine TriL.nil (Tri.seq (Tri.seq (Tri.region ?_)))
 refine TriL.c1 rfl (op_mv (ltb rfl) rfl) ?_
 refine TriL.c1 rfl (op_bin (ltb rfl) rfl rfl rfl) ?_
 refine TriL.nil ?_
 refine Tri.cond rfl (fun hc1 => ?_) (fun hc1 => ?_)
 ·refine Tri.seq (Tri.region ?_)
  refine TriL.c1 rfl (op_as (ltb rfl) rfl) ?_
  refine TriL.nil (Tri.ret ?_)
  exact ⟨.inr rfl, (ResOK.r1 rfl (.tmp rfl .nil)).cast (by
    have h0 : n = 0 := by have := eq_of_beq hc1; omega
    subst h0
    simp [digs, decDigits_small]), rfl⟩
 ·refine Tri.skip (Tri.seq (Tri.seq (Tri.region ?_)))
  refine TriL.c1 rfl (op_mv (ltb rfl) rfl) ?_
  refine TriL.c1 rfl (op_as (ltb rfl) rfl) ?_
  refine TriL.kept (Kept.keep [.h, .s 1, .s 5, .s 6] rfl (by decide) (Kept.now ?_))
  refine Tri.blk ?_
  -- LOOP 1: KEEP
  refine Tri.loop (fun q w => ∃ (u : Nat) (t : List UInt8), w = StDg H neg t u ∧ DigI n u t ∧ u ≤ n ∧ q = u) ?_ (n := n) ⟨n, [], rfl, .inr ⟨by have := beq_eq_false_iff_ne.1 hc1; omega, by simp⟩, Nat.le_refl _, rfl⟩
  rintro q w ⟨u, t, rfl, hi, hle, rfl⟩
  have hnz : n ≠ 0 := by have := beq_eq_false_iff_ne.1 hc1; omega
  refine Tri.seq (Tri.seq (Tri.region ?_))
  refine TriL.c1 rfl (op_mv (ltb rfl) rfl) ?_
  refine TriL.c1 rfl (op_bin (ltb rfl) rfl rfl rfl) ?_
  refine TriL.nil ?_
  refine Tri.cond rfl (fun hc2 => ?_) (fun hc2 => ?_)
  ·refine Tri.skip (Tri.seq (Tri.blk (Tri.region ?_)))
   refine TriL.c1 rfl (op_mv (ltb rfl) rfl) ?_
   iterate 2 (refine TriL.c1 rfl (op_bin (ltb rfl) rfl rfl rfl) ?_)
   refine TriL.c1 rfl (op_cvi (ltb rfl) un41_q un5_q rfl) ?_
   refine TriL.c1 rfl (op_lit («as» := [_]) (ltb rfl) se161_q zAe161_q rfl rfl rfl (leb rfl)) ?_
   refine TriL.c1 rfl (op_b2s (ltb rfl) un161_q unel161_q un9_q rfl (dgb q)) ?_
   refine TriL.c1 rfl (op_mv (ltb rfl) rfl) ?_
   refine TriL.c1 rfl (op_cat (ltb rfl) rfl rfl (by have := hi.len hu; simp; omega)) ?_
   refine TriL.c1 rfl (op_as (ltb rfl) rfl) ?_
   refine TriL.nil (Tri.region ?_)
   refine TriL.c1 rfl (op_mv (ltb rfl) rfl) ?_
   refine TriL.c1 rfl (op_bin (ltb rfl) rfl rfl rfl) ?_
   refine TriL.c1 rfl (op_as (ltb rfl) rfl) ?_
   refine TriL.kept (Kept.keep [.h, .s 1, .s 5, .s 6] rfl (by decide) (Kept.now ?_))
   have h0 : 0 < q := by have := of_decide_eq_true hc2; omega
   exact ⟨q / 10, by omega, q / 10, [UInt8.ofNat (48 + q % 10)] ++ t, by rw [dgq q (by omega)]; rfl, hi.step h0, by omega, rfl⟩
  ·have hq : q = 0 := by have := of_decide_eq_false hc2; omega
   have ht : t = Lib.decDigits n := by rcases hi with ⟨_, h⟩ | ⟨h, _⟩; exact h; omega
   refine Tri.exit (Tri.seq (Tri.seq (Tri.region ?_)))
   refine TriL.c1 rfl (op_mv (ltb rfl) rfl) ?_
   refine TriL.nil ?_
   refine Tri.cond rfl (fun hc3 => ?_) (fun hc3 => ?_)
   ·refine Tri.seq (Tri.region ?_)
    refine TriL.c1 rfl (op_mv (ltb rfl) rfl) ?_
    refine TriL.c1 rfl (op_cat (ltb rfl) rfl rfl (by have := hi.len hu; simp; omega)) ?_
    refine TriL.c1 rfl (op_as (ltb rfl) rfl) ?_
    refine TriL.nil (Tri.ret ?_)
    exact ⟨.inr rfl, (ResOK.r1 rfl (.tmp rfl .nil)).cast (by have h1 : neg = true := hc3; rw [ht]; simp [digs, h1, hnz]), rfl⟩
   ·refine Tri.skip (Tri.seq (Tri.region ?_))
    refine TriL.c1 rfl (op_mv (ltb rfl) rfl) ?_
    refine TriL.c1 rfl (op_as (ltb rfl) rfl) ?_
    refine TriL.nil (Tri.ret ?_)
    exact ⟨.inr rfl, (ResOK.r1 rfl (.tmp rfl .nil)).cast (by have h1 : neg = false := hc3; rw [ht]; simp [digs, h1]), rfl⟩
theorem unsg_le (s : List UInt8) : (unsg s).length ≤ s.length := by
 unfold unsg Lib.trimPrefix
 split
 ·simp
 ·exact Nat.le_refl _
def numS (s : List UInt8) : List UInt8 := (unsg s).take (spn isDig (unsg s))
theorem numTk_ok {s : List UInt8} {u : Nat} (h : Lib.parseUintB 64 (numS s) = .ok u) (h1 : ¬ (isNeg s = true ∧ 9223372036854775808 < u)) (h2 : digs u (isNeg s) = s.take (numB s)) : numTk s = (⟨2, [], u, isNeg s, 0⟩, numB s) := by
 unfold numS at h
 unfold numTk numTok
 rw [h]
 simp only []
 rw [if_neg (by rintro (h3 | h3); exact h1 h3; exact h3 h2)]
theorem numTk_no {s : List UInt8} {u : Nat} (h : Lib.parseUintB 64 (numS s) = .ok u) (h1 : (isNeg s = true ∧ 9223372036854775808 < u) ∨ digs u (isNeg s) ≠ s.take (numB s)) : numTk s = zeroT := by
 unfold numS at h
 unfold numTk numTok
 rw [h]
 simp only []
 rw [if_pos h1]
theorem numTk_bad {s : List UInt8} (h : ∀ u, Lib.parseUintB 64 (numS s) ≠ .ok u) : numTk s = zeroT := by
 unfold numS at h
 unfold numTk numTok
 split
 ·rename_i x y e
  split at e
  ·rename_i u e2; exact absurd e2 (h u)
  ·cases e
 ·rfl
theorem parseM_lt : ∀ (l : List UInt8) (a u : Nat), a < 18446744073709551616 → Lib.parseUintM 18446744073709551615 a l = .ok u → u < 18446744073709551616
 | [], a, u, ha, h => by simp [Lib.parseUintM] at h; omega
 | c :: r, a, u, ha, h => by
  simp only [Lib.parseUintM] at h
  split at h
  ·split at h
   ·cases h
   ·split at h
    ·cases h
    ·exact parseM_lt r _ u (by omega) h
  ·cases h
theorem parse_lt {l : List UInt8} {u : Nat} (h : Lib.parseUintB 64 l = .ok u) : u < 18446744073709551616 := by
 unfold Lib.parseUintB at h
 split at h
 ·cases h
 ·exact parseM_lt l 0 u (by decide) h
theorem cutneg_pure (s : List UInt8) : Pure Tryz.prog 125 [.str s, .str [45]] (.tup [.str (unsg s), .bool (isNeg s)]) := cut_pure s [45]
theorem number_bad (s : List UInt8) (u : Nat) (hs : s.length ≤ 1073741824) (hp : Pure Tryz.prog 126 [.str (((unsg s).drop (0 : Int).toNat).take (((spn isDig (unsg s) : Nat) : Int).toNat - (0 : Int).toNat)), .int .i64 10, .int .i64 64] (.tup [.int .u64 u, .ifc 209 .junk])) (hb : ∀ u, Lib.parseUintB 64 (numS s) ≠ .ok u) : Pure Tryz.prog 94 [.str s] (tkn (numTk s)) := by
 have h1 := unsg_le s
 have h2 := spn_le isDig (unsg s)
 refine Pure.of_tri Tryz.func94 rfl rfl (ltb rfl) fun H => ?_
 refine Tri.seq (Tri.region ?_)
 refine TriL.c2 rfl (op_all (ltb rfl) zA112_q rfl) ?_
 refine TriL.c1 rfl (op_as (ltb rfl) rfl) ?_
 refine TriL.nil (Tri.seq (Tri.region ?_))
 refine TriL.c1 rfl (op_mv (ltb rfl) rfl) ?_
 refine TriL.c1 rfl (op_call (ltb rfl) fn125_q rfl (cutneg_pure s)) ?_
 refine TriL.c1 rfl (op_mv (ltb rfl) rfl) ?_
 iterate 2 (refine TriL.c1 rfl (op_ext (ltb rfl) rfl rfl) ?_)
 iterate 2 (refine TriL.c1 rfl (op_as (ltb rfl) rfl) ?_)
 refine TriL.nil (Tri.seq (Tri.region ?_))
 refine TriL.c1 rfl (op_mv (ltb rfl) rfl) ?_
 refine TriL.c1 rfl (op_call (ltb rfl) fn55_q rfl (span_pure (unsg s) _ isDig digit_pure (by kernel_rfl) (by omega))) ?_
 refine TriL.c1 rfl (op_as (ltb rfl) rfl) ?_
 refine TriL.nil (Tri.seq (Tri.region ?_))
 iterate 2 (refine TriL.c1 rfl (op_mv (ltb rfl) rfl) ?_)
 refine TriL.c1 rfl (op_cuts (ltb rfl) un9_q rfl rfl rfl (by omega) (by omega) (by omega)) ?_
 refine TriL.c1 rfl (op_call (ltb rfl) fn126_q rfl hp) ?_
 refine TriL.c1 rfl (op_mv (ltb rfl) rfl) ?_
 iterate 2 (refine TriL.c1 rfl (op_ext (ltb rfl) rfl rfl) ?_)
 iterate 2 (refine TriL.c1 rfl (op_as (ltb rfl) rfl) ?_)
 refine TriL.nil (Tri.seq (Tri.seq ?_))
 refine Tri.drawn mixed rfl ?_
 refine TriD.c1 rfl (op_mv (ltb rfl) rfl) ?_
 refine TriD.c1 rfl (op_nei (ltb rfl) mi168_q rfl rfl) ?_
 refine TriD.c1 rfl (op_mv (ltb rfl) rfl) ?_
 iterate 2 (refine TriD.skipu rfl rfl (ltb rfl) (ltb rfl) rfl rfl ?_)
 iterate 2 (refine TriD.skipg rfl rfl (ltb rfl) (ltb rfl) rfl ?_)
 refine TriD.skipu rfl rfl (ltb rfl) (ltb rfl) rfl rfl ?_
 refine TriD.c1 rfl (op_pickt (ltb rfl) rfl rfl rfl) ?_
 refine TriD.c1 rfl (op_mv (ltb rfl) rfl) ?_
 iterate 13 (refine TriD.skipu rfl rfl (ltb rfl) (ltb rfl) rfl rfl ?_)
 refine TriD.c1 rfl (op_pickt (ltb rfl) rfl rfl rfl) ?_
 refine TriD.nil (by kernel_rfl) (Kept.now ?_)
 refine Tri.condT rfl rfl ?_
 refine Tri.seq (Tri.region ?_)
 refine TriL.c1 rfl (op_bld (ltb rfl) spl112_q zA112_q rfl rfl) ?_
 refine TriL.c1 rfl (op_stl lk112_q rfl rfl rfl rfl rfl (leb rfl)) ?_
 refine TriL.c1 rfl (op_as (ltb rfl) rfl) ?_
 refine TriL.nil (Tri.ret ?_)
 exact ⟨.inr rfl, (ResOK.r2 rfl (.cell lk112_q rfl rfl rfl rfl (.tmp rfl .nil))).cast (by rw [numTk_bad hb]; rfl), rfl⟩
theorem number_ok (s : List UInt8) (u : Nat) (hu : u < 18446744073709551616) (hs : s.length ≤ 1073741824) (hp : Pure Tryz.prog 126 [.str (((unsg s).drop (0 : Int).toNat).take (((spn isDig (unsg s) : Nat) : Int).toNat - (0 : Int).toNat)), .int .i64 10, .int .i64 64] (.tup [.int .u64 u, .nili])) (hk : Lib.parseUintB 64 (numS s) = .ok u) : Pure Tryz.prog 94 [.str s] (tkn (numTk s)) := by
 have h1 := unsg_le s
 have h2 := spn_le isDig (unsg s)
 have e1 : IntKind.i64.wrap (IntKind.i64.wrap ((s.length : Int) - ((unsg s).length : Int)) + ((spn isDig (unsg s) : Nat) : Int)) = ((numB s : Nat) : Int) := by
  rw [wr64 (n := (s.length : Int) - ((unsg s).length : Int)) (by omega) (by omega), wr64 (by omega) (by omega)]; unfold numB; omega
 have e3 : numB s ≤ s.length := by unfold numB; omega
 have e2 : (s.drop (0 : Int).toNat).take ((IntKind.i64.wrap (IntKind.i64.wrap ((s.length : Int) - ((unsg s).length : Int)) + ((spn isDig (unsg s) : Nat) : Int))).toNat - (0 : Int).toNat) = s.take (numB s) := by rw [e1]; simp
 refine Pure.of_tri Tryz.func94 rfl rfl (ltb rfl) fun H => ?_
 refine Tri.seq (Tri.region ?_)
 refine TriL.c2 rfl (op_all (ltb rfl) zA112_q rfl) ?_
 refine TriL.c1 rfl (op_as (ltb rfl) rfl) ?_
 refine TriL.nil (Tri.seq (Tri.region ?_))
 refine TriL.c1 rfl (op_mv (ltb rfl) rfl) ?_
 refine TriL.c1 rfl (op_call (ltb rfl) fn125_q rfl (cutneg_pure s)) ?_
 refine TriL.c1 rfl (op_mv (ltb rfl) rfl) ?_
 iterate 2 (refine TriL.c1 rfl (op_ext (ltb rfl) rfl rfl) ?_)
 iterate 2 (refine TriL.c1 rfl (op_as (ltb rfl) rfl) ?_)
 refine TriL.nil (Tri.seq (Tri.region ?_))
 refine TriL.c1 rfl (op_mv (ltb rfl) rfl) ?_
 refine TriL.c1 rfl (op_call (ltb rfl) fn55_q rfl (span_pure (unsg s) _ isDig digit_pure (by kernel_rfl) (by omega))) ?_
 refine TriL.c1 rfl (op_as (ltb rfl) rfl) ?_
 refine TriL.nil (Tri.seq (Tri.region ?_))
 iterate 2 (refine TriL.c1 rfl (op_mv (ltb rfl) rfl) ?_)
 refine TriL.c1 rfl (op_cuts (ltb rfl) un9_q rfl rfl rfl (by omega) (by omega) (by omega)) ?_
 refine TriL.c1 rfl (op_call (ltb rfl) fn126_q rfl hp) ?_
 refine TriL.c1 rfl (op_mv (ltb rfl) rfl) ?_
 iterate 2 (refine TriL.c1 rfl (op_ext (ltb rfl) rfl rfl) ?_)
 iterate 2 (refine TriL.c1 rfl (op_as (ltb rfl) rfl) ?_)
 refine TriL.nil (Tri.seq (Tri.seq ?_))
 refine Tri.drawn mixed rfl ?_
 refine TriD.c1 rfl (op_mv (ltb rfl) rfl) ?_
 refine TriD.c1 rfl (op_nei (ltb rfl) mi168_q rfl rfl) ?_
 refine TriD.c1 rfl (op_mv (ltb rfl) rfl) ?_
 iterate 2 (refine TriD.g1 rfl (ltb rfl) rfl rfl (op_mv (ltb rfl) rfl) ?_)
 refine TriD.split (d := 27) rfl (fun hg1 => ?_) (fun hg1 => ?_)
 ·refine TriD.g1 rfl (ltb rfl) rfl hg1 (op_mv (ltb rfl) rfl) ?_
  refine TriD.g1 rfl (ltb rfl) rfl hg1 (op_bin (ltb rfl) rfl rfl rfl) ?_
  refine TriD.g1 rfl (ltb rfl) rfl rfl (op_pickt (ltb rfl) rfl hg1 rfl) ?_
  refine TriD.c1 rfl (op_pickf (ltb rfl) rfl rfl rfl) ?_
  refine TriD.c1 rfl (op_mv (ltb rfl) rfl) ?_
  refine TriD.split (d := 32) rfl (fun hg2 => ?_) (fun hg2 => ?_)
  ·iterate 13 (refine TriD.skipu rfl rfl (ltb rfl) (ltb rfl) rfl hg2 ?_)
   refine TriD.c1 rfl (op_pickt (ltb rfl) rfl hg2 rfl) ?_
   refine TriD.nil (by kernel_rfl) (Kept.now ?_)
   refine Tri.condT rfl rfl ?_
   refine Tri.seq (Tri.region ?_)
   refine TriL.c1 rfl (op_bld (ltb rfl) spl112_q zA112_q rfl rfl) ?_
   refine TriL.c1 rfl (op_stl lk112_q rfl rfl rfl rfl rfl (leb rfl)) ?_
   refine TriL.c1 rfl (op_as (ltb rfl) rfl) ?_
   refine TriL.nil (Tri.ret ?_)
   exact ⟨.inr rfl, (ResOK.r2 rfl (.cell lk112_q rfl rfl rfl rfl (.tmp rfl .nil))).cast (by rw [numTk_no hk (.inl ⟨hg1, by have := of_decide_eq_true hg2; omega⟩)]; rfl), rfl⟩
  ·iterate 2 (refine TriD.g1 rfl (ltb rfl) rfl hg2 (op_mv (ltb rfl) rfl) ?_)
   refine TriD.g1 rfl (ltb rfl) rfl hg2 (op_call (ltb rfl) fn127_q rfl (digits_pure u (isNeg s) hu)) ?_
   iterate 2 (refine TriD.g1 rfl (ltb rfl) rfl hg2 (op_mv (ltb rfl) rfl) ?_)
   refine TriD.g1 rfl (ltb rfl) rfl hg2 (op_lens (ltb rfl) un9_q rfl) ?_
   refine TriD.g1 rfl (ltb rfl) rfl hg2 (op_mv (ltb rfl) rfl) ?_
   refine TriD.g1 rfl (ltb rfl) rfl hg2 (op_lens (ltb rfl) un9_q rfl) ?_
   refine TriD.g1 rfl (ltb rfl) rfl hg2 (op_bin (ltb rfl) rfl rfl rfl) ?_
   refine TriD.g1 rfl (ltb rfl) rfl hg2 (op_mv (ltb rfl) rfl) ?_
   refine TriD.g1 rfl (ltb rfl) rfl hg2 (op_bin (ltb rfl) rfl rfl rfl) ?_
   refine TriD.g1 rfl (ltb rfl) rfl hg2 (op_cuts (ltb rfl) un9_q rfl rfl rfl (by omega) (by have := e1; omega) (by have := e1; omega)) ?_
   refine TriD.g1 rfl (ltb rfl) rfl hg2 (op_bin (ltb rfl) rfl rfl rfl) ?_
   refine TriD.c1 rfl (op_pickf (ltb rfl) rfl hg2 rfl) ?_
   refine TriD.nil (by kernel_rfl) (Kept.now ?_)
   refine Tri.cond rfl (fun hc3 => ?_) (fun hc3 => ?_)
   ·refine Tri.seq (Tri.region ?_)
    refine TriL.c1 rfl (op_bld (ltb rfl) spl112_q zA112_q rfl rfl) ?_
    refine TriL.c1 rfl (op_stl lk112_q rfl rfl rfl rfl rfl (leb rfl)) ?_
    refine TriL.c1 rfl (op_as (ltb rfl) rfl) ?_
    refine TriL.nil (Tri.ret ?_)
    exact ⟨.inr rfl, (ResOK.r2 rfl (.cell lk112_q rfl rfl rfl rfl (.tmp rfl .nil))).cast (by
      have hne : digs u (isNeg s) ≠ s.take (numB s) := by
       rw [← e2]
       intro e
       have h := hc3
       simp only [Bool.not_eq_true', beq_eq_false_iff_ne, ne_eq] at h
       exact h e
      rw [numTk_no hk (.inr hne)]; rfl), rfl⟩
   ·refine Tri.skip (Tri.seq (Tri.region ?_))
    iterate 2 (refine TriL.c1 rfl (op_mv (ltb rfl) rfl) ?_)
    refine TriL.c1 rfl (op_bld (ltb rfl) spl112_q zA112_q rfl rfl) ?_
    refine TriL.c1 rfl (op_mv (ltb rfl) rfl) ?_
    refine TriL.c1 rfl (op_lens (ltb rfl) un9_q rfl) ?_
    refine TriL.c1 rfl (op_mv (ltb rfl) rfl) ?_
    refine TriL.c1 rfl (op_lens (ltb rfl) un9_q rfl) ?_
    refine TriL.c1 rfl (op_bin (ltb rfl) rfl rfl rfl) ?_
    refine TriL.c1 rfl (op_mv (ltb rfl) rfl) ?_
    refine TriL.c1 rfl (op_bin (ltb rfl) rfl rfl rfl) ?_
    refine TriL.c1 rfl (op_stl lk112_q rfl rfl rfl rfl rfl (leb rfl)) ?_
    refine TriL.c1 rfl (op_as (ltb rfl) rfl) ?_
    refine TriL.nil (Tri.ret ?_)
    exact ⟨.inr rfl, (ResOK.r2 rfl (.cell lk112_q rfl rfl rfl rfl (.tmp rfl .nil))).cast (by
      have heq : digs u (isNeg s) = s.take (numB s) := by
       rw [← e2]
       have h := hc3
       simp only [Bool.not_eq_false', beq_iff_eq] at h
       exact h
      rw [numTk_ok hk (fun h => (by have := of_decide_eq_false hg2; omega)) heq, e1]; rfl), rfl⟩
 ·iterate 2 (refine TriD.skipu rfl rfl (ltb rfl) (ltb rfl) rfl hg1 ?_)
  refine TriD.g1 rfl (ltb rfl) rfl rfl (op_pickf (ltb rfl) rfl hg1 rfl) ?_
  refine TriD.c1 rfl (op_pickf (ltb rfl) rfl rfl rfl) ?_
  refine TriD.c1 rfl (op_mv (ltb rfl) rfl) ?_
  iterate 2 (refine TriD.g1 rfl (ltb rfl) rfl rfl (op_mv (ltb rfl) rfl) ?_)
  refine TriD.g1 rfl (ltb rfl) rfl rfl (op_call (ltb rfl) fn127_q rfl (digits_pure u (isNeg s) hu)) ?_
  iterate 2 (refine TriD.g1 rfl (ltb rfl) rfl rfl (op_mv (ltb rfl) rfl) ?_)
  refine TriD.g1 rfl (ltb rfl) rfl rfl (op_lens (ltb rfl) un9_q rfl) ?_
  refine TriD.g1 rfl (ltb rfl) rfl rfl (op_mv (ltb rfl) rfl) ?_
  refine TriD.g1 rfl (ltb rfl) rfl rfl (op_lens (ltb rfl) un9_q rfl) ?_
  refine TriD.g1 rfl (ltb rfl) rfl rfl (op_bin (ltb rfl) rfl rfl rfl) ?_
  refine TriD.g1 rfl (ltb rfl) rfl rfl (op_mv (ltb rfl) rfl) ?_
  refine TriD.g1 rfl (ltb rfl) rfl rfl (op_bin (ltb rfl) rfl rfl rfl) ?_
  refine TriD.g1 rfl (ltb rfl) rfl rfl (op_cuts (ltb rfl) un9_q rfl rfl rfl (by omega) (by have := e1; omega) (by have := e1; omega)) ?_
  refine TriD.g1 rfl (ltb rfl) rfl rfl (op_bin (ltb rfl) rfl rfl rfl) ?_
  refine TriD.c1 rfl (op_pickf (ltb rfl) rfl rfl rfl) ?_
  refine TriD.nil (by kernel_rfl) (Kept.now ?_)
  refine Tri.cond rfl (fun hc4 => ?_) (fun hc4 => ?_)
  ·refine Tri.seq (Tri.region ?_)
   refine TriL.c1 rfl (op_bld (ltb rfl) spl112_q zA112_q rfl rfl) ?_
   refine TriL.c1 rfl (op_stl lk112_q rfl rfl rfl rfl rfl (leb rfl)) ?_
   refine TriL.c1 rfl (op_as (ltb rfl) rfl) ?_
   refine TriL.nil (Tri.ret ?_)
   exact ⟨.inr rfl, (ResOK.r2 rfl (.cell lk112_q rfl rfl rfl rfl (.tmp rfl .nil))).cast (by
     have hne : digs u (isNeg s) ≠ s.take (numB s) := by
      rw [← e2]
      intro e
      have h := hc4
      simp only [Bool.not_eq_true', beq_eq_false_iff_ne, ne_eq] at h
      exact h e
     rw [numTk_no hk (.inr hne)]; rfl), rfl⟩
  ·refine Tri.skip (Tri.seq (Tri.region ?_))
   iterate 2 (refine TriL.c1 rfl (op_mv (ltb rfl) rfl) ?_)
   refine TriL.c1 rfl (op_bld (ltb rfl) spl112_q zA112_q rfl rfl) ?_
   refine TriL.c1 rfl (op_mv (ltb rfl) rfl) ?_
   refine TriL.c1 rfl (op_lens (ltb rfl) un9_q rfl) ?_
   refine TriL.c1 rfl (op_mv (ltb rfl) rfl) ?_
   refine TriL.c1 rfl (op_lens (ltb rfl) un9_q rfl) ?_
   refine TriL.c1 rfl (op_bin (ltb rfl) rfl rfl rfl) ?_
   refine TriL.c1 rfl (op_mv (ltb rfl) rfl) ?_
   refine TriL.c1 rfl (op_bin (ltb rfl) rfl rfl rfl) ?_
   refine TriL.c1 rfl (op_stl lk112_q rfl rfl rfl rfl rfl (leb rfl)) ?_
   refine TriL.c1 rfl (op_as (ltb rfl) rfl) ?_
   refine TriL.nil (Tri.ret ?_)
   exact ⟨.inr rfl, (ResOK.r2 rfl (.cell lk112_q rfl rfl rfl rfl (.tmp rfl .nil))).cast (by
     have heq : digs u (isNeg s) = s.take (numB s) := by
      rw [← e2]
      have h := hc4
      simp only [Bool.not_eq_false', beq_iff_eq] at h
      exact h
     rw [numTk_ok hk (fun h => (by have h5 : isNeg s = false := hg1; rw [h5] at h; cases h.1)) heq, e1]; rfl), rfl⟩
theorem number_pure (s : List UInt8) (hs : s.length ≤ 1073741824) : Pure Tryz.prog 94 [.str s] (tkn (numTk s)) := by
 have h1 := unsg_le s
 have h2 := spn_le isDig (unsg s)
 have e : (((unsg s).drop (0 : Int).toNat).take (((spn isDig (unsg s) : Nat) : Int).toNat - (0 : Int).toNat)) = numS s := by simp [numS]
 have hl : (numS s).length ≤ 281474976710656 := by simp [numS]; omega
 by_cases hb : ∃ u, Lib.parseUintB 64 (numS s) = .ok u
 ·obtain ⟨u, hk⟩ := hb
  exact number_ok s u (parse_lt hk) hs (by rw [e]; exact parse_ok _ hl u hk) hk
 ·have hb' : ∀ u, Lib.parseUintB 64 (numS s) ≠ .ok u := fun u e => hb ⟨u, e⟩
  obtain ⟨u, hp⟩ := parse_bad _ hl hb'
  exact number_bad s u hs (by rw [e]; exact hp) hb'
/- The document's number. -/
theorem fn78_q : isFn Tryz.prog 78 = true := by kernel_rfl
def numR (s : List UInt8) : AV := match numTok s with
 | some (u, neg, k) => .tup [.int .u64 u, .bool neg, .int .i64 k]
 | none => .tup [.int .u64 (0 : Nat), .bool false, .int .i64 (0 : Nat)]
theorem numT_ok {s : List UInt8} {u : Nat} (h : Lib.parseUintB 64 (numS s) = .ok u) (h1 : ¬ (isNeg s = true ∧ 9223372036854775808 < u)) (h2 : digs u (isNeg s) = s.take (numB s)) : numTok s = some (u, isNeg s, numB s) := by
 unfold numS at h
 unfold numTok
 rw [h]
 simp only []
 rw [if_neg (by rintro (h3 | h3); exact h1 h3; exact h3 h2)]
theorem numT_no {s : List UInt8} {u : Nat} (h : Lib.parseUintB 64 (numS s) = .ok u) (h1 : (isNeg s = true ∧ 9223372036854775808 < u) ∨ digs u (isNeg s) ≠ s.take (numB s)) : numTok s = none := by
 unfold numS at h
 unfold numTok
 rw [h]
 simp only []
 rw [if_pos h1]
theorem numT_bad {s : List UInt8} (h : ∀ u, Lib.parseUintB 64 (numS s) ≠ .ok u) : numTok s = none := by
 unfold numS at h
 unfold numTok
 split
 ·rename_i u e2; exact absurd e2 (h u)
 ·rfl
theorem isNeg_cons (c : UInt8) (r : List UInt8) : isNeg (c :: r) = ((c.toNat : Int) == 45) := by
 have e : isNeg (c :: r) = (45 == c) := by simp [isNeg, Lib.hasPrefix, List.isPrefixOf]
 rw [e]
 by_cases h : c = 45
 ·subst h; rfl
 ·have h2 : ¬ (c.toNat : Int) = 45 := fun e => h (UInt8.toNat_inj.1 (by have : (45 : UInt8).toNat = 45 := rfl; omega))
  rw [beq_eq_false_iff_ne.2 (Ne.symm h), beq_eq_false_iff_ne.2 h2]
def offS (s : List UInt8) : Nat := s.length - (unsg s).length
theorem offS_eq (s : List UInt8) : (isNeg s = true → offS s = 1) ∧ (isNeg s = false → offS s = 0) := by
 unfold offS unsg Lib.trimPrefix
 refine ⟨fun h => ?_, fun h => ?_⟩
 ·have h' : Lib.hasPrefix s [45] = true := h
  rw [if_pos h']
  have : 1 ≤ s.length := by
   cases s with
   | nil => simp [Lib.hasPrefix] at h'
   | cons c r => simp
  simp; omega
 ·have h' : Lib.hasPrefix s [45] = false := h
  rw [if_neg (by simp [h'])]; omega
theorem unsg_get (s : List UInt8) (k : Nat) : s[offS s + k]? = (unsg s)[k]? := by
 cases h : isNeg s
 ·rw [(offS_eq s).2 h]
  have h' : Lib.hasPrefix s [45] = false := h
  unfold unsg Lib.trimPrefix
  rw [if_neg (by simp [h']), Nat.zero_add]
 ·rw [(offS_eq s).1 h]
  have h' : Lib.hasPrefix s [45] = true := h
  unfold unsg Lib.trimPrefix
  rw [if_pos h', List.getElem?_drop]; rfl
abbrev Mx : Nat := 18446744073709551615
def PI (s : List UInt8) (k n : Nat) : Prop := Lib.parseUintM Mx 0 (numS s) = Lib.parseUintM Mx n ((numS s).drop k) ∧ n < 18446744073709551616
theorem numS_drop {s : List UInt8} {k : Nat} {c : UInt8} (hk : k + 1 ≤ spn isDig (unsg s)) (hc : (unsg s)[k]? = some c) : (numS s).drop k = c :: (numS s).drop (k + 1) := by
 have h1 : (numS s)[k]? = some c := by unfold numS; rw [List.getElem?_take_of_lt (by omega)]; exact hc
 obtain ⟨hlt, h2⟩ := List.getElem?_eq_some_iff.1 h1
 rw [List.drop_eq_getElem_cons hlt, h2]
theorem PI.over {s : List UInt8} {k n : Nat} {c : UInt8} (h : PI s k n) (hk : k + 1 ≤ spn isDig (unsg s)) (hc : (unsg s)[k]? = some c) (hd : isDig c = true) (ho : (18446744073709551615 - (c.toNat - 48)) / 10 < n) : ∀ u, Lib.parseUintB 64 (numS s) ≠ .ok u := by
 have hd' := of_decide_eq_true hd
 have e : Lib.parseUintM Mx 0 (numS s) = .range := by
  rw [h.1, numS_drop hk hc, Lib.parseUintM, if_pos hd']
  split
  ·rfl
  ·rw [if_pos (by unfold Mx; omega)]
 intro u hu
 unfold Lib.parseUintB at hu
 split at hu
 ·cases hu
 ·have : Lib.parseUintM Mx 0 (numS s) = .ok u := hu
  rw [e] at this; cases this
theorem PI.step {s : List UInt8} {k n : Nat} {c : UInt8} (h : PI s k n) (hk : k + 1 ≤ spn isDig (unsg s)) (hc : (unsg s)[k]? = some c) (hd : isDig c = true) (ho : ¬ (18446744073709551615 - (c.toNat - 48)) / 10 < n) : PI s (k + 1) (n * 10 + (c.toNat - 48)) := by
 have hd' := of_decide_eq_true hd
 refine ⟨?_, by omega⟩
 rw [h.1, numS_drop hk hc, Lib.parseUintM, if_pos hd', if_neg (by omega), if_neg (by unfold Mx; omega)]
theorem PI.fin {s : List UInt8} {n : Nat} (h : PI s (spn isDig (unsg s)) n) : (spn isDig (unsg s) = 0 → ∀ u, Lib.parseUintB 64 (numS s) ≠ .ok u) ∧ (spn isDig (unsg s) ≠ 0 → Lib.parseUintB 64 (numS s) = .ok n) := by
 have hl : (numS s).length = spn isDig (unsg s) := by have := spn_le isDig (unsg s); simp [numS]; omega
 refine ⟨fun e u hu => ?_, fun e => ?_⟩
 ·rw [List.eq_nil_of_length_eq_zero (hl.trans e)] at hu; cases hu
 ·have hne : numS s ≠ [] := fun e2 => e (by rw [← hl, e2]; rfl)
  unfold Lib.parseUintB
  rw [if_neg hne]
  show Lib.parseUintM Mx 0 (numS s) = .ok n
  rw [h.1, List.drop_of_length_le (by omega)]; rfl
theorem rn_d {c : UInt8} (hd : isDig c = true) : IntKind.u64.wrap (IntKind.u8.wrap ((c.toNat : Int) - 48)) = ((c.toNat - 48 : Nat) : Int) := by
 have hd' := of_decide_eq_true hd
 rw [wru8 (by omega) (by omega), wru64 (by omega) (by omega)]; omega
theorem rn_q {c : UInt8} (hd : isDig c = true) : (IntKind.u64.wrap ((IntKind.u64.wrap (18446744073709551615 - IntKind.u64.wrap (IntKind.u8.wrap ((c.toNat : Int) - 48)))).tdiv 10)) = (((18446744073709551615 - (c.toNat - 48)) / 10 : Nat) : Int) := by
 have hd' := of_decide_eq_true hd
 rw [rn_d hd, wru64 (n := 18446744073709551615 - ((c.toNat - 48 : Nat) : Int)) (by omega) (by omega), Int.tdiv_eq_ediv_of_nonneg (by omega), wru64 (by omega) (by omega)]; omega
theorem rn_n {c : UInt8} {n : Nat} (hd : isDig c = true) (ho : ¬ (18446744073709551615 - (c.toNat - 48)) / 10 < n) : IntKind.u64.wrap (IntKind.u64.wrap (10 * (n : Int)) + IntKind.u64.wrap (IntKind.u8.wrap ((c.toNat : Int) - 48))) = ((n * 10 + (c.toNat - 48) : Nat) : Int) := by
 have hd' := of_decide_eq_true hd
 rw [rn_d hd, wru64 (n := 10 * (n : Int)) (by omega) (by omega), wru64 (by omega) (by omega)]; omega
def StN3 (H : Hp) (s : List UInt8) (j : Int) : St := [(.h, .hp H), (.s 0, .sv (.v (.str s))), (.s 5, .sv (.v (.int .i64 j))), (.s 6, .sv (.v (.bool (isNeg s))))]
def StN (H : Hp) (s : List UInt8) (j m : Int) (n : Nat) : St := [(.h, .hp H), (.s 0, .sv (.v (.str s))), (.s 5, .sv (.v (.int .i64 j))), (.s 6, .sv (.v (.bool (isNeg s)))), (.s 7, .sv (.v (.int .i64 m))), (.s 8, .sv (.v (.int .u64 (n : Int))))]
theorem rnumber_pure (s : List UInt8) (hs : s.length ≤ 1073741824) : Pure Tryz.prog 83 [.str s] (numR s) := by
 refine Pure.of_tri Tryz.func83 rfl rfl (ltb rfl) fun H => ?_
 refine Tri.seq (Tri.region ?_)
 iterate 3 (refine TriL.c1 rfl (op_as (ltb rfl) rfl) ?_)
 refine TriL.nil (Tri.seq (Tri.region ?_))
 refine TriL.c1 rfl (op_as (ltb rfl) rfl) ?_
 refine TriL.nil ?_
 refine Tri.join (fun w => w = StN3 H s 0) ?_ ?_
 ·-- region 2 ref.go:69
  refine Tri.region ?_
  refine TriL.c1 rfl (op_mv (ltb rfl) rfl) ?_
  refine TriL.c1 rfl (op_lens (ltb rfl) un9_q rfl) ?_
  refine TriL.c1 rfl (op_bin (ltb rfl) rfl rfl rfl) ?_
  refine TriL.c1 rfl (op_mv (ltb rfl) rfl) ?_
  refine TriL.split (d := 13) rfl (fun hg1 => ?_) (fun hg1 => ?_)
  ·obtain ⟨c, r, rfl⟩ : ∃ c r, s = c :: r := by
     cases s with
     | nil => simp at hg1
     | cons c r => exact ⟨c, r, rfl⟩
   refine TriL.g1 rfl (ltb rfl) rfl hg1 (op_mv (ltb rfl) rfl) ?_
   refine TriL.g1 rfl (ltb rfl) rfl hg1 (op_ixs (ltb rfl) un9_q rfl rfl (by decide) rfl) ?_
   refine TriL.g1 rfl (ltb rfl) rfl hg1 (op_bin (ltb rfl) rfl rfl rfl) ?_
   refine TriL.c1 rfl (op_pickt (ltb rfl) rfl hg1 rfl) ?_
   refine TriL.c1 rfl (op_as (ltb rfl) rfl) ?_
   refine TriL.kept (Kept.keep [.h, .s 0, .s 5, .s 6] rfl (by decide) (Kept.now ?_))
   unfold StN3; rw [isNeg_cons]
  ·iterate 3 (refine TriL.skipu rfl rfl (ltb rfl) (ltb rfl) rfl hg1 ?_)
   refine TriL.c1 rfl (op_pickf (ltb rfl) rfl hg1 rfl) ?_
   refine TriL.c1 rfl (op_as (ltb rfl) rfl) ?_
   refine TriL.kept (Kept.keep [.h, .s 0, .s 5, .s 6] rfl (by decide) (Kept.now ?_))
   have h0 : s = [] := List.eq_nil_of_length_eq_zero (by have := of_decide_eq_false hg1; omega)
   subst h0; rfl
 ·rintro w rfl
  refine Tri.join (fun w => ∃ j : Int, w = StN3 H s j ∧ j = offS s) ?_ ?_
  ·refine Tri.seq (Tri.region ?_)
   refine TriL.c1 rfl (op_mv (ltb rfl) rfl) ?_
   refine TriL.nil ?_
   refine Tri.cond rfl (fun hc2 => ?_) (fun hc2 => ?_)
   ·-- region 4 ref.go:71
    refine Tri.region ?_
    refine TriL.c1 rfl (op_as (ltb rfl) rfl) ?_
    refine TriL.kept (Kept.keep [.h, .s 0, .s 5, .s 6] rfl (by decide) (Kept.now ?_))
    exact ⟨1, rfl, by rw [(offS_eq s).1 hc2]; rfl⟩
   ·refine Tri.ofKept (Kept.keep [.h, .s 0, .s 5, .s 6] rfl (by decide) (Kept.now ?_))
    refine Tri.skip ?_
    exact ⟨0, rfl, by rw [(offS_eq s).2 hc2]; rfl⟩
  ·rintro w ⟨j, rfl, hj⟩
   refine Tri.seq (Tri.region ?_)
   refine TriL.c1 rfl (op_mv (ltb rfl) rfl) ?_
   iterate 2 (refine TriL.c1 rfl (op_as (ltb rfl) rfl) ?_)
   refine TriL.kept (Kept.keep [.h, .s 0, .s 5, .s 6, .s 7, .s 8] rfl (by decide) (Kept.now ?_))
   refine Tri.join (fun w => ∃ (j m : Int) (n : Nat), w = StN H s j m n ∧ j = offS s + spn isDig (unsg s) ∧ m = offS s ∧ PI s (spn isDig (unsg s)) n) ?_ ?_
   ·refine Tri.blk ?_
    -- LOOP 1: KEEP
    refine Tri.loop (fun q w => ∃ (k : Nat) (j m : Int) (n : Nat), w = StN H s j m n ∧ j = offS s + k ∧ m = offS s ∧ k ≤ spn isDig (unsg s) ∧ PI s k n ∧ q = s.length - k) ?_ (n := s.length) ⟨0, j, j, 0, rfl, by rw [hj]; simp, hj, Nat.zero_le _, ⟨rfl, by decide⟩, rfl⟩
    rintro q w ⟨k, j, m, n, rfl, hj, hm, hk, hpi, rfl⟩
    have h1 := unsg_le s
    have h2 := spn_le isDig (unsg s)
    have h3 : offS s + (unsg s).length = s.length := by unfold offS; omega
    have hB : numB s = offS s + spn isDig (unsg s) := by unfold numB offS; rfl
    refine Tri.seq (Tri.seq (Tri.region ?_))
    iterate 2 (refine TriL.c1 rfl (op_mv (ltb rfl) rfl) ?_)
    refine TriL.c1 rfl (op_lens (ltb rfl) un9_q rfl) ?_
    refine TriL.c1 rfl (op_bin (ltb rfl) rfl rfl rfl) ?_
    refine TriL.c1 rfl (op_mv (ltb rfl) rfl) ?_
    refine TriL.split (d := 24) rfl (fun hg3 => ?_) (fun hg3 => ?_)
    ·have hlt : k < (unsg s).length := by have := of_decide_eq_true hg3; omega
     obtain ⟨c, hc⟩ : ∃ c, (unsg s)[k]? = some c := ⟨(unsg s)[k], List.getElem?_eq_getElem hlt⟩
     have hcs : s[offS s + k]? = some c := (unsg_get s k).trans hc
     have hd := spn_drop isDig (unsg s) k c hk hc
     iterate 2 (refine TriL.g1 rfl (ltb rfl) rfl hg3 (op_mv (ltb rfl) rfl) ?_)
     refine TriL.g1 rfl (ltb rfl) rfl hg3 (op_ixs (ltb rfl) un9_q rfl rfl (by omega) (ixc (i := offS s + k) (by omega) hcs)) ?_
     refine TriL.g1 rfl (ltb rfl) rfl hg3 (op_call (ltb rfl) fn119_q rfl (rdigit_pure c)) ?_
     refine TriL.c1 rfl (op_pickt (ltb rfl) rfl hg3 rfl) ?_
     refine TriL.nil ?_
     refine Tri.cond rfl (fun hc4 => ?_) (fun hc4 => ?_)
     ·refine Tri.skip (Tri.blk (Tri.seq (Tri.region ?_)))
      iterate 2 (refine TriL.c1 rfl (op_mv (ltb rfl) rfl) ?_)
      refine TriL.c1 rfl (op_ixs (ltb rfl) un9_q rfl rfl (by omega) (ixc (i := offS s + k) (by omega) hcs)) ?_
      refine TriL.c1 rfl (op_bin (ltb rfl) rfl rfl rfl) ?_
      refine TriL.c1 rfl (op_cvi (ltb rfl) un5_q un41_q rfl) ?_
      refine TriL.c1 rfl (op_as (ltb rfl) rfl) ?_
      refine TriL.nil (Tri.seq (Tri.seq (Tri.region ?_)))
      iterate 2 (refine TriL.c1 rfl (op_mv (ltb rfl) rfl) ?_)
      iterate 3 (refine TriL.c1 rfl (op_bin (ltb rfl) rfl rfl rfl) ?_)
      refine TriL.nil ?_
      refine Tri.cond rfl (fun hc5 => ?_) (fun hc5 => ?_)
      ·have ho : (18446744073709551615 - (c.toNat - 48)) / 10 < n := by have := of_decide_eq_true hc5; rw [rn_q hc4] at this; omega
       refine Tri.seq (Tri.region ?_)
       iterate 3 (refine TriL.c1 rfl (op_as (ltb rfl) rfl) ?_)
       refine TriL.nil (Tri.ret ?_)
       exact ⟨.inr rfl, (ResOK.r3 rfl (.tmp rfl (.tmp rfl (.tmp rfl .nil)))).cast (by unfold numR; rw [numT_bad (hpi.over (hd.1 hc4) hc hc4 ho)]; rfl), rfl⟩
      ·have ho : ¬ (18446744073709551615 - (c.toNat - 48)) / 10 < n := by have := of_decide_eq_false hc5; rw [rn_q hc4] at this; omega
       refine Tri.skip (Tri.seq (Tri.region ?_))
       refine TriL.c1 rfl (op_mv (ltb rfl) rfl) ?_
       refine TriL.c1 rfl (op_bin (ltb rfl) rfl rfl rfl) ?_
       refine TriL.c1 rfl (op_mv (ltb rfl) rfl) ?_
       refine TriL.c1 rfl (op_bin (ltb rfl) rfl rfl rfl) ?_
       refine TriL.c1 rfl (op_as (ltb rfl) rfl) ?_
       refine TriL.nil (Tri.region ?_)
       refine TriL.c1 rfl (op_mv (ltb rfl) rfl) ?_
       refine TriL.c1 rfl (op_bin (ltb rfl) rfl rfl rfl) ?_
       refine TriL.c1 rfl (op_as (ltb rfl) rfl) ?_
       refine TriL.kept (Kept.keep [.h, .s 0, .s 5, .s 6, .s 7, .s 8] rfl (by decide) (Kept.now ?_))
       exact ⟨s.length - (k + 1), by omega, k + 1, IntKind.i64.wrap (j + 1), m, n * 10 + (c.toNat - 48), by rw [rn_n hc4 ho]; rfl, by rw [hj, wr64] <;> omega, hm, hd.1 hc4, hpi.step (hd.1 hc4) hc hc4 ho, rfl⟩
     ·refine Tri.ofKept (Kept.keep [.h, .s 0, .s 5, .s 6, .s 7, .s 8] rfl (by decide) (Kept.now ?_))
      refine Tri.exit ?_
      have e := hd.2 hc4
      exact ⟨j, m, n, rfl, by rw [hj, e], hm, by rw [e]; exact hpi⟩
    ·iterate 4 (refine TriL.skipu rfl rfl (ltb rfl) (ltb rfl) rfl hg3 ?_)
     refine TriL.c1 rfl (op_pickf (ltb rfl) rfl hg3 rfl) ?_
     refine TriL.nil ?_
     refine Tri.condF rfl rfl ?_
     refine Tri.ofKept (Kept.keep [.h, .s 0, .s 5, .s 6, .s 7, .s 8] rfl (by decide) (Kept.now ?_))
     refine Tri.exit ?_
     have e : spn isDig (unsg s) = k := by have := of_decide_eq_false hg3; omega
     exact ⟨j, m, n, rfl, by rw [hj, e], hm, by rw [e]; exact hpi⟩
   ·rintro w ⟨j, m, n, rfl, hj, hm, hpi⟩
    have h1 := unsg_le s
    have h2 := spn_le isDig (unsg s)
    have h3 : offS s + (unsg s).length = s.length := by unfold offS; omega
    have hB : numB s = offS s + spn isDig (unsg s) := by unfold numB offS; rfl
    have hf := hpi.fin
    have e2 : (s.drop (0 : Int).toNat).take (j.toNat - (0 : Int).toNat) = s.take (numB s) := by rw [hj, hB]; simp; congr 1
    refine Tri.seq (Tri.seq ?_)
    refine Tri.drawn mixed rfl ?_
    iterate 2 (refine TriD.c1 rfl (op_mv (ltb rfl) rfl) ?_)
    refine TriD.c1 rfl (op_bin (ltb rfl) rfl rfl rfl) ?_
    refine TriD.c1 rfl (op_mv (ltb rfl) rfl) ?_
    refine TriD.split (d := 49) rfl (fun hg6 => ?_) (fun hg6 => ?_)
    ·iterate 7 (refine TriD.skipu rfl rfl (ltb rfl) (ltb rfl) rfl hg6 ?_)
     refine TriD.c1 rfl (op_pickt (ltb rfl) rfl hg6 rfl) ?_
     refine TriD.c1 rfl (op_mv (ltb rfl) rfl) ?_
     iterate 2 (refine TriD.skipu rfl rfl (ltb rfl) (ltb rfl) rfl rfl ?_)
     iterate 2 (refine TriD.skipg rfl rfl (ltb rfl) (ltb rfl) rfl ?_)
     refine TriD.skipu rfl rfl (ltb rfl) (ltb rfl) rfl rfl ?_
     refine TriD.c1 rfl (op_pickt (ltb rfl) rfl rfl rfl) ?_
     refine TriD.nil (by kernel_rfl) (Kept.now ?_)
     refine Tri.condT rfl rfl ?_
     refine Tri.seq (Tri.region ?_)
     iterate 3 (refine TriL.c1 rfl (op_as (ltb rfl) rfl) ?_)
     refine TriL.nil (Tri.ret ?_)
     exact ⟨.inr rfl, (ResOK.r3 rfl (.tmp rfl (.tmp rfl (.tmp rfl .nil)))).cast (by unfold numR; rw [numT_bad (hf.1 (by have := eq_of_beq hg6; omega))]; rfl), rfl⟩
    ·have hk := hf.2 (by have := beq_eq_false_iff_ne.1 hg6; omega)
     iterate 2 (refine TriD.g1 rfl (ltb rfl) rfl hg6 (op_mv (ltb rfl) rfl) ?_)
     refine TriD.g1 rfl (ltb rfl) rfl hg6 (op_call (ltb rfl) fn78_q rfl (rdigits_pure n (isNeg s) hpi.2)) ?_
     iterate 2 (refine TriD.g1 rfl (ltb rfl) rfl hg6 (op_mv (ltb rfl) rfl) ?_)
     refine TriD.g1 rfl (ltb rfl) rfl hg6 (op_cuts (ltb rfl) un9_q rfl rfl rfl (by omega) (by omega) (by omega)) ?_
     refine TriD.g1 rfl (ltb rfl) rfl hg6 (op_bin (ltb rfl) rfl rfl rfl) ?_
     refine TriD.c1 rfl (op_pickf (ltb rfl) rfl hg6 rfl) ?_
     refine TriD.c1 rfl (op_mv (ltb rfl) rfl) ?_
     refine TriD.split (d := 58) rfl (fun hg7 => ?_) (fun hg7 => ?_)
     ·iterate 2 (refine TriD.skipu rfl rfl (ltb rfl) (ltb rfl) rfl hg7 ?_)
      iterate 2 (refine TriD.skipg rfl rfl (ltb rfl) (ltb rfl) rfl ?_)
      refine TriD.skipu rfl rfl (ltb rfl) (ltb rfl) rfl hg7 ?_
      refine TriD.c1 rfl (op_pickt (ltb rfl) rfl hg7 rfl) ?_
      refine TriD.nil (by kernel_rfl) (Kept.now ?_)
      refine Tri.condT rfl rfl ?_
      refine Tri.seq (Tri.region ?_)
      iterate 3 (refine TriL.c1 rfl (op_as (ltb rfl) rfl) ?_)
      refine TriL.nil (Tri.ret ?_)
      exact ⟨.inr rfl, (ResOK.r3 rfl (.tmp rfl (.tmp rfl (.tmp rfl .nil)))).cast (by
       have hne : digs n (isNeg s) ≠ s.take (numB s) := by
        rw [← e2]
        have h := hg7
        simp only [Bool.not_eq_true', beq_eq_false_iff_ne, ne_eq] at h
        exact h
       unfold numR; rw [numT_no hk (.inr hne)]; rfl), rfl⟩
     ·iterate 2 (refine TriD.g1 rfl (ltb rfl) rfl hg7 (op_mv (ltb rfl) rfl) ?_)
      refine TriD.split (d := 60) rfl (fun hg8 => ?_) (fun hg8 => ?_)
      ·refine TriD.g1 rfl (ltb rfl) rfl hg8 (op_mv (ltb rfl) rfl) ?_
       refine TriD.g1 rfl (ltb rfl) rfl hg8 (op_bin (ltb rfl) rfl rfl rfl) ?_
       refine TriD.g1 rfl (ltb rfl) rfl hg7 (op_pickt (ltb rfl) rfl hg8 rfl) ?_
       refine TriD.c1 rfl (op_pickf (ltb rfl) rfl hg7 rfl) ?_
       refine TriD.nil (by kernel_rfl) (Kept.now ?_)
       refine Tri.cond rfl (fun hc9 => ?_) (fun hc9 => ?_)
       ·refine Tri.seq (Tri.region ?_)
        iterate 3 (refine TriL.c1 rfl (op_as (ltb rfl) rfl) ?_)
        refine TriL.nil (Tri.ret ?_)
        exact ⟨.inr rfl, (ResOK.r3 rfl (.tmp rfl (.tmp rfl (.tmp rfl .nil)))).cast (by unfold numR; rw [numT_no hk (.inl ⟨hg8, by have := of_decide_eq_true hc9; omega⟩)]; rfl), rfl⟩
       ·refine Tri.skip (Tri.seq (Tri.region ?_))
        iterate 3 (refine TriL.c1 rfl (op_mv (ltb rfl) rfl) ?_)
        iterate 3 (refine TriL.c1 rfl (op_as (ltb rfl) rfl) ?_)
        refine TriL.nil (Tri.ret ?_)
        exact ⟨.inr rfl, (ResOK.r3 rfl (.tmp rfl (.tmp rfl (.tmp rfl .nil)))).cast (by
         have heq : digs n (isNeg s) = s.take (numB s) := by
          rw [← e2]
          have h := hg7
          simp only [Bool.not_eq_false', beq_iff_eq] at h
          exact h
         unfold numR; rw [numT_ok hk (fun h => (by have := of_decide_eq_false hc9; omega)) heq, hj, hB]; rfl), rfl⟩
      ·iterate 2 (refine TriD.skipu rfl rfl (ltb rfl) (ltb rfl) rfl hg8 ?_)
       refine TriD.g1 rfl (ltb rfl) rfl hg7 (op_pickf (ltb rfl) rfl hg8 rfl) ?_
       refine TriD.c1 rfl (op_pickf (ltb rfl) rfl hg7 rfl) ?_
       refine TriD.nil (by kernel_rfl) (Kept.now ?_)
       refine Tri.condF rfl rfl ?_
       refine Tri.skip (Tri.seq (Tri.region ?_))
       iterate 3 (refine TriL.c1 rfl (op_mv (ltb rfl) rfl) ?_)
       iterate 3 (refine TriL.c1 rfl (op_as (ltb rfl) rfl) ?_)
       refine TriL.nil (Tri.ret ?_)
       exact ⟨.inr rfl, (ResOK.r3 rfl (.tmp rfl (.tmp rfl (.tmp rfl .nil)))).cast (by
        have heq : digs n (isNeg s) = s.take (numB s) := by
         rw [← e2]
         have h := hg7
         simp only [Bool.not_eq_false', beq_iff_eq] at h
         exact h
        unfold numR; rw [numT_ok hk (fun h => (by have h5 : isNeg s = false := hg8; rw [h5] at h; cases h.1)) heq, hj, hB]; rfl), rfl⟩
/- lex: a text, in the program and in the document. -/
theorem fn128_q : isFn Tryz.prog 128 = true := by kernel_rfl
theorem fn129_q : isFn Tryz.prog 129 = true := by kernel_rfl
theorem fn130_q : isFn Tryz.prog 130 = true := by kernel_rfl
theorem fn54_q : isFn Tryz.prog 54 = true := by kernel_rfl
theorem cutL {s : List UInt8} {j : Int} {a : Nat} (hj : j = a) : (s.drop j.toNat).take ((s.length : Int).toNat - j.toNat) = s.drop a := by
 subst hj; rw [List.take_of_length_le (by simp)]; simp
theorem idx' {s : List UInt8} {j : Int} {a : Nat} (hj : j = a) : Pure Tryz.prog 128 [.str ((s.drop j.toNat).take ((s.length : Int).toNat - j.toNat)), .str [39]] (.int .i64 (Lib.indexByte (s.drop a) 39)) := by
 rw [cutL hj]; exact index_pure _ 39
theorem has' {s : List UInt8} {j : Int} {a : Nat} (p : List UInt8) (hj : j = a) : Pure Tryz.prog 54 [.str ((s.drop j.toNat).take ((s.length : Int).toNat - j.toNat)), .str p] (.bool (Lib.hasPrefix (s.drop a) p)) := by
 rw [cutL hj]; exact has_pure _ p
theorem txtGo_ne {c : UInt8} {r out : List UInt8} {p : Nat} (h : c ≠ 39) : txtGo (c :: r) out p = txtGo r (out ++ [c]) (p + 1) := by
 cases r <;> simp [txtGo, h]
theorem txt_none : ∀ (l out : List UInt8) (p : Nat), 39 ∉ l → txtGo l out p = none
 | [], _, _, _ => by rw [txtGo]
 | c :: r, out, p, h => by
  have h1 : c ≠ 39 := fun e => h (by rw [e]; exact List.mem_cons_self ..)
  rw [txtGo_ne h1]
  exact txt_none r _ _ fun e => h (List.mem_cons_of_mem _ e)
theorem txt_run : ∀ (n : Nat) (l out : List UInt8) (p : Nat), l[n]? = some 39 → 39 ∉ l.take n → txtGo l out p = txtGo (l.drop n) (out ++ l.take n) (p + n)
 | 0, l, out, p, _, _ => by simp
 | n + 1, [], out, p, h, _ => by simp at h
 | n + 1, c :: r, out, p, h, h2 => by
  have h1 : c ≠ 39 := fun e => h2 (by rw [e]; simp)
  rw [txtGo_ne h1, txt_run n r (out ++ [c]) (p + 1) (by simpa using h) (fun e => h2 (by simp [e]))]
  simp only [List.drop_succ_cons, List.take_succ_cons, List.append_assoc, List.cons_append, List.nil_append]
  congr 1; omega
theorem hasP39 {l : List UInt8} : (Lib.hasPrefix l [39] = true → ∃ r, l = 39 :: r) ∧ (Lib.hasPrefix l [39] = false → ∀ r, l ≠ 39 :: r) := by
 cases l with
 | nil => exact ⟨fun h => by simp [Lib.hasPrefix] at h, fun _ r e => by cases e⟩
 | cons c r =>
  have e : Lib.hasPrefix (c :: r) [39] = (39 == c) := by simp [Lib.hasPrefix, List.isPrefixOf]
  rw [e]
  exact ⟨fun h => ⟨r, by rw [eq_of_beq h]⟩, fun h r' e => by cases e; simp at h⟩
theorem txt_end {l out : List UInt8} {p : Nat} (h : ∀ r, l ≠ 39 :: r) : txtGo (39 :: l) out p = some (out, p + 1) := by
 cases l with
 | nil => simp [txtGo]
 | cons d r =>
  have hd : d ≠ 39 := fun e => h r (by rw [e])
  simp [txtGo, hd]
theorem txt_two {l out : List UInt8} {p : Nat} : txtGo (39 :: 39 :: l) out p = txtGo l (out ++ [39]) (p + 2) := by
 simp [txtGo]
theorem txtTk_none {s : List UInt8} (h : txtT s = none) : txtTk s = zeroT := by unfold txtTk; rw [h]
theorem txtTk_some {s o : List UInt8} {k : Nat} (h : txtT s = some (o, k)) : txtTk s = (⟨3, o, 0, false, 0⟩, k) := by unfold txtTk; rw [h]
theorem txtT_no {s : List UInt8} (h : Lib.hasPrefix s [39] = false) : txtT s = none := by
 cases s with
 | nil => rfl
 | cons c r => rw [txtT, if_neg (fun e => hasP39.2 h r (by rw [e]))]
theorem txtT_yes {s : List UInt8} (h : Lib.hasPrefix s [39] = true) : 1 ≤ s.length ∧ txtT s = txtGo (s.drop 1) [] 1 := by
 obtain ⟨r, rfl⟩ := hasP39.1 h
 exact ⟨by simp, by rw [txtT, if_pos rfl]; rfl⟩
def StTx (H : Hp) (s out : List UInt8) (c0 : Sv) (j : Int) : St := [(.h, .hp H), (.s 0, .sv (.v (.str s))), (.s 2, .sv (.lp 2 0)), (.b 2, .bx [.v (.int .i64 0), .v (.str []), .v (.int .u64 0), .v (.bool false), .v (.int .i64 0)]),
 (.s 4, .sv (.lp 4 0)), (.b 4, .bt 173 [c0, .om 904 out.length]), (.t 904, .tk true 5 1 (bsl out)), (.s 5, .sv (.v (.int .i64 j)))]
theorem text_pure (s : List UInt8) (hs : s.length ≤ 1073741824) : Pure Tryz.prog 95 [.str s] (tkn (txtTk s)) := by
 refine Pure.of_tri Tryz.func95 rfl rfl (ltb rfl) fun H => ?_
 refine Tri.seq (Tri.region ?_)
 refine TriL.c2 rfl (op_all (ltb rfl) zA112_q rfl) ?_
 refine TriL.c1 rfl (op_as (ltb rfl) rfl) ?_
 refine TriL.nil (Tri.seq (Tri.seq (Tri.region ?_)))
 refine TriL.c1 rfl (op_mv (ltb rfl) rfl) ?_
 refine TriL.c1 rfl (op_call (ltb rfl) fn54_q rfl (has_pure s [39])) ?_
 refine TriL.c1 rfl (op_un (ltb rfl) rfl rfl) ?_
 refine TriL.nil ?_
 refine Tri.cond rfl (fun hc1 => ?_) (fun hc1 => ?_)
 ·refine Tri.seq (Tri.region ?_)
  refine TriL.c1 rfl (op_bld (ltb rfl) spl112_q zA112_q rfl rfl) ?_
  refine TriL.c1 rfl (op_stl lk112_q rfl rfl rfl rfl rfl (leb rfl)) ?_
  refine TriL.c1 rfl (op_as (ltb rfl) rfl) ?_
  refine TriL.nil (Tri.ret ?_)
  exact ⟨.inr rfl, (ResOK.r2 rfl (.cell lk112_q rfl rfl rfl rfl (.tmp rfl .nil))).cast (by
    have h : Lib.hasPrefix s [39] = false := by simpa using hc1
    rw [txtTk_none (txtT_no h)]; rfl), rfl⟩
 ·have hp : Lib.hasPrefix s [39] = true := by simpa using hc1
  obtain ⟨hl1, hT⟩ := txtT_yes hp
  refine Tri.skip (Tri.seq (Tri.region ?_))
  refine TriL.c3 rfl (op_alb (f := 904) (ltb rfl) rfl rfl) ?_
  refine TriL.nil (Tri.seq (Tri.region ?_))
  refine TriL.c1 rfl (op_as (ltb rfl) rfl) ?_
  refine TriL.kept (Kept.keep [.h, .s 0, .s 2, .b 2, .s 4, .b 4, .t 904, .s 5] rfl (by decide) (Kept.now ?_))
  refine Tri.blk ?_
  -- LOOP 1: KEEP
  refine Tri.loop (fun q w => ∃ (a : Nat) (out : List UInt8) (c0 : Sv) (j : Int), w = StTx H s out c0 j ∧ (c0 = .v .nilp ∨ c0 = .lp 4 0) ∧ j = a ∧ a ≤ s.length ∧ out.length ≤ a ∧ txtT s = txtGo (s.drop a) out a ∧ q = s.length - a) ?_ (n := s.length - 1) ⟨1, [], .v .nilp, 1, rfl, .inl rfl, rfl, hl1, by simp, hT, rfl⟩
  rintro q w ⟨a, out, c0, j, rfl, hc0, hj, ha, ho, hI, rfl⟩
  have hib := ib_spec 39 (s.drop a)
  refine Tri.blk (Tri.seq (Tri.region ?_))
  iterate 2 (refine TriL.c1 rfl (op_mv (ltb rfl) rfl) ?_)
  refine TriL.c1 rfl (op_cuts (ltb rfl) un9_q rfl rfl rfl (by omega) (by omega) (by omega)) ?_
  refine TriL.c1 rfl (op_call (ltb rfl) fn128_q rfl (idx' hj)) ?_
  refine TriL.c1 rfl (op_as (ltb rfl) rfl) ?_
  refine TriL.nil (Tri.seq (Tri.seq (Tri.region ?_)))
  refine TriL.c1 rfl (op_mv (ltb rfl) rfl) ?_
  refine TriL.c1 rfl (op_bin (ltb rfl) rfl rfl rfl) ?_
  refine TriL.nil ?_
  refine Tri.cond rfl (fun hc2 => ?_) (fun hc2 => ?_)
  ·have hno : 39 ∉ s.drop a := by
     rcases hib with ⟨_, h⟩ | ⟨n, h, _⟩
     ·exact h
     ·have := of_decide_eq_true hc2; omega
   refine Tri.seq (Tri.region ?_)
   refine TriL.c1 rfl (op_bld (ltb rfl) spl112_q zA112_q rfl rfl) ?_
   refine TriL.c1 rfl (op_stl lk112_q rfl rfl rfl rfl rfl (leb rfl)) ?_
   refine TriL.c1 rfl (op_as (ltb rfl) rfl) ?_
   refine TriL.nil (Tri.ret ?_)
   exact ⟨.inr rfl, (ResOK.r2 rfl (.cell lk112_q rfl rfl rfl rfl (.tmp rfl .nil))).cast (by rw [txtTk_none (hI.trans (txt_none _ _ _ hno))]; rfl), rfl⟩
  ·obtain ⟨n, e1, e2, e3⟩ : ∃ n : Nat, Lib.indexByte (s.drop a) 39 = n ∧ (s.drop a)[n]? = some 39 ∧ 39 ∉ (s.drop a).take n := by
     rcases hib with ⟨h, _⟩ | h
     ·have := of_decide_eq_false hc2; omega
     ·exact h
   have hlt : a + n < s.length := by
    have := (List.getElem?_eq_some_iff.1 e2).1
    rw [List.length_drop] at this; omega
   have hw : IntKind.i64.wrap (j + Lib.indexByte (s.drop a) 39) = ((a + n : Nat) : Int) := by rw [e1, hj, wr64] <;> omega
   have hw2 : IntKind.i64.wrap (j + IntKind.i64.wrap (Lib.indexByte (s.drop a) 39 + 1)) = ((a + n + 1 : Nat) : Int) := by rw [e1, hj, wr64 (n := (n : Int) + 1) (by omega) (by omega), wr64] <;> omega
   have hseg : (s.drop j.toNat).take ((IntKind.i64.wrap (j + Lib.indexByte (s.drop a) 39)).toNat - j.toNat) = (s.drop a).take n := by rw [hw, hj]; congr 1; omega
   have hR : txtT s = txtGo (39 :: s.drop (a + n + 1)) (out ++ (s.drop a).take n) (a + n) := by
    rw [hI, txt_run n _ _ _ e2 e3, List.drop_drop]
    have e4 : s[a + n]? = some 39 := by rw [List.getElem?_drop] at e2; exact e2
    obtain ⟨h5, h6⟩ := List.getElem?_eq_some_iff.1 e4
    rw [List.drop_eq_getElem_cons h5, h6]
   have hsl : ((s.drop a).take n).length = n := by rw [List.length_take, List.length_drop]; omega
   refine Tri.skip (Tri.seq (Tri.region ?_))
   iterate 4 (refine TriL.c1 rfl (op_mv (ltb rfl) rfl) ?_)
   refine TriL.c1 rfl (op_bin (ltb rfl) rfl rfl rfl) ?_
   refine TriL.c1 rfl (op_cuts (ltb rfl) un9_q rfl rfl rfl (by omega) (by rw [hw]; omega) (by rw [hw]; omega)) ?_
   refine TriL.c4 rfl (op_bws (ltb rfl) rfl rfl hc0 rfl rfl rfl fn129_q (by rw [hseg, hsl]; omega)) ?_
   refine TriL.nil (Tri.seq (Tri.region ?_))
   iterate 2 (refine TriL.c1 rfl (op_mv (ltb rfl) rfl) ?_)
   iterate 2 (refine TriL.c1 rfl (op_bin (ltb rfl) rfl rfl rfl) ?_)
   refine TriL.c1 rfl (op_as (ltb rfl) rfl) ?_
   refine TriL.nil (Tri.seq (Tri.seq (Tri.region ?_)))
   iterate 2 (refine TriL.c1 rfl (op_mv (ltb rfl) rfl) ?_)
   refine TriL.c1 rfl (op_cuts (ltb rfl) un9_q rfl rfl rfl (by rw [hw2]; omega) (by rw [hw2]; omega) (by omega)) ?_
   refine TriL.c1 rfl (op_call (ltb rfl) fn54_q rfl (has' [39] hw2)) ?_
   refine TriL.c1 rfl (op_un (ltb rfl) rfl rfl) ?_
   refine TriL.nil ?_
   refine Tri.cond rfl (fun hc3 => ?_) (fun hc3 => ?_)
   ·refine Tri.seq (Tri.region ?_)
    refine TriL.c3 rfl (op_bstr (ltb rfl) rfl rfl (.inr rfl) rfl rfl fn130_q) ?_
    refine TriL.c1 rfl (op_bld (ltb rfl) spl112_q zA112_q rfl rfl) ?_
    refine TriL.c1 rfl (op_mv (ltb rfl) rfl) ?_
    refine TriL.c1 rfl (op_stl lk112_q rfl rfl rfl rfl rfl (leb rfl)) ?_
    refine TriL.c1 rfl (op_as (ltb rfl) rfl) ?_
    refine TriL.nil (Tri.ret ?_)
    exact ⟨.inr rfl, (ResOK.r2 rfl (.cell lk112_q rfl rfl rfl rfl (.tmp rfl .nil))).cast (by
      have h : Lib.hasPrefix (s.drop (a + n + 1)) [39] = false := by simpa using hc3
      rw [txtTk_some (hR.trans (txt_end (hasP39.2 h))), hseg, hw2]; rfl), rfl⟩
   ·refine Tri.skip (Tri.seq (Tri.region ?_))
    refine TriL.c4 rfl (op_bws (ltb rfl) rfl rfl (.inr rfl) rfl rfl rfl fn129_q (by rw [List.length_append, hseg, hsl]; simp; omega)) ?_
    refine TriL.nil (Tri.region ?_)
    refine TriL.c1 rfl (op_mv (ltb rfl) rfl) ?_
    refine TriL.c1 rfl (op_bin (ltb rfl) rfl rfl rfl) ?_
    refine TriL.c1 rfl (op_as (ltb rfl) rfl) ?_
    refine TriL.kept (Kept.keep [.h, .s 0, .s 2, .b 2, .s 4, .b 4, .t 37, .s 5] rfl (by decide) (Kept.ren 37 904 (by decide) rfl (Kept.now ?_)))
    have h : Lib.hasPrefix (s.drop (a + n + 1)) [39] = true := by simpa using hc3
    obtain ⟨r', hr'⟩ := hasP39.1 h
    have hl2 : a + n + 1 < s.length := by
     have e := congrArg List.length hr'
     rw [List.length_drop, List.length_cons] at e; omega
    have hdr : s.drop (a + n + 2) = r' := by
     have e := congrArg (List.drop 1) hr'
     rw [List.drop_drop] at e; exact e
    refine ⟨s.length - (a + n + 2), by omega, a + n + 2, (out ++ (s.drop j.toNat).take ((IntKind.i64.wrap (j + Lib.indexByte (s.drop a) 39)).toNat - j.toNat)) ++ [39], .lp 4 0, IntKind.i64.wrap (IntKind.i64.wrap (j + IntKind.i64.wrap (Lib.indexByte (s.drop a) 39 + 1)) + 1), rfl, .inr rfl, by rw [hw2, wr64] <;> omega, by omega, ?_, ?_, rfl⟩
    ·rw [hseg, List.length_append, List.length_append, hsl]; simp; omega
    ·rw [hseg, hR, hr', txt_two, hdr]
def txtR (s : List UInt8) : AV := match txtT s with
 | some (o, k) => .tup [.str o, .int .i64 k]
 | none => .tup [.str [], .int .i64 (0 : Nat)]
theorem txtR_none {s : List UInt8} (h : txtT s = none) : txtR s = .tup [.str [], .int .i64 (0 : Nat)] := by unfold txtR; rw [h]
theorem txtR_some {s o : List UInt8} {k : Nat} (h : txtT s = some (o, k)) : txtR s = .tup [.str o, .int .i64 k] := by unfold txtR; rw [h]
theorem txtT_not {c : UInt8} {r : List UInt8} (h : c ≠ 39) : txtT (c :: r) = none := by rw [txtT, if_neg h]
theorem q39 {c : UInt8} (h : (!((c.toNat : Int) == 39)) = false) : c = 39 := UInt8.toNat_inj.1 (by
 have h2 : ((c.toNat : Int) == 39) = true := by simpa using h
 have h3 := eq_of_beq h2
 have e : (39 : UInt8).toNat = 39 := rfl
 omega)
theorem drop_at {s : List UInt8} {i : Nat} {c : UInt8} (h : s[i]? = some c) : s.drop i = c :: s.drop (i + 1) := by
 obtain ⟨h5, h6⟩ := List.getElem?_eq_some_iff.1 h
 rw [List.drop_eq_getElem_cons h5, h6]
def StRt (H : Hp) (s out : List UInt8) (j : Int) : St := [(.h, .hp H), (.s 0, .sv (.v (.str s))), (.s 4, .sv (.ow 6 (bsl out))), (.t 6, .tk false 5 1 (bsl out)), (.s 5, .sv (.v (.int .i64 j)))]
theorem rtext_pure (s : List UInt8) (hs : s.length ≤ 1073741824) : Pure Tryz.prog 84 [.str s] (txtR s) := by
 refine Pure.of_tri Tryz.func84 rfl rfl (ltb rfl) fun H => ?_
 refine Tri.seq (Tri.region ?_)
 iterate 2 (refine TriL.c1 rfl (op_as (ltb rfl) rfl) ?_)
 refine TriL.nil (Tri.seq (Tri.region ?_))
 refine TriL.c2 rfl (op_litt («as» := []) (ltb rfl) se161_q zAe161_q rfl rfl rfl (leb rfl) rfl) ?_
 refine TriL.c1 rfl (op_as (ltb rfl) rfl) ?_
 refine TriL.nil (Tri.seq (Tri.region ?_))
 refine TriL.c1 rfl (op_as (ltb rfl) rfl) ?_
 refine TriL.kept (Kept.keep [.h, .s 0, .s 4, .t 6, .s 5] rfl (by decide) (Kept.now ?_))
 refine Tri.seq (Tri.blk ?_)
 -- LOOP 1: KEEP
 refine Tri.loop (fun q w => ∃ (a : Nat) (out : List UInt8) (j : Int), w = StRt H s out j ∧ j = a ∧ 1 ≤ a ∧ a ≤ s.length + 1 ∧ out.length ≤ a ∧ (s[0]? = some 39 → txtT s = txtGo (s.drop a) out a) ∧ q = s.length + 1 - a) ?_ (n := s.length) ⟨1, [], 1, rfl, rfl, by omega, by omega, by simp, fun h => by rw [(txtT_yes (s := s) (by cases s with | nil => simp at h | cons c r => simp at h; subst h; simp [Lib.hasPrefix, List.isPrefixOf])).2], rfl⟩
 rintro q w ⟨a, out, j, rfl, hj, ha1, ha, ho, hI, rfl⟩
 refine Tri.seq (Tri.seq (Tri.region ?_))
 refine TriL.c1 rfl (op_mv (ltb rfl) rfl) ?_
 refine TriL.c1 rfl (op_lens (ltb rfl) un9_q rfl) ?_
 refine TriL.c1 rfl (op_bin (ltb rfl) rfl rfl rfl) ?_
 refine TriL.c1 rfl (op_mv (ltb rfl) rfl) ?_
 refine TriL.split (d := 10) rfl (fun hg1 => ?_) (fun hg1 => ?_)
 ·obtain ⟨c0, hc0⟩ : ∃ c, s[0]? = some c := ⟨s[0]'(by have := of_decide_eq_true hg1; omega), List.getElem?_eq_getElem _⟩
  refine TriL.g1 rfl (ltb rfl) rfl hg1 (op_mv (ltb rfl) rfl) ?_
  refine TriL.g1 rfl (ltb rfl) rfl hg1 (op_ixs (ltb rfl) un9_q rfl rfl (by decide) hc0) ?_
  refine TriL.g1 rfl (ltb rfl) rfl hg1 (op_bin (ltb rfl) rfl rfl rfl) ?_
  refine TriL.c1 rfl (op_pickt (ltb rfl) rfl hg1 rfl) ?_
  refine TriL.c1 rfl (op_mv (ltb rfl) rfl) ?_
  refine TriL.split (d := 15) rfl (fun hg2 => ?_) (fun hg2 => ?_)
  ·have hq : c0 = 39 := UInt8.toNat_inj.1 (by have := eq_of_beq hg2; have e : (39 : UInt8).toNat = 39 := rfl; omega)
   subst hq
   have hI := hI hc0
   iterate 2 (refine TriL.g1 rfl (ltb rfl) rfl hg2 (op_mv (ltb rfl) rfl) ?_)
   refine TriL.g1 rfl (ltb rfl) rfl hg2 (op_lens (ltb rfl) un9_q rfl) ?_
   refine TriL.g1 rfl (ltb rfl) rfl hg2 (op_bin (ltb rfl) rfl rfl rfl) ?_
   refine TriL.c1 rfl (op_pickt (ltb rfl) rfl hg2 rfl) ?_
   refine TriL.nil ?_
   refine Tri.cond rfl (fun hc3 => ?_) (fun hc3 => ?_)
   ·have hlt : a < s.length := by have := of_decide_eq_true hc3; omega
    obtain ⟨c, hc⟩ : ∃ c, s[a]? = some c := ⟨s[a], List.getElem?_eq_getElem hlt⟩
    have hda := drop_at hc
    refine Tri.skip (Tri.blk (Tri.seq (Tri.seq (Tri.region ?_))))
    iterate 2 (refine TriL.c1 rfl (op_mv (ltb rfl) rfl) ?_)
    refine TriL.c1 rfl (op_ixs (ltb rfl) un9_q rfl rfl (by omega) (ixc hj hc)) ?_
    refine TriL.c1 rfl (op_bin (ltb rfl) rfl rfl rfl) ?_
    refine TriL.nil ?_
    refine Tri.cond rfl (fun hc4 => ?_) (fun hc4 => ?_)
    ·have hne : c ≠ 39 := fun e => by subst e; revert hc4; decide
     have hnx : txtT s = txtGo (s.drop (a + 1)) (out ++ [c]) (a + 1) := by rw [hI, hda, txtGo_ne hne]
     refine Tri.seq (Tri.region ?_)
     iterate 3 (refine TriL.c1 rfl (op_mv (ltb rfl) rfl) ?_)
     refine TriL.c1 rfl (op_ixs (ltb rfl) un9_q rfl rfl (by omega) (ixc hj hc)) ?_
     refine TriL.c1 rfl (op_lit («as» := [_]) (ltb rfl) se161_q zAe161_q rfl rfl rfl (leb rfl)) ?_
     refine TriL.c3 rfl (op_app (ltb rfl) se161_q rfl rfl rfl rfl rfl (by simp [bsl_len]; omega) (by simp [bsl_len]; omega)) ?_
     refine TriL.c1 rfl (op_as (ltb rfl) rfl) ?_
     refine TriL.nil (Tri.seq (Tri.region ?_))
     refine TriL.c1 rfl (op_mv (ltb rfl) rfl) ?_
     refine TriL.c1 rfl (op_bin (ltb rfl) rfl rfl rfl) ?_
     refine TriL.c1 rfl (op_as (ltb rfl) rfl) ?_
     refine TriL.kept (Kept.keep [.h, .s 0, .s 4, .t 30, .s 5] rfl (by decide) (Kept.ren 30 6 (by decide) rfl (Kept.now ?_)))
     refine Tri.exit ?_
     exact ⟨s.length + 1 - (a + 1), by omega, a + 1, out ++ [c], IntKind.i64.wrap (j + 1), by unfold StRt; rw [show bsl (out ++ [c]) = bsl out ++ [.int .u8 ((c : UInt8).toNat : Int)] from bsl_app out [c]]; rfl, by rw [hj, wr64] <;> omega, by omega, by omega, by simp; omega, fun _ => hnx, rfl⟩
    ·have hq : c = 39 := q39 hc4
     subst hq
     have hw1 : IntKind.i64.wrap (j + 1) = ((a + 1 : Nat) : Int) := by rw [hj, wr64] <;> omega
     refine Tri.skip (Tri.seq (Tri.seq (Tri.region ?_)))
     refine TriL.c1 rfl (op_mv (ltb rfl) rfl) ?_
     refine TriL.c1 rfl (op_bin (ltb rfl) rfl rfl rfl) ?_
     refine TriL.c1 rfl (op_mv (ltb rfl) rfl) ?_
     refine TriL.c1 rfl (op_lens (ltb rfl) un9_q rfl) ?_
     refine TriL.c1 rfl (op_bin (ltb rfl) rfl rfl rfl) ?_
     refine TriL.c1 rfl (op_mv (ltb rfl) rfl) ?_
     refine TriL.split (d := 38) rfl (fun hg5 => ?_) (fun hg5 => ?_)
     ·iterate 5 (refine TriL.skipu rfl rfl (ltb rfl) (ltb rfl) rfl hg5 ?_)
      refine TriL.c1 rfl (op_pickt (ltb rfl) rfl hg5 rfl) ?_
      refine TriL.nil ?_
      refine Tri.condT rfl rfl ?_
      refine Tri.seq (Tri.region ?_)
      refine TriL.c1 rfl (op_mv (ltb rfl) rfl) ?_
      refine TriL.c1 rfl (op_b2s (ltb rfl) un161_q unel161_q un9_q rfl (bytesOf_bsl _)) ?_
      refine TriL.c1 rfl (op_mv (ltb rfl) rfl) ?_
      refine TriL.c1 rfl (op_bin (ltb rfl) rfl rfl rfl) ?_
      iterate 2 (refine TriL.c1 rfl (op_as (ltb rfl) rfl) ?_)
      refine TriL.nil (Tri.ret ?_)
      exact ⟨.inr rfl, (ResOK.r2 rfl (.tmp rfl (.tmp rfl .nil))).cast (by
              have he : s.drop (a + 1) = [] := List.drop_of_length_le (by have := of_decide_eq_true hg5; rw [hw1] at this; omega)
              rw [txtR_some (hI.trans (by rw [hda, he]; exact txt_end (fun r e => by cases e))), hw1]), rfl⟩
     ·have hlt2 : a + 1 < s.length := by have := of_decide_eq_false hg5; rw [hw1] at this; omega
      obtain ⟨d, hd⟩ : ∃ d, s[a + 1]? = some d := ⟨s[a + 1], List.getElem?_eq_getElem hlt2⟩
      have hdb := drop_at hd
      iterate 2 (refine TriL.g1 rfl (ltb rfl) rfl hg5 (op_mv (ltb rfl) rfl) ?_)
      refine TriL.g1 rfl (ltb rfl) rfl hg5 (op_bin (ltb rfl) rfl rfl rfl) ?_
      refine TriL.g1 rfl (ltb rfl) rfl hg5 (op_ixs (ltb rfl) un9_q rfl rfl (by rw [hw1]; omega) (ixc hw1 hd)) ?_
      refine TriL.g1 rfl (ltb rfl) rfl hg5 (op_bin (ltb rfl) rfl rfl rfl) ?_
      refine TriL.c1 rfl (op_pickf (ltb rfl) rfl hg5 rfl) ?_
      refine TriL.nil ?_
      refine Tri.cond rfl (fun hc6 => ?_) (fun hc6 => ?_)
      ·refine Tri.seq (Tri.region ?_)
       refine TriL.c1 rfl (op_mv (ltb rfl) rfl) ?_
       refine TriL.c1 rfl (op_b2s (ltb rfl) un161_q unel161_q un9_q rfl (bytesOf_bsl _)) ?_
       refine TriL.c1 rfl (op_mv (ltb rfl) rfl) ?_
       refine TriL.c1 rfl (op_bin (ltb rfl) rfl rfl rfl) ?_
       iterate 2 (refine TriL.c1 rfl (op_as (ltb rfl) rfl) ?_)
       refine TriL.nil (Tri.ret ?_)
       exact ⟨.inr rfl, (ResOK.r2 rfl (.tmp rfl (.tmp rfl .nil))).cast (by
                have hne : d ≠ 39 := fun e => by subst e; revert hc6; decide
                rw [txtR_some (hI.trans (by rw [hda, hdb]; exact txt_end (fun r e => hne (by cases e; rfl)))), hw1]), rfl⟩
      ·have hq : d = 39 := q39 hc6
       subst hq
       have hnx : txtT s = txtGo (s.drop (a + 2)) (out ++ [39]) (a + 2) := by rw [hI, hda, hdb, txt_two]
       refine Tri.skip (Tri.seq (Tri.region ?_))
       refine TriL.c1 rfl (op_mv (ltb rfl) rfl) ?_
       refine TriL.c1 rfl (op_lit («as» := [_]) (ltb rfl) se161_q zAe161_q rfl rfl rfl (leb rfl)) ?_
       refine TriL.c3 rfl (op_app (ltb rfl) se161_q rfl rfl rfl rfl rfl (by simp [bsl_len]; omega) (by simp [bsl_len]; omega)) ?_
       refine TriL.c1 rfl (op_as (ltb rfl) rfl) ?_
       refine TriL.nil (Tri.region ?_)
       refine TriL.c1 rfl (op_mv (ltb rfl) rfl) ?_
       refine TriL.c1 rfl (op_bin (ltb rfl) rfl rfl rfl) ?_
       refine TriL.c1 rfl (op_as (ltb rfl) rfl) ?_
       refine TriL.kept (Kept.keep [.h, .s 0, .s 4, .t 51, .s 5] rfl (by decide) (Kept.ren 51 6 (by decide) rfl (Kept.now ?_)))
       exact ⟨s.length + 1 - (a + 2), by omega, a + 2, out ++ [39], IntKind.i64.wrap (j + 2), by unfold StRt; rw [show bsl (out ++ [39]) = bsl out ++ [.int .u8 ((39 : UInt8).toNat : Int)] from bsl_app out [39]]; rfl, by rw [hj, wr64] <;> omega, by omega, by omega, by simp; omega, fun _ => hnx, rfl⟩
   ·refine Tri.exit (Tri.seq (Tri.region ?_))
    iterate 2 (refine TriL.c1 rfl (op_as (ltb rfl) rfl) ?_)
    refine TriL.nil (Tri.ret ?_)
    exact ⟨.inr rfl, (ResOK.r2 rfl (.tmp rfl (.tmp rfl .nil))).cast (by rw [txtR_none (hI.trans (by rw [List.drop_of_length_le (by have := of_decide_eq_false hc3; omega)]; rw [txtGo]))]; rfl), rfl⟩
  ·iterate 4 (refine TriL.skipu rfl rfl (ltb rfl) (ltb rfl) rfl hg2 ?_)
   refine TriL.c1 rfl (op_pickf (ltb rfl) rfl hg2 rfl) ?_
   refine TriL.nil ?_
   refine Tri.condF rfl rfl ?_
   refine Tri.exit (Tri.seq (Tri.region ?_))
   iterate 2 (refine TriL.c1 rfl (op_as (ltb rfl) rfl) ?_)
   refine TriL.nil (Tri.ret ?_)
   exact ⟨.inr rfl, (ResOK.r2 rfl (.tmp rfl (.tmp rfl .nil))).cast (by
        have hne : c0 ≠ 39 := fun e => by subst e; revert hg2; decide
        cases s with
        | nil => simp at hc0
        | cons x r => simp at hc0; subst hc0; rw [txtR_none (txtT_not hne)]; rfl), rfl⟩
 ·iterate 3 (refine TriL.skipu rfl rfl (ltb rfl) (ltb rfl) rfl hg1 ?_)
  refine TriL.c1 rfl (op_pickf (ltb rfl) rfl hg1 rfl) ?_
  refine TriL.c1 rfl (op_mv (ltb rfl) rfl) ?_
  iterate 4 (refine TriL.skipu rfl rfl (ltb rfl) (ltb rfl) rfl rfl ?_)
  refine TriL.c1 rfl (op_pickf (ltb rfl) rfl rfl rfl) ?_
  refine TriL.nil ?_
  refine Tri.condF rfl rfl ?_
  refine Tri.exit (Tri.seq (Tri.region ?_))
  iterate 2 (refine TriL.c1 rfl (op_as (ltb rfl) rfl) ?_)
  refine TriL.nil (Tri.ret ?_)
  exact ⟨.inr rfl, (ResOK.r2 rfl (.tmp rfl (.tmp rfl .nil))).cast (by
      have h0 : s = [] := List.eq_nil_of_length_eq_zero (by have := of_decide_eq_false hg1; omega)
      subst h0; rfl), rfl⟩
/- lex: the token that a text begins with, in the program and in the document. -/
theorem fn82_q : isFn Tryz.prog 82 = true := by kernel_rfl
theorem fn83_q : isFn Tryz.prog 83 = true := by kernel_rfl
theorem fn84_q : isFn Tryz.prog 84 = true := by kernel_rfl
theorem fn85_q : isFn Tryz.prog 85 = true := by kernel_rfl
theorem fn93_q : isFn Tryz.prog 93 = true := by kernel_rfl
theorem fn94_q : isFn Tryz.prog 94 = true := by kernel_rfl
theorem fn95_q : isFn Tryz.prog 95 = true := by kernel_rfl
theorem fn96_q : isFn Tryz.prog 96 = true := by kernel_rfl
theorem lk68_q : lk Tryz.prog 68 = some (true, 5) := by kernel_rfl
theorem spl68_q : spl Tryz.prog 68 = some [(0, 1), (1, 1), (2, 1), (3, 1), (4, 1)] := by kernel_rfl
theorem zA68_q : zeroA Tryz.prog 68 = some [AV.int IntKind.i64 (0), AV.str [], AV.int IntKind.u64 (0), AV.bool false, AV.int IntKind.i64 (0)] := by kernel_rfl
theorem nxt1 {s : List UInt8} (h : decide (0 < ((wordT s).2 : Int)) = true) : nxtT s = wordT s := if_pos (by have := of_decide_eq_true h; omega)
theorem nxt2 {s : List UInt8} (h : decide (0 < ((wordT s).2 : Int)) = false) (h2 : decide (0 < ((numTk s).2 : Int)) = true) : nxtT s = numTk s := by
 unfold nxtT; rw [if_neg (by have := of_decide_eq_false h; omega), if_pos (by have := of_decide_eq_true h2; omega)]
theorem nxt3 {s : List UInt8} (h : decide (0 < ((wordT s).2 : Int)) = false) (h2 : decide (0 < ((numTk s).2 : Int)) = false) (h3 : decide (0 < ((txtTk s).2 : Int)) = true) : nxtT s = txtTk s := by
 unfold nxtT; rw [if_neg (by have := of_decide_eq_false h; omega), if_neg (by have := of_decide_eq_false h2; omega), if_pos (by have := of_decide_eq_true h3; omega)]
theorem nxt4 {s : List UInt8} (h : decide (0 < ((wordT s).2 : Int)) = false) (h2 : decide (0 < ((numTk s).2 : Int)) = false) (h3 : decide (0 < ((txtTk s).2 : Int)) = false) : nxtT s = markT s := by
 unfold nxtT; rw [if_neg (by have := of_decide_eq_false h; omega), if_neg (by have := of_decide_eq_false h2; omega), if_neg (by have := of_decide_eq_false h3; omega)]
theorem wordT_eq {s : List UInt8} (h : 0 < (wordT s).2) : wordT s = (⟨1, s.take (wordN s), 0, false, 0⟩, wordN s) := by
 cases s with
 | nil => cases h
 | cons c r =>
  by_cases hc : isLet c = true
  ·simp [wordT, wordN, hc]
  ·have : isLet c = false := by simpa using hc
   simp [wordT, this] at h
theorem numTk_eq {s : List UInt8} (h : 0 < (numTk s).2) : numTk s = (⟨2, [], (numTk s).1.n, (numTk s).1.neg, 0⟩, (numTk s).2) := by
 unfold numTk at *
 cases e : numTok s with
 | none => rw [e] at h; cases h
 | some x => rfl
theorem numR_eq (s : List UInt8) : numR s = .tup [.int .u64 (numTk s).1.n, .bool (numTk s).1.neg, .int .i64 (numTk s).2] := by
 unfold numR numTk
 cases numTok s with
 | none => rfl
 | some x => rfl
theorem txtTk_eq {s : List UInt8} (h : 0 < (txtTk s).2) : txtTk s = (⟨3, (txtTk s).1.s, 0, false, 0⟩, (txtTk s).2) := by
 unfold txtTk at *
 cases e : txtT s with
 | none => rw [e] at h; cases h
 | some x => rfl
theorem txtR_eq (s : List UInt8) : txtR s = .tup [.str (txtTk s).1.s, .int .i64 (txtTk s).2] := by
 unfold txtR txtTk
 cases txtT s with
 | none => rfl
 | some x => rfl
theorem rnumber_pure' (s : List UInt8) (hs : s.length ≤ 1073741824) : Pure Tryz.prog 83 [.str s] (.tup [.int .u64 (numTk s).1.n, .bool (numTk s).1.neg, .int .i64 (numTk s).2]) := numR_eq s ▸ rnumber_pure s hs
theorem rtext_pure' (s : List UInt8) (hs : s.length ≤ 1073741824) : Pure Tryz.prog 84 [.str s] (.tup [.str (txtTk s).1.s, .int .i64 (txtTk s).2]) := txtR_eq s ▸ rtext_pure s hs
theorem pos_of {n : Nat} (h : decide (0 < (n : Int)) = true) : 0 < n := by have := of_decide_eq_true h; omega
theorem next_pure (s : List UInt8) (hs : s.length ≤ 1073741824) : Pure Tryz.prog 57 [.str s] (tkn (nxtT s)) := by
 refine Pure.of_tri Tryz.func57 rfl rfl (ltb rfl) fun H => ?_
 refine Tri.seq (Tri.region ?_)
 refine TriL.c2 rfl (op_all (ltb rfl) zA112_q rfl) ?_
 refine TriL.c1 rfl (op_as (ltb rfl) rfl) ?_
 refine TriL.nil (Tri.seq (Tri.seq (Tri.region ?_)))
 refine TriL.c1 rfl (op_mv (ltb rfl) rfl) ?_
 refine TriL.c1 rfl (op_call (ltb rfl) fn93_q rfl (word_pure s hs)) ?_
 refine TriL.c1 rfl (op_mv (ltb rfl) rfl) ?_
 iterate 2 (refine TriL.c1 rfl (op_ext (ltb rfl) rfl rfl) ?_)
 refine TriL.c2 rfl (op_all (ltb rfl) zA112_q rfl) ?_
 refine TriL.c1 rfl (op_stl lk112_q rfl rfl rfl rfl rfl (leb rfl)) ?_
 refine TriL.c1 rfl (op_as (ltb rfl) rfl) ?_
 refine TriL.nil (Tri.seq (Tri.region ?_))
 refine TriL.c1 rfl (op_mv (ltb rfl) rfl) ?_
 refine TriL.c1 rfl (op_bin (ltb rfl) rfl rfl rfl) ?_
 refine TriL.nil ?_
 refine Tri.cond rfl (fun hc1 => ?_) (fun hc1 => ?_)
 ·refine Tri.seq (Tri.region ?_)
  refine TriL.c1 rfl (op_ldl (ltb rfl) lk112_q rfl rfl rfl) ?_
  refine TriL.c1 rfl (op_mv (ltb rfl) rfl) ?_
  refine TriL.c1 rfl (op_stl lk112_q rfl rfl rfl rfl rfl (leb rfl)) ?_
  refine TriL.c1 rfl (op_as (ltb rfl) rfl) ?_
  refine TriL.nil (Tri.ret ?_)
  exact ⟨.inr rfl, (ResOK.r2 rfl (.cell lk112_q rfl rfl rfl rfl (.tmp rfl .nil))).cast (by rw [nxt1 hc1]; rfl), rfl⟩
 ·refine Tri.skip (Tri.seq (Tri.seq (Tri.region ?_)))
  refine TriL.c1 rfl (op_mv (ltb rfl) rfl) ?_
  refine TriL.c1 rfl (op_call (ltb rfl) fn94_q rfl (number_pure s hs)) ?_
  refine TriL.c1 rfl (op_mv (ltb rfl) rfl) ?_
  iterate 2 (refine TriL.c1 rfl (op_ext (ltb rfl) rfl rfl) ?_)
  refine TriL.c2 rfl (op_all (ltb rfl) zA112_q rfl) ?_
  refine TriL.c1 rfl (op_stl lk112_q rfl rfl rfl rfl rfl (leb rfl)) ?_
  refine TriL.c1 rfl (op_as (ltb rfl) rfl) ?_
  refine TriL.nil (Tri.seq (Tri.region ?_))
  refine TriL.c1 rfl (op_mv (ltb rfl) rfl) ?_
  refine TriL.c1 rfl (op_bin (ltb rfl) rfl rfl rfl) ?_
  refine TriL.nil ?_
  refine Tri.cond rfl (fun hc2 => ?_) (fun hc2 => ?_)
  ·refine Tri.seq (Tri.region ?_)
   refine TriL.c1 rfl (op_ldl (ltb rfl) lk112_q rfl rfl rfl) ?_
   refine TriL.c1 rfl (op_mv (ltb rfl) rfl) ?_
   refine TriL.c1 rfl (op_stl lk112_q rfl rfl rfl rfl rfl (leb rfl)) ?_
   refine TriL.c1 rfl (op_as (ltb rfl) rfl) ?_
   refine TriL.nil (Tri.ret ?_)
   exact ⟨.inr rfl, (ResOK.r2 rfl (.cell lk112_q rfl rfl rfl rfl (.tmp rfl .nil))).cast (by rw [nxt2 hc1 hc2]; rfl), rfl⟩
  ·refine Tri.skip (Tri.seq (Tri.seq (Tri.region ?_)))
   refine TriL.c1 rfl (op_mv (ltb rfl) rfl) ?_
   refine TriL.c1 rfl (op_call (ltb rfl) fn95_q rfl (text_pure s hs)) ?_
   refine TriL.c1 rfl (op_mv (ltb rfl) rfl) ?_
   iterate 2 (refine TriL.c1 rfl (op_ext (ltb rfl) rfl rfl) ?_)
   refine TriL.c2 rfl (op_all (ltb rfl) zA112_q rfl) ?_
   refine TriL.c1 rfl (op_stl lk112_q rfl rfl rfl rfl rfl (leb rfl)) ?_
   refine TriL.c1 rfl (op_as (ltb rfl) rfl) ?_
   refine TriL.nil (Tri.seq (Tri.region ?_))
   refine TriL.c1 rfl (op_mv (ltb rfl) rfl) ?_
   refine TriL.c1 rfl (op_bin (ltb rfl) rfl rfl rfl) ?_
   refine TriL.nil ?_
   refine Tri.cond rfl (fun hc3 => ?_) (fun hc3 => ?_)
   ·refine Tri.seq (Tri.region ?_)
    refine TriL.c1 rfl (op_ldl (ltb rfl) lk112_q rfl rfl rfl) ?_
    refine TriL.c1 rfl (op_mv (ltb rfl) rfl) ?_
    refine TriL.c1 rfl (op_stl lk112_q rfl rfl rfl rfl rfl (leb rfl)) ?_
    refine TriL.c1 rfl (op_as (ltb rfl) rfl) ?_
    refine TriL.nil (Tri.ret ?_)
    exact ⟨.inr rfl, (ResOK.r2 rfl (.cell lk112_q rfl rfl rfl rfl (.tmp rfl .nil))).cast (by rw [nxt3 hc1 hc2 hc3]; rfl), rfl⟩
   ·refine Tri.skip (Tri.seq (Tri.region ?_))
    refine TriL.c1 rfl (op_mv (ltb rfl) rfl) ?_
    refine TriL.c1 rfl (op_call (ltb rfl) fn96_q rfl (mark_pure s hs)) ?_
    iterate 2 (refine TriL.c1 rfl (op_ext (ltb rfl) rfl rfl) ?_)
    refine TriL.c1 rfl (op_stl lk112_q rfl rfl rfl rfl rfl (leb rfl)) ?_
    refine TriL.c1 rfl (op_as (ltb rfl) rfl) ?_
    refine TriL.nil (Tri.ret ?_)
    exact ⟨.inr rfl, (ResOK.r2 rfl (.cell lk112_q rfl rfl rfl rfl (.tmp rfl .nil))).cast (by rw [nxt4 hc1 hc2 hc3]; rfl), rfl⟩
theorem one_pure (s : List UInt8) (hs : s.length ≤ 1073741824) : Pure Tryz.prog 48 [.str s] (tkn (nxtT s)) := by
 refine Pure.of_tri Tryz.func48 rfl rfl (ltb rfl) fun H => ?_
 refine Tri.seq (Tri.region ?_)
 refine TriL.c2 rfl (op_all (ltb rfl) zA68_q rfl) ?_
 refine TriL.c1 rfl (op_as (ltb rfl) rfl) ?_
 refine TriL.nil (Tri.seq (Tri.seq (Tri.region ?_)))
 refine TriL.c1 rfl (op_mv (ltb rfl) rfl) ?_
 refine TriL.c1 rfl (op_call (ltb rfl) fn82_q rfl (rword_pure s hs)) ?_
 refine TriL.c1 rfl (op_as (ltb rfl) rfl) ?_
 refine TriL.nil (Tri.seq (Tri.region ?_))
 refine TriL.c1 rfl (op_mv (ltb rfl) rfl) ?_
 refine TriL.c1 rfl (op_bin (ltb rfl) rfl rfl rfl) ?_
 refine TriL.nil ?_
 refine Tri.cond rfl (fun hc1 => ?_) (fun hc1 => ?_)
 ·refine Tri.seq (Tri.region ?_)
  iterate 2 (refine TriL.c1 rfl (op_mv (ltb rfl) rfl) ?_)
  refine TriL.c1 rfl (op_cuts (ltb rfl) un9_q rfl rfl rfl (by omega) (by omega) (by have := wordN_le s; omega)) ?_
  refine TriL.c1 rfl (op_bld (ltb rfl) spl68_q zA68_q rfl rfl) ?_
  refine TriL.c1 rfl (op_mv (ltb rfl) rfl) ?_
  refine TriL.c1 rfl (op_stl lk68_q rfl rfl rfl rfl rfl (leb rfl)) ?_
  refine TriL.c1 rfl (op_as (ltb rfl) rfl) ?_
  refine TriL.nil (Tri.ret ?_)
  exact ⟨.inr rfl, (ResOK.r2 rfl (.cell lk68_q rfl rfl rfl rfl (.tmp rfl .nil))).cast (by rw [nxt1 hc1, wordT_eq (pos_of hc1)]; simp [tkn, Tk.av]), rfl⟩
 ·refine Tri.skip (Tri.seq (Tri.seq (Tri.region ?_)))
  refine TriL.c1 rfl (op_mv (ltb rfl) rfl) ?_
  refine TriL.c1 rfl (op_call (ltb rfl) fn83_q rfl (rnumber_pure' s hs)) ?_
  refine TriL.c1 rfl (op_mv (ltb rfl) rfl) ?_
  iterate 3 (refine TriL.c1 rfl (op_ext (ltb rfl) rfl rfl) ?_)
  iterate 3 (refine TriL.c1 rfl (op_as (ltb rfl) rfl) ?_)
  refine TriL.nil (Tri.seq (Tri.region ?_))
  refine TriL.c1 rfl (op_mv (ltb rfl) rfl) ?_
  refine TriL.c1 rfl (op_bin (ltb rfl) rfl rfl rfl) ?_
  refine TriL.nil ?_
  refine Tri.cond rfl (fun hc2 => ?_) (fun hc2 => ?_)
  ·refine Tri.seq (Tri.region ?_)
   iterate 2 (refine TriL.c1 rfl (op_mv (ltb rfl) rfl) ?_)
   refine TriL.c1 rfl (op_bld (ltb rfl) spl68_q zA68_q rfl rfl) ?_
   refine TriL.c1 rfl (op_mv (ltb rfl) rfl) ?_
   refine TriL.c1 rfl (op_stl lk68_q rfl rfl rfl rfl rfl (leb rfl)) ?_
   refine TriL.c1 rfl (op_as (ltb rfl) rfl) ?_
   refine TriL.nil (Tri.ret ?_)
   exact ⟨.inr rfl, (ResOK.r2 rfl (.cell lk68_q rfl rfl rfl rfl (.tmp rfl .nil))).cast (by rw [nxt2 hc1 hc2, numTk_eq (pos_of hc2)]; rfl), rfl⟩
  ·refine Tri.skip (Tri.seq (Tri.seq (Tri.region ?_)))
   refine TriL.c1 rfl (op_mv (ltb rfl) rfl) ?_
   refine TriL.c1 rfl (op_call (ltb rfl) fn84_q rfl (rtext_pure' s hs)) ?_
   refine TriL.c1 rfl (op_mv (ltb rfl) rfl) ?_
   iterate 2 (refine TriL.c1 rfl (op_ext (ltb rfl) rfl rfl) ?_)
   iterate 2 (refine TriL.c1 rfl (op_as (ltb rfl) rfl) ?_)
   refine TriL.nil (Tri.seq (Tri.region ?_))
   refine TriL.c1 rfl (op_mv (ltb rfl) rfl) ?_
   refine TriL.c1 rfl (op_bin (ltb rfl) rfl rfl rfl) ?_
   refine TriL.nil ?_
   refine Tri.cond rfl (fun hc3 => ?_) (fun hc3 => ?_)
   ·refine Tri.seq (Tri.region ?_)
    refine TriL.c1 rfl (op_mv (ltb rfl) rfl) ?_
    refine TriL.c1 rfl (op_bld (ltb rfl) spl68_q zA68_q rfl rfl) ?_
    refine TriL.c1 rfl (op_mv (ltb rfl) rfl) ?_
    refine TriL.c1 rfl (op_stl lk68_q rfl rfl rfl rfl rfl (leb rfl)) ?_
    refine TriL.c1 rfl (op_as (ltb rfl) rfl) ?_
    refine TriL.nil (Tri.ret ?_)
    exact ⟨.inr rfl, (ResOK.r2 rfl (.cell lk68_q rfl rfl rfl rfl (.tmp rfl .nil))).cast (by rw [nxt3 hc1 hc2 hc3, txtTk_eq (pos_of hc3)]; rfl), rfl⟩
   ·refine Tri.skip (Tri.seq (Tri.seq (Tri.region ?_)))
    refine TriL.c1 rfl (op_mv (ltb rfl) rfl) ?_
    refine TriL.c1 rfl (op_lens (ltb rfl) un9_q rfl) ?_
    refine TriL.c1 rfl (op_bin (ltb rfl) rfl rfl rfl) ?_
    refine TriL.c1 rfl (op_mv (ltb rfl) rfl) ?_
    refine TriL.split (d := 44) rfl (fun hg4 => ?_) (fun hg4 => ?_)
    ·obtain ⟨c, r, rfl⟩ : ∃ c r, s = c :: r := by
       cases s with
       | nil => simp at hg4
       | cons c r => exact ⟨c, r, rfl⟩
     refine TriL.g1 rfl (ltb rfl) rfl hg4 (op_mv (ltb rfl) rfl) ?_
     refine TriL.g1 rfl (ltb rfl) rfl hg4 (op_ixs (ltb rfl) un9_q rfl rfl (by decide) rfl) ?_
     refine TriL.g1 rfl (ltb rfl) rfl hg4 (op_call (ltb rfl) fn85_q rfl (rmark_pure c)) ?_
     refine TriL.c1 rfl (op_pickt (ltb rfl) rfl hg4 rfl) ?_
     refine TriL.nil ?_
     refine Tri.cond rfl (fun hc5 => ?_) (fun hc5 => ?_)
     ·refine Tri.seq (Tri.region ?_)
      refine TriL.c1 rfl (op_mv (ltb rfl) rfl) ?_
      refine TriL.c1 rfl (op_cuts (ltb rfl) un9_q rfl rfl rfl (by omega) (by omega) (by simp <;> omega)) ?_
      refine TriL.c1 rfl (op_bld (ltb rfl) spl68_q zA68_q rfl rfl) ?_
      refine TriL.c1 rfl (op_stl lk68_q rfl rfl rfl rfl rfl (leb rfl)) ?_
      refine TriL.c1 rfl (op_as (ltb rfl) rfl) ?_
      refine TriL.nil (Tri.ret ?_)
      exact ⟨.inr rfl, (ResOK.r2 rfl (.cell lk68_q rfl rfl rfl rfl (.tmp rfl .nil))).cast (by rw [nxt4 hc1 hc2 hc3]; have h : isMark c = true := hc5; simp only [markT, h, if_true]; rfl), rfl⟩
     ·refine Tri.skip (Tri.seq (Tri.region ?_))
      refine TriL.c1 rfl (op_bld (ltb rfl) spl68_q zA68_q rfl rfl) ?_
      refine TriL.c1 rfl (op_stl lk68_q rfl rfl rfl rfl rfl (leb rfl)) ?_
      refine TriL.c1 rfl (op_as (ltb rfl) rfl) ?_
      refine TriL.nil (Tri.ret ?_)
      exact ⟨.inr rfl, (ResOK.r2 rfl (.cell lk68_q rfl rfl rfl rfl (.tmp rfl .nil))).cast (by rw [nxt4 hc1 hc2 hc3]; have h : isMark c = false := hc5; simp only [markT, h]; rfl), rfl⟩
    ·iterate 3 (refine TriL.skipu rfl rfl (ltb rfl) (ltb rfl) rfl hg4 ?_)
     refine TriL.c1 rfl (op_pickf (ltb rfl) rfl hg4 rfl) ?_
     refine TriL.nil ?_
     refine Tri.condF rfl rfl ?_
     refine Tri.skip (Tri.seq (Tri.region ?_))
     refine TriL.c1 rfl (op_bld (ltb rfl) spl68_q zA68_q rfl rfl) ?_
     refine TriL.c1 rfl (op_stl lk68_q rfl rfl rfl rfl rfl (leb rfl)) ?_
     refine TriL.c1 rfl (op_as (ltb rfl) rfl) ?_
     refine TriL.nil (Tri.ret ?_)
     exact ⟨.inr rfl, (ResOK.r2 rfl (.cell lk68_q rfl rfl rfl rfl (.tmp rfl .nil))).cast (by
          have h0 : s = [] := List.eq_nil_of_length_eq_zero (by have := of_decide_eq_false hg4; omega)
          rw [nxt4 hc1 hc2 hc3, h0]; rfl), rfl⟩
open Go
/- The tokens of a text, in plain Lean: steps; what is passed over. No condition. -/
theorem lexGo_nil (p : Nat) : lexGo [] p = ([], none) := by rw [lexGo]
theorem lexGo_bl {c : UInt8} {r : List UInt8} {p : Nat} (h : isBl c = true) : lexGo (c :: r) p = lexGo r (p + 1) := by rw [lexGo, if_pos h]
theorem spn_rem {r : List UInt8} (h : isRem r = true) : 2 ≤ spn noNl r := by
 unfold isRem Lib.hasPrefix at h
 match r, h with
 | [], h => simp at h
 | [c], h => simp [List.isPrefixOf] at h
 | c :: d :: r, h =>
  simp [List.isPrefixOf] at h
  obtain ⟨rfl, rfl⟩ := h
  have e1 : noNl 47 = true := by decide
  simp [spn, e1]
theorem lexGo_rem {c : UInt8} {r : List UInt8} {p : Nat} (h : isBl c = false) (h2 : isRem (c :: r) = true) : lexGo (c :: r) p = lexGo ((c :: r).drop (spn noNl (c :: r))) (p + spn noNl (c :: r)) := by
 have := spn_rem h2
 rw [lexGo, if_neg (by simp [h]), if_pos h2, show spn noNl (c :: r) - 1 + 1 = spn noNl (c :: r) by omega]
theorem lexGo_no {c : UInt8} {r : List UInt8} {p : Nat} (h : isBl c = false) (h2 : isRem (c :: r) = false) (h3 : (nxtT (c :: r)).2 = 0) : lexGo (c :: r) p = ([], some p) := by
 rw [lexGo, if_neg (by simp [h]), if_neg (by simp [h2]), if_pos h3]
def Tk.at (t : Tk) (p : Nat) : Tk := ⟨t.k, t.s, t.n, t.neg, p⟩
theorem lexGo_tok {c : UInt8} {r : List UInt8} {p : Nat} (h : isBl c = false) (h2 : isRem (c :: r) = false) (h3 : (nxtT (c :: r)).2 ≠ 0) :
  lexGo (c :: r) p = ((nxtT (c :: r)).1.at p :: (lexGo ((c :: r).drop (nxtT (c :: r)).2) (p + (nxtT (c :: r)).2)).1, (lexGo ((c :: r).drop (nxtT (c :: r)).2) (p + (nxtT (c :: r)).2)).2) := by
 rw [lexGo, if_neg (by simp [h]), if_neg (by simp [h2]), if_neg h3, show (nxtT (c :: r)).2 - 1 + 1 = (nxtT (c :: r)).2 by omega]
 rfl
theorem numB_le (s : List UInt8) : numB s ≤ s.length := by
 have h1 := unsg_le s
 have h2 := spn_le isDig (unsg s)
 unfold numB; omega
theorem txtGo_le : ∀ (n : Nat) (l out : List UInt8) (p : Nat) (o : List UInt8) (k : Nat), l.length ≤ n → txtGo l out p = some (o, k) → p < k ∧ k ≤ p + l.length
 | n, [], out, p, o, k, _, h => by simp [txtGo] at h
 | 0, c :: r, out, p, o, k, hn, h => by simp at hn
 | n + 1, c :: r, out, p, o, k, hn, h => by
  by_cases hc : c = 39
  ·subst hc
   match r, h, hn with
   | [], h, _ => simp [txtGo] at h; obtain ⟨_, rfl⟩ := h; simp
   | d :: r', h, hn =>
    by_cases hd : d = 39
    ·subst hd
     rw [txt_two] at h
     have := txtGo_le n r' _ _ o k (by simp at hn; omega) h
     simp; omega
    ·rw [txt_end (fun r e => hd (by cases e; rfl))] at h
     simp at h; obtain ⟨_, rfl⟩ := h; simp
  ·rw [txtGo_ne hc] at h
   have := txtGo_le n r _ _ o k (by simp at hn; omega) h
   simp; omega
theorem nxt_le (s : List UInt8) : (nxtT s).2 ≤ s.length := by
 unfold nxtT
 split
 ·exact wordN_le s
 ·split
  ·unfold numTk
   cases e : numTok s with
   | none => exact Nat.zero_le _
   | some x =>
    have : x.2.2 = numB s := by
     unfold numTok at e
     split at e
     ·split at e
      ·cases e
      ·cases e; rfl
     ·cases e
    show x.2.2 ≤ _
    rw [this]; exact numB_le s
  ·split
   ·unfold txtTk
    cases e : txtT s with
    | none => exact Nat.zero_le _
    | some x =>
     obtain ⟨o, k⟩ := x
     cases s with
     | nil => cases e
     | cons c r =>
      unfold txtT at e
      simp only at e
      split at e
      ·have := txtGo_le r.length r _ _ o k (Nat.le_refl _) e
       show k ≤ _
       simp; omega
      ·cases e
   ·cases s with
    | nil => exact Nat.le_refl _
    | cons c r =>
     unfold markT
     simp only
     split
     ·simp
     ·exact Nat.zero_le _
/-- how many bytes are passed over -/
def skp (r : List UInt8) : Nat :=
 match r with
 | [] => 0
 | c :: r' => if isBl c then skp r' + 1 else if isRem (c :: r') then skp ((c :: r').drop (spn noNl (c :: r') - 1 + 1)) + spn noNl (c :: r') else 0
termination_by r.length
decreasing_by all_goals simp <;> omega
theorem skp_nil : skp [] = 0 := by rw [skp]
theorem skp_bl {c : UInt8} {r : List UInt8} (h : isBl c = true) : skp (c :: r) = skp r + 1 := by rw [skp, if_pos h]
theorem skp_rem {c : UInt8} {r : List UInt8} (h : isBl c = false) (h2 : isRem (c :: r) = true) : skp (c :: r) = skp ((c :: r).drop (spn noNl (c :: r))) + spn noNl (c :: r) := by
 have := spn_rem h2
 rw [skp, if_neg (by simp [h]), if_pos h2, show spn noNl (c :: r) - 1 + 1 = spn noNl (c :: r) by omega]
theorem skp_no {c : UInt8} {r : List UInt8} (h : isBl c = false) (h2 : isRem (c :: r) = false) : skp (c :: r) = 0 := by
 rw [skp, if_neg (by simp [h]), if_neg (by simp [h2])]
theorem skp_all : ∀ (n : Nat) (r : List UInt8), r.length ≤ n → skp r ≤ r.length ∧ (∀ p, lexGo r p = lexGo (r.drop (skp r)) (p + skp r)) ∧ skp (r.drop (skp r)) = 0
 | n, [], _ => by simp [skp_nil]
 | 0, c :: r, hn => by simp at hn
 | n + 1, c :: r, hn => by
  by_cases h : isBl c = true
  ·obtain ⟨h1, h2, h3⟩ := skp_all n r (by simp at hn; omega)
   rw [skp_bl h]
   refine ⟨by simp; omega, fun p => ?_, by simpa using h3⟩
   rw [lexGo_bl h, h2, List.drop_succ_cons]; congr 1; omega
  ·have h' : isBl c = false := by simpa using h
   by_cases hr : isRem (c :: r) = true
   ·have h2 := spn_rem hr
    have h3 := spn_le noNl (c :: r)
    obtain ⟨q1, q2, q3⟩ := skp_all n ((c :: r).drop (spn noNl (c :: r))) (by rw [List.length_drop]; simp at hn ⊢; omega)
    rw [skp_rem h' hr]
    rw [List.drop_drop] at q3
    refine ⟨by rw [List.length_drop] at q1; omega, fun p => ?_, by rw [Nat.add_comm]; exact q3⟩
    rw [lexGo_rem h' hr, q2, List.drop_drop]
    congr 1
    ·congr 1; omega
    ·omega
   ·have hr' : isRem (c :: r) = false := by simpa using hr
    rw [skp_no h' hr']
    exact ⟨Nat.zero_le _, fun p => rfl, by rw [List.drop_zero]; exact skp_no h' hr'⟩
theorem skp_zero {c : UInt8} {r : List UInt8} (h : skp (c :: r) = 0) : isBl c = false ∧ isRem (c :: r) = false := by
 by_cases h1 : isBl c = true
 ·rw [skp_bl h1] at h; omega
 ·have h1' : isBl c = false := by simpa using h1
  by_cases h2 : isRem (c :: r) = true
  ·rw [skp_rem h1' h2] at h; have := spn_rem h2; omega
  ·exact ⟨h1', by simpa using h2⟩
/-- All's answer -/
def allV (s : List UInt8) (most : Int) : AV :=
 if most < (s.length : Int) then .tup [.sl [], .int .i64 0, .int .i64 3]
 else match lexGo s 0 with
  | (ts, none) => .tup [.sl ((ts ++ [(⟨0, [], 0, false, s.length⟩ : Tk)]).map Tk.av), .int .i64 s.length, .int .i64 0]
  | (_, some p) => .tup [.sl [], .int .i64 p, .int .i64 2]
theorem allV_long {s : List UInt8} {most : Int} (h : most < (s.length : Int)) : allV s most = .tup [.sl [], .int .i64 0, .int .i64 3] := if_pos h
theorem allV_ok {s : List UInt8} {most : Int} {ts : List Tk} (h : ¬ most < (s.length : Int)) (e : lexGo s 0 = (ts, none)) : allV s most = .tup [.sl ((ts ++ [(⟨0, [], 0, false, s.length⟩ : Tk)]).map Tk.av), .int .i64 s.length, .int .i64 0] := by
 unfold allV; rw [if_neg h, e]
theorem allV_bad {s : List UInt8} {most : Int} {ts : List Tk} {p : Nat} (h : ¬ most < (s.length : Int)) (e : lexGo s 0 = (ts, some p)) : allV s most = .tup [.sl [], .int .i64 p, .int .i64 2] := by
 unfold allV; rw [if_neg h, e]
end Go.Proofs.YtabihkfhoohfnaaGreatDoor.X
