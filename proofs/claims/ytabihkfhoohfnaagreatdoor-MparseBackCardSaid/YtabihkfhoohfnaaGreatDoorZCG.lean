/- The program logic's rules: a strings.Builder in a local box. No condition. -/
import Derived.Test.YtabihkfhoohfnaaGreatDoorZCF
import Derived.Test.YtabihkfhoohfnaaGreatDoorZCC
import Derived.Lib.SmallJoins
import Derived.Test.YtabihkfhoohfnaaGreatDoorZCD
set_option linter.unusedVariables false
set_option linter.unusedSimpArgs false
namespace Go.Proofs.YtabihkfhoohfnaaGreatDoor.X
open Go Go.RowKit Go.Proofs
section
variable {N : Nat} {s : St} {d : Nat} {ty : TypeId} {pos : String} {af : Array Edge} {g : Option (Nat × Bool)}
theorem zero66' : (Tryz.prog.info? 173).bind (·.zero) = some (.agg #[.pointer none, .slice none 0 0]) := by kernel_rfl
theorem zero66 : ∃ i, Tryz.prog.info? 173 = some i ∧ i.zero = some (.agg #[.pointer none, .slice none 0 0]) := Option.bind_eq_some_iff.1 zero66'
theorem bt_new {G : Gh} {L : Loc} {f : Nat} (hf : L.tok f = some (.slice none 0 0)) : ObjOK G L (.cells #[.pointer none, .slice none 0 0] 173) (.bt 173 [.v .nilp, .om f 0]) := by
 refine ⟨#[.pointer none, .slice none 0 0], rfl, rfl, fun j x e => ?_⟩
 match j, e with
 | 0, e => cases e; exact ⟨rfl, .nilp⟩
 | 1, e => cases e; exact ⟨rfl, hf, none, 0, rfl⟩
/-- var b strings.Builder; its row: f -/
theorem op_alb' {P : Program} {i : TypeInfo} (hi : P.info? 173 = some i) (hz : i.zero = some (.agg #[.pointer none, .slice none 0 0])) {f : Nat} (hN : d < N) (hk : get s (.b d) = none) (hf : get s (.t f) = none) :
  OpOK P N ⟨some d, .alloc 173, ty, pos, af, g⟩ s [.b d, .t f] [(.s d, .sv (.lp d 0)), (.b d, .bt 173 [.v .nilp, .om f 0]), (.t f, .tk true 5 1 [])] := by
 intro t hR E G L a w hr K Q hK
 have hk' : get t (.b d) = none := by rw [hR (.b d) (by simp)]; exact hk
 have hf' : get t (.t f) = none := by rw [hR (.t f) (by simp)]; exact hf
 have hr0 := hr.niltok (el := 5) (esz := 1) hf' (by decide)
 have hr1 := hr0.alloc d (by simpa [get] using hk') (.cells #[.pointer none, .slice none 0 0] 173) (.bt 173 [.v .nilp, .om f 0]) rfl rfl (bt_new (by simp [Loc.setBox, Loc.setTok]))
 have he : (execOp a.eval ⟨some d, .alloc 173, ty, pos, af, g⟩).run P w = .ok (.value (.pointer (some ⟨w.heap.size, 0, none⟩))) (w.alloc (.cells #[.pointer none, .slice none 0 0] 173)) := by
  simp [execOp, Instr.alloc, zeroValue, typeInfo, hi, hz, newVar, newRow]
  rfl
 unfold Oper.wp
 rw [he]
 exact hK _ _ G _ (hr1.put d hN _ (.lp d 0) ⟨w.heap.size, by simp [Loc.setBox], rfl⟩)
set_option maxRecDepth 1000000 in
theorem op_alb {f : Nat} (hN : d < N) (hk : get s (.b d) = none) (hf : get s (.t f) = none) :
  OpOK Tryz.prog N ⟨some d, .alloc 173, ty, pos, af, g⟩ s [.b d, .t f] [(.s d, .sv (.lp d 0)), (.b d, .bt 173 [.v .nilp, .om f 0]), (.t f, .tk true 5 1 [])] :=
 Exists.elim zero66 fun i h => op_alb' h.1 h.2 hN hk hf
theorem lay_bytes {G : Gh} {l : List UInt8} {cells : List Value} (h : Lay G 1 (bsl l) cells) (hl : cells.length = l.length) : cells = Lib.byteCells l := by
 refine List.ext_getElem? fun i => ?_
 by_cases hi : i < l.length
 ·have h1 : (bsl l)[i]? = some (.int .u8 ((l[i]).toNat : Int)) := by simp [bsl, hi]
  have h2 := (h.2 i _ 0 (.int .u8 ((l[i]).toNat : Int)) h1 rfl).2
  have h3 : cells.getD (i * 1 + 0) undef = .int .u8 ((l[i]).toNat : Int) := V.int_eq h2
  simp only [Nat.mul_one, Nat.add_zero] at h3
  rw [List.getD_eq_getElem?_getD, List.getElem?_eq_getElem (by omega)] at h3
  rw [List.getElem?_eq_getElem (by omega)]
  simp only [Lib.byteCells, List.getElem?_map, List.getElem?_eq_getElem hi, Option.map_some]
  simpa using h3
 ·rw [List.getElem?_eq_none (by omega), List.getElem?_eq_none (by simp [Lib.byteCells]; omega)]
/-- What a builder's box is. -/
theorem bt_open {E : Ent} {G : Gh} {L : Loc} {a : Act} {w : World} {t : St} (hr : Rel E N G L a w t) {k f n : Nat} {c0 : Sv} (hk : get t (.b k) = some (.bt 173 [c0, .om f n])) (hc0 : c0 = .v .nilp ∨ c0 = .lp k 0) :
  ∃ b p v, L.box k = some b ∧ L.tok f = some v ∧ w.heap[b]? = some (.cells #[p, v] 173 (0, 0)) ∧ (p = .pointer none ∨ p = .pointer (some ⟨b, 0, none⟩)) := by
 obtain ⟨b, o, hb, _, hh, ⟨arr, rfl, hsz, hc⟩, _⟩ := hr.box k _ hk rfl
 have hp := (hc 0 c0 rfl).2
 have hv := (hc 1 (.om f n) rfl).2.1
 obtain ⟨al⟩ := arr
 match al, hsz with
 | [p, v], _ =>
  refine ⟨b, p, v, hb, hv, hh, ?_⟩
  rcases hc0 with rfl | rfl
  ·have h1 : V G p .nilp := hp
   cases h1; exact .inl rfl
  ·obtain ⟨b2, h2, h3⟩ := hp
   rw [hb] at h2; cases h2
   exact .inr h3
set_option maxRecDepth 1000000 in
set_option maxHeartbeats 2000000 in
/-- b.WriteString(text) -/
theorem op_bws {x y : Operand} {tys : Array TypeId} {k f n : Nat} {c0 : Sv} {xs : List UInt8} {l : List UInt8} (hN : d < N) (hx : opd x s = some (.lp k 0)) (hk : get s (.b k) = some (.bt 173 [c0, .om f n])) (hc0 : c0 = .v .nilp ∨ c0 = .lp k 0)
  (hf : get s (.t f) = some (.tk true 5 1 (bsl xs))) (hy : opv y s = some (.str l)) (hd : get s (.t d) = none) (hfn : isFn Tryz.prog 129 = true) (hlen : xs.length + l.length ≤ 140737488355328) :
  OpOK Tryz.prog N ⟨some d, .call { callee := .value (.func 129), args := #[x, y], argTypes := tys }, ty, pos, af, g⟩ s (rd x ++ (rd y ++ [.b k, .t f, .t d]))
   [(.s d, .sv (.v (.tup [.int .i64 l.length, .nili]))), (.b k, .bt 173 [.lp k 0, .om d (xs ++ l).length]), (.t d, .tk true 5 1 (bsl (xs ++ l))), (.t f, .gone)] := by
 intro t hR E G L a w hr K Q hK
 have hk' : get t (.b k) = some (.bt 173 [c0, .om f n]) := by rw [hR (.b k) (by simp)]; exact hk
 have hf' : get t (.t f) = some (.tk true 5 1 (bsl xs)) := by rw [hR (.t f) (by simp)]; exact hf
 have hd' : get t (.t d) = none := by rw [hR (.t d) (by simp)]; exact hd
 obtain ⟨b, p, v, hb, hv, hbk, hp⟩ := bt_open hr hk' hc0
 have hx1 : a.eval x = .pointer (some ⟨b, 0, none⟩) := by
  obtain ⟨b2, h2, h3⟩ := opd_sound hr hR.left hx
  rw [hb] at h2; cases h2; exact h3
 have hy1 : a.eval y = .string ⟨l.toArray⟩ := V.str_eq (opv_sound hr hR.right.left hy)
 obtain ⟨v2, hv2, ⟨cells, _, hown, hz, hL, hkn0⟩, hmay⟩ := hr.tok f true 5 1 (bsl xs) hf'
 rw [hv] at hv2; cases hv2
 have hlx : (bsl xs).length = xs.length := by simp [bsl]
 have hne : v.ownBlock ≠ some b := fun e => by
  have := hr.disj (.t f) (.b k) b ⟨⟨_, _, _, _, hf'⟩, v, hv, e⟩ ⟨⟨_, hk', rfl⟩, hb⟩
  cases this
 have hsz : (⟨l.toArray⟩ : ByteArray).size = l.length := by simp [ByteArray.size]
 have he : (execOp a.eval ⟨some d, .call { callee := .value (.func 129), args := #[x, y], argTypes := tys }, ty, pos, af, g⟩).run Tryz.prog w = .ok (.enter 129 #[.pointer (some ⟨b, 0, none⟩), .string ⟨l.toArray⟩]) w := by
  have heF : a.eval (.func 129) = .func (.func 129) #[] #[] := rfl
  have e : #[] ++ Array.map a.eval #[x, y] ++ #[] = #[.pointer (some ⟨b, 0, none⟩), .string ⟨l.toArray⟩] := by simp [hx1, hy1]
  simp only [execOp, resolve, heF, Deferred.ofValue, Sem.run_bind, Sem.run_pure, Result.andThen_ok, invoke, run_callFunc hfn, e]
 unfold Oper.wp
 rw [he]
 refine (Tryz.bld_ws hbk hp hown hne (by rw [hsz, hlx]; exact hlen)).mono ?_
 rintro e w' ⟨rfl, w1, v', w2, t1, hk1, hown1, ho2, hg, hat, hcell, t2, hk2, hk3⟩
 have hr1 := hr.turn (cv0 := .bt 173 [c0, .om f n]) (cv := .bt 173 [.lp k 0, .om f n]) hk' rfl rfl rfl hb (o := .cells #[.pointer (some ⟨b, 0, none⟩), v] 173 (0, 0)) ⟨_, rfl, rfl, fun j z e => by
  match j, e with
  | 0, e => cases e; exact ⟨rfl, b, hb, rfl⟩
  | 1, e =>
   cases e
   obtain ⟨_, _, _, _, _, ⟨arr, h1, h2, h3⟩, _⟩ := hr.box k _ hk' rfl
   refine ⟨rfl, hv, ?_⟩
   obtain ⟨b0, o0, q1, _, q3, ⟨arr0, q4, q5, q6⟩, _⟩ := hr.box k _ hk' rfl
   rw [hb] at q1; cases q1
   rw [hbk] at q3; cases q3
   cases q4
   exact (q6 1 _ rfl).2.2⟩ t1.os t1.tape t1.output t1.size t1.block hk1
 have hbl : (bsl l).length = l.length := by simp [bsl]
 obtain ⟨G', _, hle, hr2⟩ := grow_tok hr1 (k := f) (d := d) (m := true) (el := 5) (esz := 1) (xs := bsl xs) (ys := bsl l) (v1 := v') (w1 := w2) (news := Lib.strCells ⟨l.toArray⟩) (by simpa [get] using hf') (by simpa [get] using hd') hv hown1 hL (by decide)
  (fun blk e o u h => by have := hkn0 blk e o; rw [this] at h; cases h) (by rw [hbl, ← hsz]; exact ho2) hg hat hcell (strCells_lay G l)
 have e1 : bsl xs ++ bsl l = bsl (xs ++ l) := by simp [bsl]
 rw [e1] at hr2
 have hs2 : ∃ A C, v' = .slice A (xs ++ l).length C := by
  have hn : (bsl xs).length + (⟨l.toArray⟩ : ByteArray).size = (xs ++ l).length := by rw [hlx, hsz, List.length_append]
  rcases ho2.2 with ⟨h1, h2⟩ | ⟨g2, cap, cur, h1, _⟩
  ·rw [hn] at h2; exact ⟨none, 0, by rw [h2]; exact h1⟩
  ·exact ⟨_, _, by rw [← hn]; exact h1⟩
 have hr3 := hr2.turn (cv0 := .bt 173 [.lp k 0, .om f n]) (cv := .bt 173 [.lp k 0, .om d (xs ++ l).length]) (k := k) (by simp [get]) rfl rfl rfl (blk := b) hb (o := .cells #[.pointer (some ⟨b, 0, none⟩), v'] 173 (0, 0)) ⟨_, rfl, rfl, fun j z e => by
  match j, e with
  | 0, e => cases e; exact ⟨rfl, b, hb, rfl⟩
  | 1, e => cases e; exact ⟨rfl, by simp [Loc.setTok], hs2⟩⟩ t2.os t2.tape t2.output t2.size t2.block hk3
 have hr4 := hr3.put d hN (.tuple #[.int .i64 (⟨l.toArray⟩ : ByteArray).size, .nilIface]) (.v (.tup [.int .i64 l.length, .nili])) (by rw [hsz]; exact V.tup2 (.int _ _) .nili)
 refine hK _ w' G' (L.setTok d v') (hr4.ext fun c => ?_)
 simp only [List.cons_append, List.nil_append, get]
 repeat' split
 all_goals first | rfl | (rename_i h1 h2; subst h1; cases h2) | (exfalso; simp_all)
set_option maxRecDepth 1000000 in
set_option maxHeartbeats 2000000 in
/-- b.String(): the builder is not written any more -/
theorem op_bstr {x : Operand} {tys : Array TypeId} {k f n : Nat} {c0 : Sv} {xs : List UInt8} (hN : d < N) (hx : opd x s = some (.lp k 0)) (hk : get s (.b k) = some (.bt 173 [c0, .om f n])) (hc0 : c0 = .v .nilp ∨ c0 = .lp k 0)
  (hf : get s (.t f) = some (.tk true 5 1 (bsl xs))) (hd : get s (.t d) = none) (hfn : isFn Tryz.prog 130 = true) :
  OpOK Tryz.prog N ⟨some d, .call { callee := .value (.func 130), args := #[x], argTypes := tys }, ty, pos, af, g⟩ s (rd x ++ [.b k, .t f, .t d])
   [(.s d, .sv (.v (.str xs))), (.t d, .tk true 5 1 []), (.t f, .gone)] := by
 intro t hR E G L a w hr K Q hK
 have hk' : get t (.b k) = some (.bt 173 [c0, .om f n]) := by rw [hR (.b k) (by simp)]; exact hk
 have hf' : get t (.t f) = some (.tk true 5 1 (bsl xs)) := by rw [hR (.t f) (by simp)]; exact hf
 have hd' : get t (.t d) = none := by rw [hR (.t d) (by simp)]; exact hd
 have hne' : d ≠ f := by rintro rfl; rw [hf'] at hd'; cases hd'
 obtain ⟨b, p, v, hb, hv, hbk, hp⟩ := bt_open hr hk' hc0
 have hx1 : a.eval x = .pointer (some ⟨b, 0, none⟩) := by
  obtain ⟨b2, h2, h3⟩ := opd_sound hr hR.left hx
  rw [hb] at h2; cases h2; exact h3
 obtain ⟨v2, hv2, ⟨cells, _, hown, hz, hL, hkn0⟩, hmay⟩ := hr.tok f true 5 1 (bsl xs) hf'
 rw [hv] at hv2; cases hv2
 have hlx : (bsl xs).length = xs.length := by simp [bsl]
 have he : (execOp a.eval ⟨some d, .call { callee := .value (.func 130), args := #[x], argTypes := tys }, ty, pos, af, g⟩).run Tryz.prog w = .ok (.enter 130 #[.pointer (some ⟨b, 0, none⟩)]) w := by
  have heF : a.eval (.func 130) = .func (.func 130) #[] #[] := rfl
  have e : #[] ++ Array.map a.eval #[x] ++ #[] = #[.pointer (some ⟨b, 0, none⟩)] := by simp [hx1]
  simp only [execOp, resolve, heF, Deferred.ofValue, Sem.run_bind, Sem.run_pure, Result.andThen_ok, invoke, run_callFunc hfn, e]
 unfold Oper.wp
 rw [he]
 have hcl : cells.length = xs.length := by have := hown.1; rw [hlx] at this; simpa using this
 have hcb := lay_bytes hL hcl
 rw [hlx, hcb] at hown
 refine (Tryz.bld_str hbk hown).mono ?_
 rintro e w' ⟨rfl, hg⟩
 have hr1 := hr.gonetok hf'
 have hmine : ∀ b, v.ownBlock = some b → owns t L (.t f) b := fun b hb => ⟨⟨_, _, _, _, hf'⟩, v, hv, hb⟩
 obtain ⟨G', _, hle, hr2⟩ := hr1.newtok true (d := d) (el := 5) (esz := 1) (xs := []) (v1 := .slice none 0 0) (cells := []) (row := v.ownBlock) (by simp [get, Ne.symm hne']; exact hd') (by decide) hg (fun b hb => by
   refine ⟨(owns_lt hr (hmine b hb)).2, fun c hc => ?_, fun H g => hr.hdisj _ _ (hmine b hb) H (by simpa [get] using g), (hmay b hb).2, fun o u e => ?_⟩
   ·by_cases e : c = .t f
    ·subst e; obtain ⟨⟨m, el, esz, xs, g⟩, _⟩ := hc; simp [get] at g
    ·exact e (hr.disj c (.t f) b (owns_cons e hc) (hmine b hb))
   ·have := hkn0 b hb o
    rw [this] at e; cases e) (fun b hb => by simp [Value.ownBlock] at hb) (World.ownsRow_nil w' 0 5 1) ⟨fun i e h => by simp at h, fun i e j c h => by simp at h⟩ (fun b hb => by simp [Value.ownBlock] at hb)
 have hr4 := hr2.put d hN (.string ⟨xs.toArray⟩) (.v (.str xs)) (.str _)
 exact hK _ w' G' _ hr4
end
/- The library's functions as calls of the logic: HasPrefix, CutPrefix, Index, IndexByte, ParseUint, FormatUint, ReplaceAll. Condition: the texts are not too long. -/
theorem ba (s : List UInt8) : (⟨s.toArray⟩ : ByteArray).data.toList = s := by simp
theorem bas (s : List UInt8) : (⟨s.toArray⟩ : ByteArray).size = s.length := by simp [ByteArray.size]
theorem has_pure (s p : List UInt8) : Pure Tryz.prog 54 [.str s, .str p] (.bool (Lib.hasPrefix s p)) := Pure.of_same fun G w c _ _ _ hV => by
 obtain ⟨x, y, rfl, hx, hy⟩ := hV.two
 rw [hx.str_eq, hy.str_eq]
 refine (Tryz.strings_HasPrefix _ _ w).mono fun e w' ⟨he, hw⟩ => ⟨⟨_, he, ?_⟩, hw⟩
 rw [ba, ba]; exact .bool _
theorem cut_pure (s p : List UInt8) : Pure Tryz.prog 125 [.str s, .str p] (.tup [.str (Lib.trimPrefix s p), .bool (Lib.hasPrefix s p)]) := Pure.of_same fun G w c _ _ _ hV => by
 obtain ⟨x, y, rfl, hx, hy⟩ := hV.two
 rw [hx.str_eq, hy.str_eq]
 refine (Tryz.strings_CutPrefix _ _ w).mono fun e w' ⟨he, hw⟩ => ⟨⟨_, he, ?_⟩, hw⟩
 rw [ba, ba]; exact V.tup2 (.str _) (.bool _)
theorem index_pure (s : List UInt8) (c : UInt8) : Pure Tryz.prog 128 [.str s, .str [c]] (.int .i64 (Lib.indexByte s c)) := Pure.of_same fun G w cc _ _ _ hV => by
 obtain ⟨x, y, rfl, hx, hy⟩ := hV.two
 rw [hx.str_eq, hy.str_eq]
 refine (Tryz.strings_Index_one _ c w).mono fun e w' ⟨he, hw⟩ => ⟨⟨_, he, ?_⟩, hw⟩
 rw [ba]; exact .int _ _
theorem indexByte_pure (s : List UInt8) (c : UInt8) : Pure Tryz.prog 131 [.str s, .int .u8 (c.toNat : Int)] (.int .i64 (Lib.indexByte s c)) := Pure.of_same fun G w cc _ _ _ hV => by
 obtain ⟨x, y, rfl, hx, hy⟩ := hV.two
 rw [hx.str_eq, hy.int_eq]
 refine (Tryz.strings_IndexByte _ _ w).mono fun e w' ⟨he, hw⟩ => ⟨⟨_, he, ?_⟩, hw⟩
 rw [ba]
 have : ((c.toNat : Int).toNat.toUInt8) = c := by simp
 rw [this]; exact .int _ _
theorem parse_ok (s : List UInt8) (h63 : s.length ≤ 281474976710656) (u : Nat) (h : Lib.parseUintB 64 s = .ok u) : Pure Tryz.prog 126 [.str s, .int .i64 10, .int .i64 64] (.tup [.int .u64 u, .nili]) := Pure.of_calls fun G w c _ _ _ hV => by
 obtain ⟨x, y, z, rfl, hx, hy, hz⟩ := hV.three
 rw [hx.str_eq, hy.int_eq, hz.int_eq]
 refine (Tryz.strconv_ParseUint_10_at64_ok _ (by rw [bas]; omega) u (by rw [ba]; exact h) w).mono fun e w' ⟨he, hw⟩ => ⟨_, he, V.tup2 (.int _ _) .nili, ?_⟩
 rcases hw with rfl | rfl
 ·exact Below.refl _ _
 ·exact Go.Joins.below_bytesWorld _ _ _ _ (Nat.le_refl _)
theorem parse_bad (s : List UInt8) (h63 : s.length ≤ 281474976710656) (h : ∀ u, Lib.parseUintB 64 s ≠ .ok u) : ∃ u : Nat, Pure Tryz.prog 126 [.str s, .int .i64 10, .int .i64 64] (.tup [.int .u64 u, .ifc 209 .junk]) := by
 rcases h2 : Lib.parseUintB 64 s with u | _ | _
 ·exact absurd h2 (h u)
 ·
  refine ⟨0, Pure.of_calls fun G w c hg _ _ hV => ?_⟩
  obtain ⟨x, y, z, rfl, hx, hy, hz⟩ := hV.three
  rw [hx.str_eq, hy.int_eq, hz.int_eq]
  obtain ⟨te, pe, h4⟩ := gokSyn hg
  refine (Tryz.strconv_ParseUint_10_at64_syntax _ (by rw [bas]; omega) (by rw [ba]; exact h2.trans rfl) _ w h4 (.inr ⟨te, pe, rfl⟩)).mono fun e w' ⟨n, he, _, _, hw⟩ => ⟨_, he, V.tup2 (.int _ _) (.ifc _ _ _ (.junk _ rfl)), hw⟩
 ·
  refine ⟨18446744073709551615, Pure.of_calls fun G w c hg _ _ hV => ?_⟩
  obtain ⟨x, y, z, rfl, hx, hy, hz⟩ := hV.three
  rw [hx.str_eq, hy.int_eq, hz.int_eq]
  obtain ⟨te, pe, h4⟩ := gokRange hg
  refine (Tryz.strconv_ParseUint_10_at64_range _ (by rw [bas]; omega) (by rw [ba]; exact h2) _ w h4 (.inr ⟨te, pe, rfl⟩)).mono fun e w' ⟨n, he, _, _, hw⟩ => ⟨_, he, V.tup2 (.int _ _) (.ifc _ _ _ (.junk _ rfl)), hw⟩
theorem format_pure (u : Nat) (hu : u < 18446744073709551616) : Pure Tryz.prog 190 [.int .u64 u, .int .i64 10] (.str (Lib.decDigits u)) := Pure.of_calls fun G w c hg _ _ hV => by
 obtain ⟨x, y, rfl, hx, hy⟩ := hV.two
 rw [hx.int_eq, hy.int_eq]
 exact (Tryz.inner_FormatUint u hu w (gokPow hg)).mono fun e w' ⟨he, hw⟩ => ⟨_, he, .str _, hw⟩
set_option linter.unusedSectionVars false
set_option maxRecDepth 100000
/- lex: what a byte is, in the program and in the document. -/
theorem fn122_q : isFn Tryz.prog 122 = true := by kernel_rfl
theorem fn124_q : isFn Tryz.prog 124 = true := by kernel_rfl
theorem wru64 {n : Int} (h0 : 0 ≤ n) (h : n < 18446744073709551616) : IntKind.u64.wrap n = n := by simp only [IntKind.wrap, IntKind.bits, IntKind.signed]; simp; omega
theorem wru8 {n : Int} (h0 : 0 ≤ n) (h : n < 256) : IntKind.u8.wrap n = n := by simp only [IntKind.wrap, IntKind.bits, IntKind.signed]; simp; omega
theorem letter_pure (c : UInt8) : Pure Tryz.prog 122 [.int .u8 (c.toNat : Int)] (.bool (isLet c)) := by
 refine Pure.of_tri Tryz.func122 rfl rfl (ltb rfl) fun H => ?_
 refine Tri.seq (Tri.region ?_)
 refine TriL.c1 rfl (op_as (ltb rfl) rfl) ?_
 refine TriL.nil (Tri.seq (Tri.region ?_))
 refine TriL.c1 rfl (op_mv (ltb rfl) rfl) ?_
 refine TriL.c1 rfl (op_bin (ltb rfl) rfl rfl rfl) ?_
 refine TriL.c1 rfl (op_mv (ltb rfl) rfl) ?_
 refine TriL.split (d := 5) rfl (fun hg1 => ?_) (fun hg1 => ?_)
 ·refine TriL.g1 rfl (ltb rfl) rfl hg1 (op_mv (ltb rfl) rfl) ?_
  refine TriL.g1 rfl (ltb rfl) rfl hg1 (op_bin (ltb rfl) rfl rfl rfl) ?_
  refine TriL.c1 rfl (op_pickt (ltb rfl) rfl hg1 rfl) ?_
  refine TriL.c1 rfl (op_mv (ltb rfl) rfl) ?_
  refine TriL.split (d := 9) rfl (fun hg2 => ?_) (fun hg2 => ?_)
  ·iterate 3 (refine TriL.skipu rfl rfl (ltb rfl) (ltb rfl) rfl hg2 ?_)
   iterate 2 (refine TriL.skipg rfl rfl (ltb rfl) (ltb rfl) rfl ?_)
   refine TriL.skipu rfl rfl (ltb rfl) (ltb rfl) rfl hg2 ?_
   refine TriL.c1 rfl (op_pickt (ltb rfl) rfl hg2 rfl) ?_
   refine TriL.c1 rfl (op_as (ltb rfl) rfl) ?_
   refine TriL.nil (Tri.ret ?_)
   exact ⟨.inr rfl, (ResOK.r1 rfl (.tmp rfl .nil)).cast (by exact congrArg AV.bool (Bool.eq_iff_iff.2 (by simp [isLet] at *; omega))), rfl⟩
  ·refine TriL.g1 rfl (ltb rfl) rfl hg2 (op_mv (ltb rfl) rfl) ?_
   refine TriL.g1 rfl (ltb rfl) rfl hg2 (op_bin (ltb rfl) rfl rfl rfl) ?_
   refine TriL.g1 rfl (ltb rfl) rfl hg2 (op_mv (ltb rfl) rfl) ?_
   refine TriL.split (d := 12) rfl (fun hg3 => ?_) (fun hg3 => ?_)
   ·refine TriL.g1 rfl (ltb rfl) rfl hg3 (op_mv (ltb rfl) rfl) ?_
    refine TriL.g1 rfl (ltb rfl) rfl hg3 (op_bin (ltb rfl) rfl rfl rfl) ?_
    refine TriL.g1 rfl (ltb rfl) rfl hg2 (op_pickt (ltb rfl) rfl hg3 rfl) ?_
    refine TriL.c1 rfl (op_pickf (ltb rfl) rfl hg2 rfl) ?_
    refine TriL.c1 rfl (op_as (ltb rfl) rfl) ?_
    refine TriL.nil (Tri.ret ?_)
    exact ⟨.inr rfl, (ResOK.r1 rfl (.tmp rfl .nil)).cast (by exact congrArg AV.bool (Bool.eq_iff_iff.2 (by simp [isLet] at *; omega))), rfl⟩
   ·iterate 2 (refine TriL.skipu rfl rfl (ltb rfl) (ltb rfl) rfl hg3 ?_)
    refine TriL.g1 rfl (ltb rfl) rfl hg2 (op_pickf (ltb rfl) rfl hg3 rfl) ?_
    refine TriL.c1 rfl (op_pickf (ltb rfl) rfl hg2 rfl) ?_
    refine TriL.c1 rfl (op_as (ltb rfl) rfl) ?_
    refine TriL.nil (Tri.ret ?_)
    exact ⟨.inr rfl, (ResOK.r1 rfl (.tmp rfl .nil)).cast (by exact congrArg AV.bool (Bool.eq_iff_iff.2 (by simp [isLet] at *; omega))), rfl⟩
 ·iterate 2 (refine TriL.skipu rfl rfl (ltb rfl) (ltb rfl) rfl hg1 ?_)
  refine TriL.c1 rfl (op_pickf (ltb rfl) rfl hg1 rfl) ?_
  refine TriL.c1 rfl (op_mv (ltb rfl) rfl) ?_
  refine TriL.g1 rfl (ltb rfl) rfl rfl (op_mv (ltb rfl) rfl) ?_
  refine TriL.g1 rfl (ltb rfl) rfl rfl (op_bin (ltb rfl) rfl rfl rfl) ?_
  refine TriL.g1 rfl (ltb rfl) rfl rfl (op_mv (ltb rfl) rfl) ?_
  refine TriL.split (d := 12) rfl (fun hg4 => ?_) (fun hg4 => ?_)
  ·refine TriL.g1 rfl (ltb rfl) rfl hg4 (op_mv (ltb rfl) rfl) ?_
   refine TriL.g1 rfl (ltb rfl) rfl hg4 (op_bin (ltb rfl) rfl rfl rfl) ?_
   refine TriL.g1 rfl (ltb rfl) rfl rfl (op_pickt (ltb rfl) rfl hg4 rfl) ?_
   refine TriL.c1 rfl (op_pickf (ltb rfl) rfl rfl rfl) ?_
   refine TriL.c1 rfl (op_as (ltb rfl) rfl) ?_
   refine TriL.nil (Tri.ret ?_)
   exact ⟨.inr rfl, (ResOK.r1 rfl (.tmp rfl .nil)).cast (by exact congrArg AV.bool (Bool.eq_iff_iff.2 (by simp [isLet] at *; omega))), rfl⟩
  ·iterate 2 (refine TriL.skipu rfl rfl (ltb rfl) (ltb rfl) rfl hg4 ?_)
   refine TriL.g1 rfl (ltb rfl) rfl rfl (op_pickf (ltb rfl) rfl hg4 rfl) ?_
   refine TriL.c1 rfl (op_pickf (ltb rfl) rfl rfl rfl) ?_
   refine TriL.c1 rfl (op_as (ltb rfl) rfl) ?_
   refine TriL.nil (Tri.ret ?_)
   exact ⟨.inr rfl, (ResOK.r1 rfl (.tmp rfl .nil)).cast (by exact congrArg AV.bool (Bool.eq_iff_iff.2 (by simp [isLet] at *; omega))), rfl⟩
theorem digit_pure (c : UInt8) : Pure Tryz.prog 124 [.int .u8 (c.toNat : Int)] (.bool (isDig c)) := by
 refine Pure.of_tri Tryz.func124 rfl rfl (ltb rfl) fun H => ?_
 refine Tri.seq (Tri.region ?_)
 refine TriL.c1 rfl (op_as (ltb rfl) rfl) ?_
 refine TriL.nil (Tri.seq (Tri.region ?_))
 refine TriL.c1 rfl (op_mv (ltb rfl) rfl) ?_
 refine TriL.c1 rfl (op_bin (ltb rfl) rfl rfl rfl) ?_
 refine TriL.c1 rfl (op_mv (ltb rfl) rfl) ?_
 refine TriL.split (d := 5) rfl (fun hg1 => ?_) (fun hg1 => ?_)
 ·refine TriL.g1 rfl (ltb rfl) rfl hg1 (op_mv (ltb rfl) rfl) ?_
  refine TriL.g1 rfl (ltb rfl) rfl hg1 (op_bin (ltb rfl) rfl rfl rfl) ?_
  refine TriL.c1 rfl (op_pickt (ltb rfl) rfl hg1 rfl) ?_
  refine TriL.c1 rfl (op_as (ltb rfl) rfl) ?_
  refine TriL.nil (Tri.ret ?_)
  exact ⟨.inr rfl, (ResOK.r1 rfl (.tmp rfl .nil)).cast (by exact congrArg AV.bool (Bool.eq_iff_iff.2 (by simp [isDig] at *; omega))), rfl⟩
 ·iterate 2 (refine TriL.skipu rfl rfl (ltb rfl) (ltb rfl) rfl hg1 ?_)
  refine TriL.c1 rfl (op_pickf (ltb rfl) rfl hg1 rfl) ?_
  refine TriL.c1 rfl (op_as (ltb rfl) rfl) ?_
  refine TriL.nil (Tri.ret ?_)
  exact ⟨.inr rfl, (ResOK.r1 rfl (.tmp rfl .nil)).cast (by exact congrArg AV.bool (Bool.eq_iff_iff.2 (by simp [isDig] at *; omega))), rfl⟩
theorem nonl_pure (c : UInt8) : Pure Tryz.prog 56 [.int .u8 (c.toNat : Int)] (.bool (noNl c)) := by
 refine Pure.of_tri Tryz.func56 rfl rfl (ltb rfl) fun H => ?_
 refine Tri.seq (Tri.region ?_)
 refine TriL.c1 rfl (op_as (ltb rfl) rfl) ?_
 refine TriL.nil (Tri.seq (Tri.region ?_))
 refine TriL.c1 rfl (op_mv (ltb rfl) rfl) ?_
 refine TriL.c1 rfl (op_bin (ltb rfl) rfl rfl rfl) ?_
 refine TriL.c1 rfl (op_as (ltb rfl) rfl) ?_
 refine TriL.nil (Tri.ret ?_)
 exact ⟨.inr rfl, (ResOK.r1 rfl (.tmp rfl .nil)).cast (by exact congrArg AV.bool (Bool.eq_iff_iff.2 (by simp [noNl] at *; omega))), rfl⟩
theorem wd_pure (c : UInt8) : Pure Tryz.prog 123 [.int .u8 (c.toNat : Int)] (.bool (isWd c)) := by
 refine Pure.of_tri Tryz.func123 rfl rfl (ltb rfl) fun H => ?_
 refine Tri.seq (Tri.region ?_)
 refine TriL.c1 rfl (op_as (ltb rfl) rfl) ?_
 refine TriL.nil (Tri.seq (Tri.region ?_))
 refine TriL.c1 rfl (op_mv (ltb rfl) rfl) ?_
 refine TriL.c1 rfl (op_call (ltb rfl) fn122_q rfl (letter_pure c)) ?_
 refine TriL.c1 rfl (op_mv (ltb rfl) rfl) ?_
 refine TriL.split (d := 5) rfl (fun hg1 => ?_) (fun hg1 => ?_)
 ·iterate 2 (refine TriL.skipu rfl rfl (ltb rfl) (ltb rfl) rfl hg1 ?_)
  refine TriL.c1 rfl (op_pickt (ltb rfl) rfl hg1 rfl) ?_
  refine TriL.c1 rfl (op_mv (ltb rfl) rfl) ?_
  iterate 2 (refine TriL.skipu rfl rfl (ltb rfl) (ltb rfl) rfl rfl ?_)
  refine TriL.c1 rfl (op_pickt (ltb rfl) rfl rfl rfl) ?_
  refine TriL.c1 rfl (op_as (ltb rfl) rfl) ?_
  refine TriL.nil (Tri.ret ?_)
  exact ⟨.inr rfl, (ResOK.r1 rfl (.tmp rfl .nil)).cast (by exact congrArg AV.bool (Bool.eq_iff_iff.2 (by simp [isWd] at *; simp_all <;> omega))), rfl⟩
 ·refine TriL.g1 rfl (ltb rfl) rfl hg1 (op_mv (ltb rfl) rfl) ?_
  refine TriL.g1 rfl (ltb rfl) rfl hg1 (op_call (ltb rfl) fn124_q rfl (digit_pure c)) ?_
  refine TriL.c1 rfl (op_pickf (ltb rfl) rfl hg1 rfl) ?_
  refine TriL.c1 rfl (op_mv (ltb rfl) rfl) ?_
  refine TriL.split (d := 9) rfl (fun hg2 => ?_) (fun hg2 => ?_)
  ·iterate 2 (refine TriL.skipu rfl rfl (ltb rfl) (ltb rfl) rfl hg2 ?_)
   refine TriL.c1 rfl (op_pickt (ltb rfl) rfl hg2 rfl) ?_
   refine TriL.c1 rfl (op_as (ltb rfl) rfl) ?_
   refine TriL.nil (Tri.ret ?_)
   exact ⟨.inr rfl, (ResOK.r1 rfl (.tmp rfl .nil)).cast (by exact congrArg AV.bool (Bool.eq_iff_iff.2 (by simp [isWd] at *; simp_all <;> omega))), rfl⟩
  ·refine TriL.g1 rfl (ltb rfl) rfl hg2 (op_mv (ltb rfl) rfl) ?_
   refine TriL.g1 rfl (ltb rfl) rfl hg2 (op_bin (ltb rfl) rfl rfl rfl) ?_
   refine TriL.c1 rfl (op_pickf (ltb rfl) rfl hg2 rfl) ?_
   refine TriL.c1 rfl (op_as (ltb rfl) rfl) ?_
   refine TriL.nil (Tri.ret ?_)
   exact ⟨.inr rfl, (ResOK.r1 rfl (.tmp rfl .nil)).cast (by exact congrArg AV.bool (Bool.eq_iff_iff.2 (by simp [isWd] at *; simp_all <;> omega))), rfl⟩
/- lex: how many bytes are such; a word; a mark; a number's digits. -/
theorem tup2 {a b c d : AV} (h : a = c) (k : b = d) : AV.tup [a, b] = AV.tup [c, d] := by rw [h, k]
def Tk.av (t : Tk) : AV := .agg [.int .i64 t.k, .str t.s, .int .u64 t.n, .bool t.neg, .int .i64 t.pos]
def tkn (x : Tk × Nat) : AV := .tup [x.1.av, .int .i64 x.2]
def StSp (H : Hp) (s : List UInt8) (f : FuncId) (j : Int) : St := [(.h, .hp H), (.s 0, .sv (.v (.str s))), (.s 1, .sv (.v (.fn f []))), (.s 5, .sv (.v (.int .i64 j)))]
theorem ixc {s : List UInt8} {i : Nat} {j : Int} {c : UInt8} (hj : j = i) (h : s[i]? = some c) : s[j.toNat]? = some c := by subst hj; simpa using h
theorem span_pure (s : List UInt8) (f : FuncId) (p : UInt8 → Bool) (hf : ∀ c : UInt8, Pure Tryz.prog f [.int .u8 (c.toNat : Int)] (.bool (p c))) (hfn : isFn Tryz.prog f = true) (hs : s.length ≤ 1073741824) :
  Pure Tryz.prog 55 [.str s, .fn f []] (.int .i64 (spn p s : Nat)) := by
 refine Pure.of_tri Tryz.func55 rfl rfl (ltb rfl) fun H => ?_
 refine Tri.seq (Tri.region ?_)
 refine TriL.c1 rfl (op_as (ltb rfl) rfl) ?_
 refine TriL.nil (Tri.seq (Tri.region ?_))
 refine TriL.c1 rfl (op_as (ltb rfl) rfl) ?_
 refine TriL.kept (Kept.keep [.h, .s 0, .s 1, .s 5] rfl (by decide) (Kept.now ?_))
 refine Tri.seq (Tri.blk ?_)
 -- LOOP 1: KEEP
 refine Tri.loop (fun q w => ∃ (i : Nat) (j : Int), w = StSp H s f j ∧ j = i ∧ i ≤ spn p s ∧ q = s.length - i) ?_ (n := s.length) ⟨0, 0, rfl, rfl, Nat.zero_le _, rfl⟩
 rintro q w ⟨i, j, rfl, hj, hi, rfl⟩
 have hsl := spn_le p s
 refine Tri.seq (Tri.seq (Tri.region ?_))
 iterate 2 (refine TriL.c1 rfl (op_mv (ltb rfl) rfl) ?_)
 refine TriL.c1 rfl (op_lens (ltb rfl) un9_q rfl) ?_
 refine TriL.c1 rfl (op_bin (ltb rfl) rfl rfl rfl) ?_
 refine TriL.c1 rfl (op_mv (ltb rfl) rfl) ?_
 refine TriL.split (d := 10) rfl (fun hg1 => ?_) (fun hg1 => ?_)
 ·have hlt : i < s.length := by have := of_decide_eq_true hg1; omega
  obtain ⟨c, hc⟩ : ∃ c, s[i]? = some c := ⟨s[i], List.getElem?_eq_getElem hlt⟩
  have hd := spn_drop p s i c hi hc
  iterate 3 (refine TriL.g1 rfl (ltb rfl) rfl hg1 (op_mv (ltb rfl) rfl) ?_)
  refine TriL.g1 rfl (ltb rfl) rfl hg1 (op_ixs (ltb rfl) un9_q rfl rfl (by omega) (ixc hj hc)) ?_
  refine TriL.g1 rfl (ltb rfl) rfl hg1 (op_callc (ltb rfl) hfn rfl rfl (hf c)) ?_
  refine TriL.c1 rfl (op_pickt (ltb rfl) rfl hg1 rfl) ?_
  refine TriL.nil ?_
  refine Tri.cond rfl (fun hc2 => ?_) (fun hc2 => ?_)
  ·refine Tri.skip (Tri.blk (Tri.region ?_))
   refine TriL.c1 rfl (op_mv (ltb rfl) rfl) ?_
   refine TriL.c1 rfl (op_bin (ltb rfl) rfl rfl rfl) ?_
   refine TriL.c1 rfl (op_as (ltb rfl) rfl) ?_
   refine TriL.kept (Kept.keep [.h, .s 0, .s 1, .s 5] rfl (by decide) (Kept.now ?_))
   refine ⟨s.length - (i + 1), by omega, i + 1, IntKind.i64.wrap (j + 1), rfl, by rw [hj, wr64] <;> omega, hd.1 hc2, rfl⟩
  ·refine Tri.exit (Tri.seq (Tri.region ?_))
   refine TriL.c1 rfl (op_mv (ltb rfl) rfl) ?_
   refine TriL.c1 rfl (op_as (ltb rfl) rfl) ?_
   refine TriL.nil (Tri.ret ?_)
   exact ⟨.inr rfl, (ResOK.r1 rfl (.tmp rfl .nil)).cast (by rw [hd.2 hc2, hj]), rfl⟩
 ·iterate 5 (refine TriL.skipu rfl rfl (ltb rfl) (ltb rfl) rfl hg1 ?_)
  refine TriL.c1 rfl (op_pickf (ltb rfl) rfl hg1 rfl) ?_
  refine TriL.nil ?_
  refine Tri.condF rfl rfl ?_
  refine Tri.exit (Tri.seq (Tri.region ?_))
  refine TriL.c1 rfl (op_mv (ltb rfl) rfl) ?_
  refine TriL.c1 rfl (op_as (ltb rfl) rfl) ?_
  refine TriL.nil (Tri.ret ?_)
  exact ⟨.inr rfl, (ResOK.r1 rfl (.tmp rfl .nil)).cast (by rw [hj]; have := of_decide_eq_false hg1; rw [show spn p s = i by omega]), rfl⟩
/-- how long the name is that a text begins with -/
def wordN (s : List UInt8) : Nat := (wordT s).2
theorem wordN_le (s : List UInt8) : wordN s ≤ s.length := by
 cases s with
 | nil => simp [wordN, wordT]
 | cons d r =>
  simp only [wordN, wordT]
  split
  ·exact spn_le _ _
  ·simp
/- lex: a word, a mark, a number's digits. -/
theorem fn131_q : isFn Tryz.prog 131 = true := by kernel_rfl
theorem fn158_q : isFn Tryz.prog 158 = true := by kernel_rfl
theorem fn190_q : isFn Tryz.prog 190 = true := by kernel_rfl
theorem fn55_q : isFn Tryz.prog 55 = true := by kernel_rfl
theorem lk112_q : lk Tryz.prog 112 = some (true, 5) := by kernel_rfl
theorem spl112_q : spl Tryz.prog 112 = some [(0, 1), (1, 1), (2, 1), (3, 1), (4, 1)] := by kernel_rfl
theorem zA112_q : zeroA Tryz.prog 112 = some [AV.int IntKind.i64 (0), AV.str [], AV.int IntKind.u64 (0), AV.bool false, AV.int IntKind.i64 (0)] := by kernel_rfl
theorem empty_of {s : List UInt8} (h : (s == ([] : List UInt8)) = true) : s = [] := by simpa using h
theorem cons_of {s : List UInt8} (h : (s == ([] : List UInt8)) = false) : ∃ c r, s = c :: r := by
 cases s with
 | nil => simp at h
 | cons c r => exact ⟨c, r, rfl⟩
theorem ib_spec (c : UInt8) : ∀ l : List UInt8, (Lib.indexByte l c = -1 ∧ c ∉ l) ∨ ∃ n : Nat, Lib.indexByte l c = n ∧ l[n]? = some c ∧ c ∉ l.take n
 | [] => .inl ⟨rfl, by simp⟩
 | b :: l => by
  simp only [Lib.indexByte]
  by_cases hb : b = c
  ·subst hb
   rw [if_pos (by simp)]
   exact .inr ⟨0, rfl, by simp, by simp⟩
  ·rw [if_neg (by simpa using hb)]
   rcases ib_spec c l with ⟨h1, h2⟩ | ⟨n, h1, h2, h3⟩
   ·rw [if_pos (by simp [h1])]
    exact .inl ⟨rfl, by simp [h2, Ne.symm hb]⟩
   ·have hn : ¬ ((Lib.indexByte l c == -1) = true) := by rw [h1]; simp
    rw [if_neg hn, h1]
    exact .inr ⟨n + 1, by omega, by simpa using h2, by simp [h3, Ne.symm hb]⟩
theorem indexByte_mark (c : UInt8) : (Lib.indexByte [123, 125, 40, 41, 61, 44, 46, 59] c < 0) ↔ isMark c = false := by
 have e : c ∉ ([123, 125, 40, 41, 61, 44, 46, 59] : List UInt8) ↔ isMark c = false := by
  simp only [isMark, List.mem_cons, List.not_mem_nil, or_false, decide_eq_false_iff_not, ← UInt8.toNat_inj, UInt8.reduceToNat]
 rcases ib_spec c [123, 125, 40, 41, 61, 44, 46, 59] with ⟨h1, h2⟩ | ⟨n, h1, h2, h3⟩
 ·rw [h1]; exact ⟨fun _ => e.1 h2, fun _ => by decide⟩
 ·rw [h1]
  exact ⟨fun h => by omega, fun h => absurd (List.mem_of_getElem? h2) (e.2 h)⟩
theorem word_pure (s : List UInt8) (hs : s.length ≤ 1073741824) : Pure Tryz.prog 93 [.str s] (tkn (wordT s)) := by
 refine Pure.of_tri Tryz.func93 rfl rfl (ltb rfl) fun H => ?_
 refine Tri.seq (Tri.region ?_)
 refine TriL.c2 rfl (op_all (ltb rfl) zA112_q rfl) ?_
 refine TriL.c1 rfl (op_as (ltb rfl) rfl) ?_
 refine TriL.nil (Tri.seq (Tri.seq (Tri.region ?_)))
 refine TriL.c1 rfl (op_mv (ltb rfl) rfl) ?_
 refine TriL.c1 rfl (op_bin (ltb rfl) rfl rfl rfl) ?_
 refine TriL.c1 rfl (op_mv (ltb rfl) rfl) ?_
 refine TriL.split (d := 7) rfl (fun hg1 => ?_) (fun hg1 => ?_)
 ·iterate 4 (refine TriL.skipu rfl rfl (ltb rfl) (ltb rfl) rfl hg1 ?_)
  refine TriL.c1 rfl (op_pickt (ltb rfl) rfl hg1 rfl) ?_
  refine TriL.nil ?_
  refine Tri.condT rfl rfl ?_
  refine Tri.seq (Tri.region ?_)
  refine TriL.c1 rfl (op_bld (ltb rfl) spl112_q zA112_q rfl rfl) ?_
  refine TriL.c1 rfl (op_stl lk112_q rfl rfl rfl rfl rfl (leb rfl)) ?_
  refine TriL.c1 rfl (op_as (ltb rfl) rfl) ?_
  refine TriL.nil (Tri.ret ?_)
  exact ⟨.inr rfl, (ResOK.r2 rfl (.cell lk112_q rfl rfl rfl rfl (.tmp rfl .nil))).cast (by rw [empty_of hg1]; rfl), rfl⟩
 ·obtain ⟨c, r, rfl⟩ := cons_of hg1
  refine TriL.g1 rfl (ltb rfl) rfl hg1 (op_mv (ltb rfl) rfl) ?_
  refine TriL.g1 rfl (ltb rfl) rfl hg1 (op_ixs (ltb rfl) un9_q rfl rfl (by decide) rfl) ?_
  refine TriL.g1 rfl (ltb rfl) rfl hg1 (op_call (ltb rfl) fn122_q rfl (letter_pure c)) ?_
  refine TriL.g1 rfl (ltb rfl) rfl hg1 (op_un (ltb rfl) rfl rfl) ?_
  refine TriL.c1 rfl (op_pickf (ltb rfl) rfl hg1 rfl) ?_
  refine TriL.nil ?_
  refine Tri.cond rfl (fun hc2 => ?_) (fun hc2 => ?_)
  ·refine Tri.seq (Tri.region ?_)
   refine TriL.c1 rfl (op_bld (ltb rfl) spl112_q zA112_q rfl rfl) ?_
   refine TriL.c1 rfl (op_stl lk112_q rfl rfl rfl rfl rfl (leb rfl)) ?_
   refine TriL.c1 rfl (op_as (ltb rfl) rfl) ?_
   refine TriL.nil (Tri.ret ?_)
   exact ⟨.inr rfl, (ResOK.r2 rfl (.cell lk112_q rfl rfl rfl rfl (.tmp rfl .nil))).cast (by
     have : isLet c = false := by simpa using hc2
     simp only [tkn, wordT, this]; rfl), rfl⟩
  ·refine Tri.skip (Tri.seq (Tri.region ?_))
   refine TriL.c1 rfl (op_mv (ltb rfl) rfl) ?_
   refine TriL.c1 rfl (op_call (ltb rfl) fn55_q rfl (span_pure (c :: r) _ isWd wd_pure (by kernel_rfl) hs)) ?_
   refine TriL.c1 rfl (op_as (ltb rfl) rfl) ?_
   refine TriL.nil (Tri.seq (Tri.region ?_))
   iterate 2 (refine TriL.c1 rfl (op_mv (ltb rfl) rfl) ?_)
   refine TriL.c1 rfl (op_cuts (ltb rfl) un9_q rfl rfl rfl (by omega) (by omega) (by have := spn_le isWd (c :: r); omega)) ?_
   refine TriL.c1 rfl (op_bld (ltb rfl) spl112_q zA112_q rfl rfl) ?_
   refine TriL.c1 rfl (op_mv (ltb rfl) rfl) ?_
   refine TriL.c1 rfl (op_stl lk112_q rfl rfl rfl rfl rfl (leb rfl)) ?_
   refine TriL.c1 rfl (op_as (ltb rfl) rfl) ?_
   refine TriL.nil (Tri.ret ?_)
   exact ⟨.inr rfl, (ResOK.r2 rfl (.cell lk112_q rfl rfl rfl rfl (.tmp rfl .nil))).cast (by
     have : isLet c = true := by simpa using hc2
     simp only [tkn, wordT, this, if_true, Tk.av]; simp), rfl⟩
set_option maxRecDepth 100000 in
theorem mark_pure (s : List UInt8) (hs : s.length ≤ 1073741824) : Pure Tryz.prog 96 [.str s] (tkn (markT s)) := by
 refine Pure.of_tri Tryz.func96 rfl rfl (ltb rfl) fun H => ?_
 refine Tri.seq (Tri.region ?_)
 refine TriL.c2 rfl (op_all (ltb rfl) zA112_q rfl) ?_
 refine TriL.c1 rfl (op_as (ltb rfl) rfl) ?_
 refine TriL.nil (Tri.seq (Tri.seq (Tri.region ?_)))
 refine TriL.c1 rfl (op_mv (ltb rfl) rfl) ?_
 refine TriL.c1 rfl (op_bin (ltb rfl) rfl rfl rfl) ?_
 refine TriL.c1 rfl (op_mv (ltb rfl) rfl) ?_
 refine TriL.split (d := 6) rfl (fun hg1 => ?_) (fun hg1 => ?_)
 ·iterate 4 (refine TriL.skipu rfl rfl (ltb rfl) (ltb rfl) rfl hg1 ?_)
  refine TriL.c1 rfl (op_pickt (ltb rfl) rfl hg1 rfl) ?_
  refine TriL.nil ?_
  refine Tri.condT rfl rfl ?_
  refine Tri.seq (Tri.region ?_)
  refine TriL.c1 rfl (op_bld (ltb rfl) spl112_q zA112_q rfl rfl) ?_
  refine TriL.c1 rfl (op_stl lk112_q rfl rfl rfl rfl rfl (leb rfl)) ?_
  refine TriL.c1 rfl (op_as (ltb rfl) rfl) ?_
  refine TriL.nil (Tri.ret ?_)
  exact ⟨.inr rfl, (ResOK.r2 rfl (.cell lk112_q rfl rfl rfl rfl (.tmp rfl .nil))).cast (by rw [empty_of hg1]; rfl), rfl⟩
 ·obtain ⟨c, r, rfl⟩ := cons_of hg1
  refine TriL.g1 rfl (ltb rfl) rfl hg1 (op_mv (ltb rfl) rfl) ?_
  refine TriL.g1 rfl (ltb rfl) rfl hg1 (op_ixs (ltb rfl) un9_q rfl rfl (by decide) rfl) ?_
  refine TriL.g1 rfl (ltb rfl) rfl hg1 (op_call (ltb rfl) fn131_q rfl (indexByte_pure _ c)) ?_
  refine TriL.g1 rfl (ltb rfl) rfl hg1 (op_bin (ltb rfl) rfl rfl rfl) ?_
  refine TriL.c1 rfl (op_pickf (ltb rfl) rfl hg1 rfl) ?_
  refine TriL.nil ?_
  refine Tri.cond rfl (fun hc2 => ?_) (fun hc2 => ?_)
  ·refine Tri.seq (Tri.region ?_)
   refine TriL.c1 rfl (op_bld (ltb rfl) spl112_q zA112_q rfl rfl) ?_
   refine TriL.c1 rfl (op_stl lk112_q rfl rfl rfl rfl rfl (leb rfl)) ?_
   refine TriL.c1 rfl (op_as (ltb rfl) rfl) ?_
   refine TriL.nil (Tri.ret ?_)
   exact ⟨.inr rfl, (ResOK.r2 rfl (.cell lk112_q rfl rfl rfl rfl (.tmp rfl .nil))).cast (by
     have := (indexByte_mark c).1 (of_decide_eq_true hc2)
     simp only [tkn, markT, this]; rfl), rfl⟩
  ·refine Tri.skip (Tri.seq (Tri.region ?_))
   refine TriL.c1 rfl (op_mv (ltb rfl) rfl) ?_
   refine TriL.c1 rfl (op_cuts (ltb rfl) un9_q rfl rfl rfl (by omega) (by omega) (by simp <;> omega)) ?_
   refine TriL.c1 rfl (op_bld (ltb rfl) spl112_q zA112_q rfl rfl) ?_
   refine TriL.c1 rfl (op_stl lk112_q rfl rfl rfl rfl rfl (leb rfl)) ?_
   refine TriL.c1 rfl (op_as (ltb rfl) rfl) ?_
   refine TriL.nil (Tri.ret ?_)
   exact ⟨.inr rfl, (ResOK.r2 rfl (.cell lk112_q rfl rfl rfl rfl (.tmp rfl .nil))).cast (by
     have : isMark c = true := by
      cases h : isMark c
      ·exact absurd ((indexByte_mark c).2 h) (of_decide_eq_false hc2)
      ·rfl
     simp only [tkn, markT, this, if_true, Tk.av]; rfl), rfl⟩
theorem fmt_pure (u : Nat) (hu : u < 18446744073709551616) : Pure Tryz.prog 158 [.int .u64 u, .int .i64 10] (.str (Lib.decDigits u)) := by
 refine Pure.of_tri Tryz.func158 rfl rfl (ltb rfl) fun H => ?_
 refine Tri.seq (Tri.region ?_)
 refine TriL.c1 rfl (op_as (ltb rfl) rfl) ?_
 refine TriL.nil (Tri.seq (Tri.region ?_))
 iterate 2 (refine TriL.c1 rfl (op_mv (ltb rfl) rfl) ?_)
 refine TriL.c1 rfl (op_call (ltb rfl) fn190_q rfl (format_pure u hu)) ?_
 refine TriL.c1 rfl (op_as (ltb rfl) rfl) ?_
 refine TriL.nil (Tri.ret ?_)
 exact ⟨.inr rfl, (ResOK.r1 rfl (.tmp rfl .nil)), rfl⟩
theorem digs_len {u : Nat} (hu : u < 18446744073709551616) : (Lib.decDigits u).length ≤ 20 := by
 rw [Lib.decDigits_length]
 by_cases h : 1 ≤ u
 ·have := Lib.numDigits_eq u h hu; split at this <;> omega
 ·have : u = 0 := by omega
  subst this; simp [Lib.nDigits]
theorem digits_pure (u : Nat) (neg : Bool) (hu : u < 18446744073709551616) : Pure Tryz.prog 127 [.int .u64 u, .bool neg] (.str (digs u neg)) := by
 refine Pure.of_tri Tryz.func127 rfl rfl (ltb rfl) fun H => ?_
 refine Tri.seq (Tri.region ?_)
 refine TriL.c1 rfl (op_as (ltb rfl) rfl) ?_
 refine TriL.nil (Tri.seq (Tri.region ?_))
 refine TriL.c1 rfl (op_mv (ltb rfl) rfl) ?_
 refine TriL.c1 rfl (op_call (ltb rfl) fn158_q rfl (fmt_pure u hu)) ?_
 refine TriL.c1 rfl (op_as (ltb rfl) rfl) ?_
 refine TriL.nil (Tri.seq (Tri.seq (Tri.region ?_)))
 iterate 2 (refine TriL.c1 rfl (op_mv (ltb rfl) rfl) ?_)
 refine TriL.split (d := 9) rfl (fun hg1 => ?_) (fun hg1 => ?_)
 ·refine TriL.g1 rfl (ltb rfl) rfl hg1 (op_mv (ltb rfl) rfl) ?_
  refine TriL.g1 rfl (ltb rfl) rfl hg1 (op_bin (ltb rfl) rfl rfl rfl) ?_
  refine TriL.c1 rfl (op_pickt (ltb rfl) rfl hg1 rfl) ?_
  refine TriL.nil ?_
  refine Tri.cond rfl (fun hc2 => ?_) (fun hc2 => ?_)
  ·refine Tri.seq (Tri.region ?_)
   refine TriL.c1 rfl (op_mv (ltb rfl) rfl) ?_
   refine TriL.c1 rfl (op_cat (ltb rfl) rfl rfl (by have := digs_len hu; simp; omega)) ?_
   refine TriL.c1 rfl (op_as (ltb rfl) rfl) ?_
   refine TriL.nil (Tri.ret ?_)
   exact ⟨.inr rfl, (ResOK.r1 rfl (.tmp rfl .nil)).cast (by
     have h2 : u ≠ 0 := by simpa using hc2
     have h1 : neg = true := hg1
     simp [digs, h1, h2]), rfl⟩
  ·refine Tri.skip (Tri.seq (Tri.region ?_))
   refine TriL.c1 rfl (op_mv (ltb rfl) rfl) ?_
   refine TriL.c1 rfl (op_as (ltb rfl) rfl) ?_
   refine TriL.nil (Tri.ret ?_)
   exact ⟨.inr rfl, (ResOK.r1 rfl (.tmp rfl .nil)).cast (by
     have h2 : u = 0 := by simpa using hc2
     have h1 : neg = true := hg1
     simp [digs, h1, h2]), rfl⟩
 ·iterate 2 (refine TriL.skipu rfl rfl (ltb rfl) (ltb rfl) rfl hg1 ?_)
  refine TriL.c1 rfl (op_pickf (ltb rfl) rfl hg1 rfl) ?_
  refine TriL.nil ?_
  refine Tri.condF rfl rfl ?_
  refine Tri.skip (Tri.seq (Tri.region ?_))
  refine TriL.c1 rfl (op_mv (ltb rfl) rfl) ?_
  refine TriL.c1 rfl (op_as (ltb rfl) rfl) ?_
  refine TriL.nil (Tri.ret ?_)
  exact ⟨.inr rfl, (ResOK.r1 rfl (.tmp rfl .nil)).cast (by
    have h1 : neg = false := hg1
    simp [digs, h1]), rfl⟩
/- lex: a number; the document's digits. -/
theorem fn125_q : isFn Tryz.prog 125 = true := by kernel_rfl
theorem fn126_q : isFn Tryz.prog 126 = true := by kernel_rfl
theorem fn127_q : isFn Tryz.prog 127 = true := by kernel_rfl
theorem mi168_q : Tryz.prog.underlying 168 = some (.interface (Tryz.prog.methodsAt 168)) := by kernel_rfl
theorem se161_q : se Tryz.prog 161 = some (5, 1, 1) := by kernel_rfl
theorem un161_q : Tryz.prog.underlying 161 = some (TypeDesc.slice 5) := Tryz.underlying161
theorem un5_q : Tryz.prog.underlying 5 = some (TypeDesc.int IntKind.u8) := Tryz.underlying5
theorem unel161_q : Tryz.prog.underlying 5 = some (TypeDesc.int IntKind.u8) := Tryz.underlying5
theorem zAe161_q : zeroA Tryz.prog 5 = some [AV.int IntKind.u8 (0)] := by kernel_rfl
theorem decDigits_small {u : Nat} (h : u < 10) : Lib.decDigits u = [UInt8.ofNat (48 + u)] := by rw [Lib.decDigits, dif_pos h]
theorem decDigits_step {u : Nat} (h : ¬ u < 10) : Lib.decDigits u = Lib.decDigits (u / 10) ++ [UInt8.ofNat (48 + u % 10)] := by rw [Lib.decDigits, dif_neg h]
/-- what is told so far of n: u is left -/
def DigI (n u : Nat) (t : List UInt8) : Prop := (u = 0 ∧ t = Lib.decDigits n) ∨ (0 < u ∧ Lib.decDigits u ++ t = Lib.decDigits n)
theorem DigI.step {n u : Nat} {t : List UInt8} (h : DigI n u t) (h0 : 0 < u) : DigI n (u / 10) ([UInt8.ofNat (48 + u % 10)] ++ t) := by
 rcases h with ⟨h, _⟩ | ⟨_, h⟩
 ·omega
 ·by_cases hu : u < 10
  ·refine .inl ⟨by omega, ?_⟩
   rw [← h, decDigits_small hu, show u % 10 = u by omega]
  ·refine .inr ⟨by omega, ?_⟩
   rw [← h, decDigits_step hu, List.append_assoc]
theorem DigI.len {n u : Nat} {t : List UInt8} (h : DigI n u t) (hn : n < 18446744073709551616) : t.length ≤ 20 := by
 have := digs_len hn
 rcases h with ⟨_, h⟩ | ⟨_, h⟩
 ·rw [h]; exact this
 ·rw [← h, List.length_append] at this; omega
def StDg (H : Hp) (neg : Bool) (t : List UInt8) (u : Nat) : St := [(.h, .hp H), (.s 1, .sv (.v (.bool neg))), (.s 5, .sv (.v (.str t))), (.s 6, .sv (.v (.int .u64 (u : Int))))]
theorem dgc (u : Nat) : IntKind.u8.wrap (IntKind.u64.wrap (48 + ((u : Int).tmod 10))) = (((UInt8.ofNat (48 + u % 10)).toNat : Nat) : Int) := by
 have e : (u : Int).tmod 10 = ((u % 10 : Nat) : Int) := by rw [Int.tmod_eq_emod_of_nonneg (by omega)]; omega
 rw [e, wru64 (by omega) (by omega), wru8 (by omega) (by omega), UInt8.toNat_ofNat_of_lt' (by simp [UInt8.size]; omega)]; omega
theorem dgq (u : Nat) (hu : u < 18446744073709551616) : IntKind.u64.wrap ((u : Int).tdiv 10) = ((u / 10 : Nat) : Int) := by
 rw [Int.tdiv_eq_ediv_of_nonneg (by omega), wru64 (by omega) (by omega)]; omega
theorem dgb (u : Nat) : bytesOf [AV.int .u8 (IntKind.u8.wrap (IntKind.u64.wrap (48 + ((u : Int).tmod 10))))] = some [UInt8.ofNat (48 + u % 10)] := by
 rw [dgc]; exact bytesOf_bsl [UInt8.ofNat (48 + u % 10)]
theorem rdigits_pure (n : Nat) (neg : Bool) (hu : n < 18446744073709551616) : Pure Tryz.prog 78 [.int .u64 n, .bool neg] (.str (digs n neg)) := by
 refine Pure.of_tri Tryz.func78 rfl rfl (ltb rfl) fun H => ?_
 refine Tri.seq (Tri.region ?_)
 refine TriL.c1 rfl (op_as (ltb rfl) rfl) ?_
 refine TriL.nil (Tri.seq (Tri.region ?_))
 refine TriL.c1 rfl (op_as (ltb rfl) rfl) ?_
 refine TriL.nil (Tri.seq (Tri.seq (Tri.region ?_)))
 refine TriL.c1 rfl (op_mv (ltb rfl) rfl) ?_
 refine TriL.c1 rfl (op_bin (ltb rfl) rfl rfl rfl) ?_
 refine TriL.nil ?_
 refine Tri.cond rfl (fun hc1 => ?_) (fun hc1 => ?_)
 ·refine Tri.seq (Tri.region ?_)
  refine TriL.c1 rfl (op_as (ltb rfl) rfl) ?_
  refine TriL.nil (Tri.ret ?_)
  exact ⟨.inr rfl, (ResOK.r1 rfl (.tmp rfl .nil)).cast (by
    have h0 : n = 0 := by have := eq_of_beq hc1; omega
    subst h0
    simp [digs, decDigits_small]), rfl⟩
 ·refine Tri.skip (Tri.seq (Tri.seq (Tri.region ?_)))
  refine TriL.c1 rfl (op_mv (ltb rfl) rfl) ?_
  refine TriL.c1 rfl (op_as (ltb rfl) rfl) ?_
  refine TriL.kept (Kept.keep [.h, .s 1, .s 5, .s 6] rfl (by decide) (Kept.now ?_))
  refine Tri.blk ?_
  -- LOOP 1: KEEP
  refine Tri.loop (fun q w => ∃ (u : Nat) (t : List UInt8), w = StDg H neg t u ∧ DigI n u t ∧ u ≤ n ∧ q = u) ?_ (n := n) ⟨n, [], rfl, .inr ⟨by have := beq_eq_false_iff_ne.1 hc1; omega, by simp⟩, Nat.le_refl _, rfl⟩
  rintro q w ⟨u, t, rfl, hi, hle, rfl⟩
  have hnz : n ≠ 0 := by have := beq_eq_false_iff_ne.1 hc1; omega
  refine Tri.seq (Tri.seq (Tri.region ?_))
  refine TriL.c1 rfl (op_mv (ltb rfl) rfl) ?_
  refine TriL.c1 rfl (op_bin (ltb rfl) rfl rfl rfl) ?_
  refine TriL.nil ?_
  refine Tri.cond rfl (fun hc2 => ?_) (fun hc2 => ?_)
  ·refine Tri.skip (Tri.seq (Tri.blk (Tri.region ?_)))
   refine TriL.c1 rfl (op_mv (ltb rfl) rfl) ?_
   iterate 2 (refine TriL.c1 rfl (op_bin (ltb rfl) rfl rfl rfl) ?_)
   refine TriL.c1 rfl (op_cvi (ltb rfl) un41_q un5_q rfl) ?_
   refine TriL.c1 rfl (op_lit («as» := [_]) (ltb rfl) se161_q zAe161_q rfl rfl rfl (leb rfl)) ?_
   refine TriL.c1 rfl (op_b2s (ltb rfl) un161_q unel161_q un9_q rfl (dgb q)) ?_
   refine TriL.c1 rfl (op_mv (ltb rfl) rfl) ?_
   refine TriL.c1 rfl (op_cat (ltb rfl) rfl rfl (by have := hi.len hu; simp; omega)) ?_
   refine TriL.c1 rfl (op_as (ltb rfl) rfl) ?_
   refine TriL.nil (Tri.region ?_)
   refine TriL.c1 rfl (op_mv (ltb rfl) rfl) ?_
   refine TriL.c1 rfl (op_bin (ltb rfl) rfl rfl rfl) ?_
   refine TriL.c1 rfl (op_as (ltb rfl) rfl) ?_
   refine TriL.kept (Kept.keep [.h, .s 1, .s 5, .s 6] rfl (by decide) (Kept.now ?_))
   have h0 : 0 < q := by have := of_decide_eq_true hc2; omega
   exact ⟨q / 10, by omega, q / 10, [UInt8.ofNat (48 + q % 10)] ++ t, by rw [dgq q (by omega)]; rfl, hi.step h0, by omega, rfl⟩
  ·have hq : q = 0 := by have := of_decide_eq_false hc2; omega
   have ht : t = Lib.decDigits n := by rcases hi with ⟨_, h⟩ | ⟨h, _⟩; exact h; omega
   refine Tri.exit (Tri.seq (Tri.seq (Tri.region ?_)))
   refine TriL.c1 rfl (op_mv (ltb rfl) rfl) ?_
   refine TriL.nil ?_
   refine Tri.cond rfl (fun hc3 => ?_) (fun hc3 => ?_)
   ·refine Tri.seq (Tri.region ?_)
    refine TriL.c1 rfl (op_mv (ltb rfl) rfl) ?_
    refine TriL.c1 rfl (op_cat (ltb rfl) rfl rfl (by have := hi.len hu; simp; omega)) ?_
    refine TriL.c1 rfl (op_as (ltb rfl) rfl) ?_
    refine TriL.nil (Tri.ret ?_)
    exact ⟨.inr rfl, (ResOK.r1 rfl (.tmp rfl .nil)).cast (by have h1 : neg = true := hc3; rw [ht]; simp [digs, h1, hnz]), rfl⟩
   ·refine Tri.skip (Tri.seq (Tri.region ?_))
    refine TriL.c1 rfl (op_mv (ltb rfl) rfl) ?_
    refine TriL.c1 rfl (op_as (ltb rfl) rfl) ?_
    refine TriL.nil (Tri.ret ?_)
    exact ⟨.inr rfl, (ResOK.r1 rfl (.tmp rfl .nil)).cast (by have h1 : neg = false := hc3; rw [ht]; simp [digs, h1]), rfl⟩
theorem unsg_le (s : List UInt8) : (unsg s).length ≤ s.length := by
 unfold unsg Lib.trimPrefix
 split
 ·simp
 ·exact Nat.le_refl _
def numS (s : List UInt8) : List UInt8 := (unsg s).take (spn isDig (unsg s))
theorem numTk_ok {s : List UInt8} {u : Nat} (h : Lib.parseUintB 64 (numS s) = .ok u) (h1 : ¬ (isNeg s = true ∧ 9223372036854775808 < u)) (h2 : digs u (isNeg s) = s.take (numB s)) : numTk s = (⟨2, [], u, isNeg s, 0⟩, numB s) := by
 unfold numS at h
 unfold numTk numTok
 rw [h]
 simp only []
 rw [if_neg (by rintro (h3 | h3); exact h1 h3; exact h3 h2)]
theorem numTk_no {s : List UInt8} {u : Nat} (h : Lib.parseUintB 64 (numS s) = .ok u) (h1 : (isNeg s = true ∧ 9223372036854775808 < u) ∨ digs u (isNeg s) ≠ s.take (numB s)) : numTk s = zeroT := by
 unfold numS at h
 unfold numTk numTok
 rw [h]
 simp only []
 rw [if_pos h1]
theorem numTk_bad {s : List UInt8} (h : ∀ u, Lib.parseUintB 64 (numS s) ≠ .ok u) : numTk s = zeroT := by
 unfold numS at h
 unfold numTk numTok
 split
 ·rename_i x y e
  split at e
  ·rename_i u e2; exact absurd e2 (h u)
  ·cases e
 ·rfl
theorem parseM_lt : ∀ (l : List UInt8) (a u : Nat), a < 18446744073709551616 → Lib.parseUintM 18446744073709551615 a l = .ok u → u < 18446744073709551616
 | [], a, u, ha, h => by simp [Lib.parseUintM] at h; omega
 | c :: r, a, u, ha, h => by
  simp only [Lib.parseUintM] at h
  split at h
  ·split at h
   ·cases h
   ·split at h
    ·cases h
    ·exact parseM_lt r _ u (by omega) h
  ·cases h
theorem parse_lt {l : List UInt8} {u : Nat} (h : Lib.parseUintB 64 l = .ok u) : u < 18446744073709551616 := by
 unfold Lib.parseUintB at h
 split at h
 ·cases h
 ·exact parseM_lt l 0 u (by decide) h
theorem cutneg_pure (s : List UInt8) : Pure Tryz.prog 125 [.str s, .str [45]] (.tup [.str (unsg s), .bool (isNeg s)]) := cut_pure s [45]
theorem number_bad (s : List UInt8) (u : Nat) (hs : s.length ≤ 1073741824) (hp : Pure Tryz.prog 126 [.str (((unsg s).drop (0 : Int).toNat).take (((spn isDig (unsg s) : Nat) : Int).toNat - (0 : Int).toNat)), .int .i64 10, .int .i64 64] (.tup [.int .u64 u, .ifc 209 .junk])) (hb : ∀ u, Lib.parseUintB 64 (numS s) ≠ .ok u) : Pure Tryz.prog 94 [.str s] (tkn (numTk s)) := by
 have h1 := unsg_le s
 have h2 := spn_le isDig (unsg s)
 refine Pure.of_tri Tryz.func94 rfl rfl (ltb rfl) fun H => ?_
 refine Tri.seq (Tri.region ?_)
 refine TriL.c2 rfl (op_all (ltb rfl) zA112_q rfl) ?_
 refine TriL.c1 rfl (op_as (ltb rfl) rfl) ?_
 refine TriL.nil (Tri.seq (Tri.region ?_))
 refine TriL.c1 rfl (op_mv (ltb rfl) rfl) ?_
 refine TriL.c1 rfl (op_call (ltb rfl) fn125_q rfl (cutneg_pure s)) ?_
 refine TriL.c1 rfl (op_mv (ltb rfl) rfl) ?_
 iterate 2 (refine TriL.c1 rfl (op_ext (ltb rfl) rfl rfl) ?_)
 iterate 2 (refine TriL.c1 rfl (op_as (ltb rfl) rfl) ?_)
 refine TriL.nil (Tri.seq (Tri.region ?_))
 refine TriL.c1 rfl (op_mv (ltb rfl) rfl) ?_
 refine TriL.c1 rfl (op_call (ltb rfl) fn55_q rfl (span_pure (unsg s) _ isDig digit_pure (by kernel_rfl) (by omega))) ?_
 refine TriL.c1 rfl (op_as (ltb rfl) rfl) ?_
 refine TriL.nil (Tri.seq (Tri.region ?_))
 iterate 2 (refine TriL.c1 rfl (op_mv (ltb rfl) rfl) ?_)
 refine TriL.c1 rfl (op_cuts (ltb rfl) un9_q rfl rfl rfl (by omega) (by omega) (by omega)) ?_
 refine TriL.c1 rfl (op_call (ltb rfl) fn126_q rfl hp) ?_
 refine TriL.c1 rfl (op_mv (ltb rfl) rfl) ?_
 iterate 2 (refine TriL.c1 rfl (op_ext (ltb rfl) rfl rfl) ?_)
 iterate 2 (refine TriL.c1 rfl (op_as (ltb rfl) rfl) ?_)
 refine TriL.nil (Tri.seq (Tri.seq ?_))
 refine Tri.drawn mixed rfl ?_
 refine TriD.c1 rfl (op_mv (ltb rfl) rfl) ?_
 refine TriD.c1 rfl (op_nei (ltb rfl) mi168_q rfl rfl) ?_
 refine TriD.c1 rfl (op_mv (ltb rfl) rfl) ?_
 iterate 2 (refine TriD.skipu rfl rfl (ltb rfl) (ltb rfl) rfl rfl ?_)
 iterate 2 (refine TriD.skipg rfl rfl (ltb rfl) (ltb rfl) rfl ?_)
 refine TriD.skipu rfl rfl (ltb rfl) (ltb rfl) rfl rfl ?_
 refine TriD.c1 rfl (op_pickt (ltb rfl) rfl rfl rfl) ?_
 refine TriD.c1 rfl (op_mv (ltb rfl) rfl) ?_
 iterate 13 (refine TriD.skipu rfl rfl (ltb rfl) (ltb rfl) rfl rfl ?_)
 refine TriD.c1 rfl (op_pickt (ltb rfl) rfl rfl rfl) ?_
 refine TriD.nil (by kernel_rfl) (Kept.now ?_)
 refine Tri.condT rfl rfl ?_
 refine Tri.seq (Tri.region ?_)
 refine TriL.c1 rfl (op_bld (ltb rfl) spl112_q zA112_q rfl rfl) ?_
 refine TriL.c1 rfl (op_stl lk112_q rfl rfl rfl rfl rfl (leb rfl)) ?_
 refine TriL.c1 rfl (op_as (ltb rfl) rfl) ?_
 refine TriL.nil (Tri.ret ?_)
 exact ⟨.inr rfl, (ResOK.r2 rfl (.cell lk112_q rfl rfl rfl rfl (.tmp rfl .nil))).cast (by rw [numTk_bad hb]; rfl), rfl⟩
theorem number_ok (s : List UInt8) (u : Nat) (hu : u < 18446744073709551616) (hs : s.length ≤ 1073741824) (hp : Pure Tryz.prog 126 [.str (((unsg s).drop (0 : Int).toNat).take (((spn isDig (unsg s) : Nat) : Int).toNat - (0 : Int).toNat)), .int .i64 10, .int .i64 64] (.tup [.int .u64 u, .nili])) (hk : Lib.parseUintB 64 (numS s) = .ok u) : Pure Tryz.prog 94 [.str s] (tkn (numTk s)) := by
 have h1 := unsg_le s
 have h2 := spn_le isDig (unsg s)
 have e1 : IntKind.i64.wrap (IntKind.i64.wrap ((s.length : Int) - ((unsg s).length : Int)) + ((spn isDig (unsg s) : Nat) : Int)) = ((numB s : Nat) : Int) := by
  rw [wr64 (n := (s.length : Int) - ((unsg s).length : Int)) (by omega) (by omega), wr64 (by omega) (by omega)]; unfold numB; omega
 have e3 : numB s ≤ s.length := by unfold numB; omega
 have e2 : (s.drop (0 : Int).toNat).take ((IntKind.i64.wrap (IntKind.i64.wrap ((s.length : Int) - ((unsg s).length : Int)) + ((spn isDig (unsg s) : Nat) : Int))).toNat - (0 : Int).toNat) = s.take (numB s) := by rw [e1]; simp
 refine Pure.of_tri Tryz.func94 rfl rfl (ltb rfl) fun H => ?_
 refine Tri.seq (Tri.region ?_)
 refine TriL.c2 rfl (op_all (ltb rfl) zA112_q rfl) ?_
 refine TriL.c1 rfl (op_as (ltb rfl) rfl) ?_
 refine TriL.nil (Tri.seq (Tri.region ?_))
 refine TriL.c1 rfl (op_mv (ltb rfl) rfl) ?_
 refine TriL.c1 rfl (op_call (ltb rfl) fn125_q rfl (cutneg_pure s)) ?_
 refine TriL.c1 rfl (op_mv (ltb rfl) rfl) ?_
 iterate 2 (refine TriL.c1 rfl (op_ext (ltb rfl) rfl rfl) ?_)
 iterate 2 (refine TriL.c1 rfl (op_as (ltb rfl) rfl) ?_)
 refine TriL.nil (Tri.seq (Tri.region ?_))
 refine TriL.c1 rfl (op_mv (ltb rfl) rfl) ?_
 refine TriL.c1 rfl (op_call (ltb rfl) fn55_q rfl (span_pure (unsg s) _ isDig digit_pure (by kernel_rfl) (by omega))) ?_
 refine TriL.c1 rfl (op_as (ltb rfl) rfl) ?_
 refine TriL.nil (Tri.seq (Tri.region ?_))
 iterate 2 (refine TriL.c1 rfl (op_mv (ltb rfl) rfl) ?_)
 refine TriL.c1 rfl (op_cuts (ltb rfl) un9_q rfl rfl rfl (by omega) (by omega) (by omega)) ?_
 refine TriL.c1 rfl (op_call (ltb rfl) fn126_q rfl hp) ?_
 refine TriL.c1 rfl (op_mv (ltb rfl) rfl) ?_
 iterate 2 (refine TriL.c1 rfl (op_ext (ltb rfl) rfl rfl) ?_)
 iterate 2 (refine TriL.c1 rfl (op_as (ltb rfl) rfl) ?_)
 refine TriL.nil (Tri.seq (Tri.seq ?_))
 refine Tri.drawn mixed rfl ?_
 refine TriD.c1 rfl (op_mv (ltb rfl) rfl) ?_
 refine TriD.c1 rfl (op_nei (ltb rfl) mi168_q rfl rfl) ?_
 refine TriD.c1 rfl (op_mv (ltb rfl) rfl) ?_
 iterate 2 (refine TriD.g1 rfl (ltb rfl) rfl rfl (op_mv (ltb rfl) rfl) ?_)
 refine TriD.split (d := 27) rfl (fun hg1 => ?_) (fun hg1 => ?_)
 ·refine TriD.g1 rfl (ltb rfl) rfl hg1 (op_mv (ltb rfl) rfl) ?_
  refine TriD.g1 rfl (ltb rfl) rfl hg1 (op_bin (ltb rfl) rfl rfl rfl) ?_
  refine TriD.g1 rfl (ltb rfl) rfl rfl (op_pickt (ltb rfl) rfl hg1 rfl) ?_
  refine TriD.c1 rfl (op_pickf (ltb rfl) rfl rfl rfl) ?_
  refine TriD.c1 rfl (op_mv (ltb rfl) rfl) ?_
  refine TriD.split (d := 32) rfl (fun hg2 => ?_) (fun hg2 => ?_)
  ·iterate 13 (refine TriD.skipu rfl rfl (ltb rfl) (ltb rfl) rfl hg2 ?_)
   refine TriD.c1 rfl (op_pickt (ltb rfl) rfl hg2 rfl) ?_
   refine TriD.nil (by kernel_rfl) (Kept.now ?_)
   refine Tri.condT rfl rfl ?_
   refine Tri.seq (Tri.region ?_)
   refine TriL.c1 rfl (op_bld (ltb rfl) spl112_q zA112_q rfl rfl) ?_
   refine TriL.c1 rfl (op_stl lk112_q rfl rfl rfl rfl rfl (leb rfl)) ?_
   refine TriL.c1 rfl (op_as (ltb rfl) rfl) ?_
   refine TriL.nil (Tri.ret ?_)
   exact ⟨.inr rfl, (ResOK.r2 rfl (.cell lk112_q rfl rfl rfl rfl (.tmp rfl .nil))).cast (by rw [numTk_no hk (.inl ⟨hg1, by have := of_decide_eq_true hg2; omega⟩)]; rfl), rfl⟩
  ·iterate 2 (refine TriD.g1 rfl (ltb rfl) rfl hg2 (op_mv (ltb rfl) rfl) ?_)
   refine TriD.g1 rfl (ltb rfl) rfl hg2 (op_call (ltb rfl) fn127_q rfl (digits_pure u (isNeg s) hu)) ?_
   iterate 2 (refine TriD.g1 rfl (ltb rfl) rfl hg2 (op_mv (ltb rfl) rfl) ?_)
   refine TriD.g1 rfl (ltb rfl) rfl hg2 (op_lens (ltb rfl) un9_q rfl) ?_
   refine TriD.g1 rfl (ltb rfl) rfl hg2 (op_mv (ltb rfl) rfl) ?_
   refine TriD.g1 rfl (ltb rfl) rfl hg2 (op_lens (ltb rfl) un9_q rfl) ?_
   refine TriD.g1 rfl (ltb rfl) rfl hg2 (op_bin (ltb rfl) rfl rfl rfl) ?_
   refine TriD.g1 rfl (ltb rfl) rfl hg2 (op_mv (ltb rfl) rfl) ?_
   refine TriD.g1 rfl (ltb rfl) rfl hg2 (op_bin (ltb rfl) rfl rfl rfl) ?_
   refine TriD.g1 rfl (ltb rfl) rfl hg2 (op_cuts (ltb rfl) un9_q rfl rfl rfl (by omega) (by have := e1; omega) (by have := e1; omega)) ?_
   refine TriD.g1 rfl (ltb rfl) rfl hg2 (op_bin (ltb rfl) rfl rfl rfl) ?_
   refine TriD.c1 rfl (op_pickf (ltb rfl) rfl hg2 rfl) ?_
   refine TriD.nil (by kernel_rfl) (Kept.now ?_)
   refine Tri.cond rfl (fun hc3 => ?_) (fun hc3 => ?_)
   ·refine Tri.seq (Tri.region ?_)
    refine TriL.c1 rfl (op_bld (ltb rfl) spl112_q zA112_q rfl rfl) ?_
    refine TriL.c1 rfl (op_stl lk112_q rfl rfl rfl rfl rfl (leb rfl)) ?_
    refine TriL.c1 rfl (op_as (ltb rfl) rfl) ?_
    refine TriL.nil (Tri.ret ?_)
    exact ⟨.inr rfl, (ResOK.r2 rfl (.cell lk112_q rfl rfl rfl rfl (.tmp rfl .nil))).cast (by
      have hne : digs u (isNeg s) ≠ s.take (numB s) := by
       rw [← e2]
       intro e
       have h := hc3
       simp only [Bool.not_eq_true', beq_eq_false_iff_ne, ne_eq] at h
       exact h e
      rw [numTk_no hk (.inr hne)]; rfl), rfl⟩
   ·refine Tri.skip (Tri.seq (Tri.region ?_))
    iterate 2 (refine TriL.c1 rfl (op_mv (ltb rfl) rfl) ?_)
    refine TriL.c1 rfl (op_bld (ltb rfl) spl112_q zA112_q rfl rfl) ?_
    refine TriL.c1 rfl (op_mv (ltb rfl) rfl) ?_
    refine TriL.c1 rfl (op_lens (ltb rfl) un9_q rfl) ?_
    refine TriL.c1 rfl (op_mv (ltb rfl) rfl) ?_
    refine TriL.c1 rfl (op_lens (ltb rfl) un9_q rfl) ?_
    refine TriL.c1 rfl (op_bin (ltb rfl) rfl rfl rfl) ?_
    refine TriL.c1 rfl (op_mv (ltb rfl) rfl) ?_
    refine TriL.c1 rfl (op_bin (ltb rfl) rfl rfl rfl) ?_
    refine TriL.c1 rfl (op_stl lk112_q rfl rfl rfl rfl rfl (leb rfl)) ?_
    refine TriL.c1 rfl (op_as (ltb rfl) rfl) ?_
    refine TriL.nil (Tri.ret ?_)
    exact ⟨.inr rfl, (ResOK.r2 rfl (.cell lk112_q rfl rfl rfl rfl (.tmp rfl .nil))).cast (by
      have heq : digs u (isNeg s) = s.take (numB s) := by
       rw [← e2]
       have h := hc3
       simp only [Bool.not_eq_false', beq_iff_eq] at h
       exact h
      rw [numTk_ok hk (fun h => (by have := of_decide_eq_false hg2; omega)) heq, e1]; rfl), rfl⟩
 ·iterate 2 (refine TriD.skipu rfl rfl (ltb rfl) (ltb rfl) rfl hg1 ?_)
  refine TriD.g1 rfl (ltb rfl) rfl rfl (op_pickf (ltb rfl) rfl hg1 rfl) ?_
  refine TriD.c1 rfl (op_pickf (ltb rfl) rfl rfl rfl) ?_
  refine TriD.c1 rfl (op_mv (ltb rfl) rfl) ?_
  iterate 2 (refine TriD.g1 rfl (ltb rfl) rfl rfl (op_mv (ltb rfl) rfl) ?_)
  refine TriD.g1 rfl (ltb rfl) rfl rfl (op_call (ltb rfl) fn127_q rfl (digits_pure u (isNeg s) hu)) ?_
  iterate 2 (refine TriD.g1 rfl (ltb rfl) rfl rfl (op_mv (ltb rfl) rfl) ?_)
  refine TriD.g1 rfl (ltb rfl) rfl rfl (op_lens (ltb rfl) un9_q rfl) ?_
  refine TriD.g1 rfl (ltb rfl) rfl rfl (op_mv (ltb rfl) rfl) ?_
  refine TriD.g1 rfl (ltb rfl) rfl rfl (op_lens (ltb rfl) un9_q rfl) ?_
  refine TriD.g1 rfl (ltb rfl) rfl rfl (op_bin (ltb rfl) rfl rfl rfl) ?_
  refine TriD.g1 rfl (ltb rfl) rfl rfl (op_mv (ltb rfl) rfl) ?_
  refine TriD.g1 rfl (ltb rfl) rfl rfl (op_bin (ltb rfl) rfl rfl rfl) ?_
  refine TriD.g1 rfl (ltb rfl) rfl rfl (op_cuts (ltb rfl) un9_q rfl rfl rfl (by omega) (by have := e1; omega) (by have := e1; omega)) ?_
  refine TriD.g1 rfl (ltb rfl) rfl rfl (op_bin (ltb rfl) rfl rfl rfl) ?_
  refine TriD.c1 rfl (op_pickf (ltb rfl) rfl rfl rfl) ?_
  refine TriD.nil (by kernel_rfl) (Kept.now ?_)
  refine Tri.cond rfl (fun hc4 => ?_) (fun hc4 => ?_)
  ·refine Tri.seq (Tri.region ?_)
   refine TriL.c1 rfl (op_bld (ltb rfl) spl112_q zA112_q rfl rfl) ?_
   refine TriL.c1 rfl (op_stl lk112_q rfl rfl rfl rfl rfl (leb rfl)) ?_
   refine TriL.c1 rfl (op_as (ltb rfl) rfl) ?_
   refine TriL.nil (Tri.ret ?_)
   exact ⟨.inr rfl, (ResOK.r2 rfl (.cell lk112_q rfl rfl rfl rfl (.tmp rfl .nil))).cast (by
     have hne : digs u (isNeg s) ≠ s.take (numB s) := by
      rw [← e2]
      intro e
      have h := hc4
      simp only [Bool.not_eq_true', beq_eq_false_iff_ne, ne_eq] at h
      exact h e
     rw [numTk_no hk (.inr hne)]; rfl), rfl⟩
  ·refine Tri.skip (Tri.seq (Tri.region ?_))
   iterate 2 (refine TriL.c1 rfl (op_mv (ltb rfl) rfl) ?_)
   refine TriL.c1 rfl (op_bld (ltb rfl) spl112_q zA112_q rfl rfl) ?_
   refine TriL.c1 rfl (op_mv (ltb rfl) rfl) ?_
   refine TriL.c1 rfl (op_lens (ltb rfl) un9_q rfl) ?_
   refine TriL.c1 rfl (op_mv (ltb rfl) rfl) ?_
   refine TriL.c1 rfl (op_lens (ltb rfl) un9_q rfl) ?_
   refine TriL.c1 rfl (op_bin (ltb rfl) rfl rfl rfl) ?_
   refine TriL.c1 rfl (op_mv (ltb rfl) rfl) ?_
   refine TriL.c1 rfl (op_bin (ltb rfl) rfl rfl rfl) ?_
   refine TriL.c1 rfl (op_stl lk112_q rfl rfl rfl rfl rfl (leb rfl)) ?_
   refine TriL.c1 rfl (op_as (ltb rfl) rfl) ?_
   refine TriL.nil (Tri.ret ?_)
   exact ⟨.inr rfl, (ResOK.r2 rfl (.cell lk112_q rfl rfl rfl rfl (.tmp rfl .nil))).cast (by
     have heq : digs u (isNeg s) = s.take (numB s) := by
      rw [← e2]
      have h := hc4
      simp only [Bool.not_eq_false', beq_iff_eq] at h
      exact h
     rw [numTk_ok hk (fun h => (by have h5 : isNeg s = false := hg1; rw [h5] at h; cases h.1)) heq, e1]; rfl), rfl⟩
theorem number_pure (s : List UInt8) (hs : s.length ≤ 1073741824) : Pure Tryz.prog 94 [.str s] (tkn (numTk s)) := by
 have h1 := unsg_le s
 have h2 := spn_le isDig (unsg s)
 have e : (((unsg s).drop (0 : Int).toNat).take (((spn isDig (unsg s) : Nat) : Int).toNat - (0 : Int).toNat)) = numS s := by simp [numS]
 have hl : (numS s).length ≤ 281474976710656 := by simp [numS]; omega
 by_cases hb : ∃ u, Lib.parseUintB 64 (numS s) = .ok u
 ·obtain ⟨u, hk⟩ := hb
  exact number_ok s u (parse_lt hk) hs (by rw [e]; exact parse_ok _ hl u hk) hk
 ·have hb' : ∀ u, Lib.parseUintB 64 (numS s) ≠ .ok u := fun u e => hb ⟨u, e⟩
  obtain ⟨u, hp⟩ := parse_bad _ hl hb'
  exact number_bad s u hs (by rw [e]; exact hp) hb'
/- The document's number. -/
abbrev Mx : Nat := 18446744073709551615
def PI (s : List UInt8) (k n : Nat) : Prop := Lib.parseUintM Mx 0 (numS s) = Lib.parseUintM Mx n ((numS s).drop k) ∧ n < 18446744073709551616
theorem numS_drop {s : List UInt8} {k : Nat} {c : UInt8} (hk : k + 1 ≤ spn isDig (unsg s)) (hc : (unsg s)[k]? = some c) : (numS s).drop k = c :: (numS s).drop (k + 1) := by
 have h1 : (numS s)[k]? = some c := by unfold numS; rw [List.getElem?_take_of_lt (by omega)]; exact hc
 obtain ⟨hlt, h2⟩ := List.getElem?_eq_some_iff.1 h1
 rw [List.drop_eq_getElem_cons hlt, h2]
theorem PI.step {s : List UInt8} {k n : Nat} {c : UInt8} (h : PI s k n) (hk : k + 1 ≤ spn isDig (unsg s)) (hc : (unsg s)[k]? = some c) (hd : isDig c = true) (ho : ¬ (18446744073709551615 - (c.toNat - 48)) / 10 < n) : PI s (k + 1) (n * 10 + (c.toNat - 48)) := by
 have hd' := of_decide_eq_true hd
 refine ⟨?_, by omega⟩
 rw [h.1, numS_drop hk hc, Lib.parseUintM, if_pos hd', if_neg (by omega), if_neg (by unfold Mx; omega)]
theorem PI.fin {s : List UInt8} {n : Nat} (h : PI s (spn isDig (unsg s)) n) : (spn isDig (unsg s) = 0 → ∀ u, Lib.parseUintB 64 (numS s) ≠ .ok u) ∧ (spn isDig (unsg s) ≠ 0 → Lib.parseUintB 64 (numS s) = .ok n) := by
 have hl : (numS s).length = spn isDig (unsg s) := by have := spn_le isDig (unsg s); simp [numS]; omega
 refine ⟨fun e u hu => ?_, fun e => ?_⟩
 ·rw [List.eq_nil_of_length_eq_zero (hl.trans e)] at hu; cases hu
 ·have hne : numS s ≠ [] := fun e2 => e (by rw [← hl, e2]; rfl)
  unfold Lib.parseUintB
  rw [if_neg hne]
  show Lib.parseUintM Mx 0 (numS s) = .ok n
  rw [h.1, List.drop_of_length_le (by omega)]; rfl
/- lex: a text, in the program and in the document. -/
theorem fn128_q : isFn Tryz.prog 128 = true := by kernel_rfl
theorem fn129_q : isFn Tryz.prog 129 = true := by kernel_rfl
theorem fn130_q : isFn Tryz.prog 130 = true := by kernel_rfl
theorem fn54_q : isFn Tryz.prog 54 = true := by kernel_rfl
theorem cutL {s : List UInt8} {j : Int} {a : Nat} (hj : j = a) : (s.drop j.toNat).take ((s.length : Int).toNat - j.toNat) = s.drop a := by
 subst hj; rw [List.take_of_length_le (by simp)]; simp
theorem idx' {s : List UInt8} {j : Int} {a : Nat} (hj : j = a) : Pure Tryz.prog 128 [.str ((s.drop j.toNat).take ((s.length : Int).toNat - j.toNat)), .str [39]] (.int .i64 (Lib.indexByte (s.drop a) 39)) := by
 rw [cutL hj]; exact index_pure _ 39
theorem has' {s : List UInt8} {j : Int} {a : Nat} (p : List UInt8) (hj : j = a) : Pure Tryz.prog 54 [.str ((s.drop j.toNat).take ((s.length : Int).toNat - j.toNat)), .str p] (.bool (Lib.hasPrefix (s.drop a) p)) := by
 rw [cutL hj]; exact has_pure _ p
theorem txtGo_ne {c : UInt8} {r out : List UInt8} {p : Nat} (h : c ≠ 39) : txtGo (c :: r) out p = txtGo r (out ++ [c]) (p + 1) := by
 cases r <;> simp [txtGo, h]
theorem txt_none : ∀ (l out : List UInt8) (p : Nat), 39 ∉ l → txtGo l out p = none
 | [], _, _, _ => by rw [txtGo]
 | c :: r, out, p, h => by
  have h1 : c ≠ 39 := fun e => h (by rw [e]; exact List.mem_cons_self ..)
  rw [txtGo_ne h1]
  exact txt_none r _ _ fun e => h (List.mem_cons_of_mem _ e)
theorem txt_run : ∀ (n : Nat) (l out : List UInt8) (p : Nat), l[n]? = some 39 → 39 ∉ l.take n → txtGo l out p = txtGo (l.drop n) (out ++ l.take n) (p + n)
 | 0, l, out, p, _, _ => by simp
 | n + 1, [], out, p, h, _ => by simp at h
 | n + 1, c :: r, out, p, h, h2 => by
  have h1 : c ≠ 39 := fun e => h2 (by rw [e]; simp)
  rw [txtGo_ne h1, txt_run n r (out ++ [c]) (p + 1) (by simpa using h) (fun e => h2 (by simp [e]))]
  simp only [List.drop_succ_cons, List.take_succ_cons, List.append_assoc, List.cons_append, List.nil_append]
  congr 1; omega
theorem hasP39 {l : List UInt8} : (Lib.hasPrefix l [39] = true → ∃ r, l = 39 :: r) ∧ (Lib.hasPrefix l [39] = false → ∀ r, l ≠ 39 :: r) := by
 cases l with
 | nil => exact ⟨fun h => by simp [Lib.hasPrefix] at h, fun _ r e => by cases e⟩
 | cons c r =>
  have e : Lib.hasPrefix (c :: r) [39] = (39 == c) := by simp [Lib.hasPrefix, List.isPrefixOf]
  rw [e]
  exact ⟨fun h => ⟨r, by rw [eq_of_beq h]⟩, fun h r' e => by cases e; simp at h⟩
theorem txt_end {l out : List UInt8} {p : Nat} (h : ∀ r, l ≠ 39 :: r) : txtGo (39 :: l) out p = some (out, p + 1) := by
 cases l with
 | nil => simp [txtGo]
 | cons d r =>
  have hd : d ≠ 39 := fun e => h r (by rw [e])
  simp [txtGo, hd]
theorem txt_two {l out : List UInt8} {p : Nat} : txtGo (39 :: 39 :: l) out p = txtGo l (out ++ [39]) (p + 2) := by
 simp [txtGo]
theorem txtTk_none {s : List UInt8} (h : txtT s = none) : txtTk s = zeroT := by unfold txtTk; rw [h]
theorem txtTk_some {s o : List UInt8} {k : Nat} (h : txtT s = some (o, k)) : txtTk s = (⟨3, o, 0, false, 0⟩, k) := by unfold txtTk; rw [h]
theorem txtT_no {s : List UInt8} (h : Lib.hasPrefix s [39] = false) : txtT s = none := by
 cases s with
 | nil => rfl
 | cons c r => rw [txtT, if_neg (fun e => hasP39.2 h r (by rw [e]))]
theorem txtT_yes {s : List UInt8} (h : Lib.hasPrefix s [39] = true) : 1 ≤ s.length ∧ txtT s = txtGo (s.drop 1) [] 1 := by
 obtain ⟨r, rfl⟩ := hasP39.1 h
 exact ⟨by simp, by rw [txtT, if_pos rfl]; rfl⟩
def StTx (H : Hp) (s out : List UInt8) (c0 : Sv) (j : Int) : St := [(.h, .hp H), (.s 0, .sv (.v (.str s))), (.s 2, .sv (.lp 2 0)), (.b 2, .bx [.v (.int .i64 0), .v (.str []), .v (.int .u64 0), .v (.bool false), .v (.int .i64 0)]),
 (.s 4, .sv (.lp 4 0)), (.b 4, .bt 173 [c0, .om 904 out.length]), (.t 904, .tk true 5 1 (bsl out)), (.s 5, .sv (.v (.int .i64 j)))]
theorem text_pure (s : List UInt8) (hs : s.length ≤ 1073741824) : Pure Tryz.prog 95 [.str s] (tkn (txtTk s)) := by
 refine Pure.of_tri Tryz.func95 rfl rfl (ltb rfl) fun H => ?_
 refine Tri.seq (Tri.region ?_)
 refine TriL.c2 rfl (op_all (ltb rfl) zA112_q rfl) ?_
 refine TriL.c1 rfl (op_as (ltb rfl) rfl) ?_
 refine TriL.nil (Tri.seq (Tri.seq (Tri.region ?_)))
 refine TriL.c1 rfl (op_mv (ltb rfl) rfl) ?_
 refine TriL.c1 rfl (op_call (ltb rfl) fn54_q rfl (has_pure s [39])) ?_
 refine TriL.c1 rfl (op_un (ltb rfl) rfl rfl) ?_
 refine TriL.nil ?_
 refine Tri.cond rfl (fun hc1 => ?_) (fun hc1 => ?_)
 ·refine Tri.seq (Tri.region ?_)
  refine TriL.c1 rfl (op_bld (ltb rfl) spl112_q zA112_q rfl rfl) ?_
  refine TriL.c1 rfl (op_stl lk112_q rfl rfl rfl rfl rfl (leb rfl)) ?_
  refine TriL.c1 rfl (op_as (ltb rfl) rfl) ?_
  refine TriL.nil (Tri.ret ?_)
  exact ⟨.inr rfl, (ResOK.r2 rfl (.cell lk112_q rfl rfl rfl rfl (.tmp rfl .nil))).cast (by
    have h : Lib.hasPrefix s [39] = false := by simpa using hc1
    rw [txtTk_none (txtT_no h)]; rfl), rfl⟩
 ·have hp : Lib.hasPrefix s [39] = true := by simpa using hc1
  obtain ⟨hl1, hT⟩ := txtT_yes hp
  refine Tri.skip (Tri.seq (Tri.region ?_))
  refine TriL.c3 rfl (op_alb (f := 904) (ltb rfl) rfl rfl) ?_
  refine TriL.nil (Tri.seq (Tri.region ?_))
  refine TriL.c1 rfl (op_as (ltb rfl) rfl) ?_
  refine TriL.kept (Kept.keep [.h, .s 0, .s 2, .b 2, .s 4, .b 4, .t 904, .s 5] rfl (by decide) (Kept.now ?_))
  refine Tri.blk ?_
  -- LOOP 1: KEEP
  refine Tri.loop (fun q w => ∃ (a : Nat) (out : List UInt8) (c0 : Sv) (j : Int), w = StTx H s out c0 j ∧ (c0 = .v .nilp ∨ c0 = .lp 4 0) ∧ j = a ∧ a ≤ s.length ∧ out.length ≤ a ∧ txtT s = txtGo (s.drop a) out a ∧ q = s.length - a) ?_ (n := s.length - 1) ⟨1, [], .v .nilp, 1, rfl, .inl rfl, rfl, hl1, by simp, hT, rfl⟩
  rintro q w ⟨a, out, c0, j, rfl, hc0, hj, ha, ho, hI, rfl⟩
  have hib := ib_spec 39 (s.drop a)
  refine Tri.blk (Tri.seq (Tri.region ?_))
  iterate 2 (refine TriL.c1 rfl (op_mv (ltb rfl) rfl) ?_)
  refine TriL.c1 rfl (op_cuts (ltb rfl) un9_q rfl rfl rfl (by omega) (by omega) (by omega)) ?_
  refine TriL.c1 rfl (op_call (ltb rfl) fn128_q rfl (idx' hj)) ?_
  refine TriL.c1 rfl (op_as (ltb rfl) rfl) ?_
  refine TriL.nil (Tri.seq (Tri.seq (Tri.region ?_)))
  refine TriL.c1 rfl (op_mv (ltb rfl) rfl) ?_
  refine TriL.c1 rfl (op_bin (ltb rfl) rfl rfl rfl) ?_
  refine TriL.nil ?_
  refine Tri.cond rfl (fun hc2 => ?_) (fun hc2 => ?_)
  ·have hno : 39 ∉ s.drop a := by
     rcases hib with ⟨_, h⟩ | ⟨n, h, _⟩
     ·exact h
     ·have := of_decide_eq_true hc2; omega
   refine Tri.seq (Tri.region ?_)
   refine TriL.c1 rfl (op_bld (ltb rfl) spl112_q zA112_q rfl rfl) ?_
   refine TriL.c1 rfl (op_stl lk112_q rfl rfl rfl rfl rfl (leb rfl)) ?_
   refine TriL.c1 rfl (op_as (ltb rfl) rfl) ?_
   refine TriL.nil (Tri.ret ?_)
   exact ⟨.inr rfl, (ResOK.r2 rfl (.cell lk112_q rfl rfl rfl rfl (.tmp rfl .nil))).cast (by rw [txtTk_none (hI.trans (txt_none _ _ _ hno))]; rfl), rfl⟩
  ·obtain ⟨n, e1, e2, e3⟩ : ∃ n : Nat, Lib.indexByte (s.drop a) 39 = n ∧ (s.drop a)[n]? = some 39 ∧ 39 ∉ (s.drop a).take n := by
     rcases hib with ⟨h, _⟩ | h
     ·have := of_decide_eq_false hc2; omega
     ·exact h
   have hlt : a + n < s.length := by
    have := (List.getElem?_eq_some_iff.1 e2).1
    rw [List.length_drop] at this; omega
   have hw : IntKind.i64.wrap (j + Lib.indexByte (s.drop a) 39) = ((a + n : Nat) : Int) := by rw [e1, hj, wr64] <;> omega
   have hw2 : IntKind.i64.wrap (j + IntKind.i64.wrap (Lib.indexByte (s.drop a) 39 + 1)) = ((a + n + 1 : Nat) : Int) := by rw [e1, hj, wr64 (n := (n : Int) + 1) (by omega) (by omega), wr64] <;> omega
   have hseg : (s.drop j.toNat).take ((IntKind.i64.wrap (j + Lib.indexByte (s.drop a) 39)).toNat - j.toNat) = (s.drop a).take n := by rw [hw, hj]; congr 1; omega
   have hR : txtT s = txtGo (39 :: s.drop (a + n + 1)) (out ++ (s.drop a).take n) (a + n) := by
    rw [hI, txt_run n _ _ _ e2 e3, List.drop_drop]
    have e4 : s[a + n]? = some 39 := by rw [List.getElem?_drop] at e2; exact e2
    obtain ⟨h5, h6⟩ := List.getElem?_eq_some_iff.1 e4
    rw [List.drop_eq_getElem_cons h5, h6]
   have hsl : ((s.drop a).take n).length = n := by rw [List.length_take, List.length_drop]; omega
   refine Tri.skip (Tri.seq (Tri.region ?_))
   iterate 4 (refine TriL.c1 rfl (op_mv (ltb rfl) rfl) ?_)
   refine TriL.c1 rfl (op_bin (ltb rfl) rfl rfl rfl) ?_
   refine TriL.c1 rfl (op_cuts (ltb rfl) un9_q rfl rfl rfl (by omega) (by rw [hw]; omega) (by rw [hw]; omega)) ?_
   refine TriL.c4 rfl (op_bws (ltb rfl) rfl rfl hc0 rfl rfl rfl fn129_q (by rw [hseg, hsl]; omega)) ?_
   refine TriL.nil (Tri.seq (Tri.region ?_))
   iterate 2 (refine TriL.c1 rfl (op_mv (ltb rfl) rfl) ?_)
   iterate 2 (refine TriL.c1 rfl (op_bin (ltb rfl) rfl rfl rfl) ?_)
   refine TriL.c1 rfl (op_as (ltb rfl) rfl) ?_
   refine TriL.nil (Tri.seq (Tri.seq (Tri.region ?_)))
   iterate 2 (refine TriL.c1 rfl (op_mv (ltb rfl) rfl) ?_)
   refine TriL.c1 rfl (op_cuts (ltb rfl) un9_q rfl rfl rfl (by rw [hw2]; omega) (by rw [hw2]; omega) (by omega)) ?_
   refine TriL.c1 rfl (op_call (ltb rfl) fn54_q rfl (has' [39] hw2)) ?_
   refine TriL.c1 rfl (op_un (ltb rfl) rfl rfl) ?_
   refine TriL.nil ?_
   refine Tri.cond rfl (fun hc3 => ?_) (fun hc3 => ?_)
   ·refine Tri.seq (Tri.region ?_)
    refine TriL.c3 rfl (op_bstr (ltb rfl) rfl rfl (.inr rfl) rfl rfl fn130_q) ?_
    refine TriL.c1 rfl (op_bld (ltb rfl) spl112_q zA112_q rfl rfl) ?_
    refine TriL.c1 rfl (op_mv (ltb rfl) rfl) ?_
    refine TriL.c1 rfl (op_stl lk112_q rfl rfl rfl rfl rfl (leb rfl)) ?_
    refine TriL.c1 rfl (op_as (ltb rfl) rfl) ?_
    refine TriL.nil (Tri.ret ?_)
    exact ⟨.inr rfl, (ResOK.r2 rfl (.cell lk112_q rfl rfl rfl rfl (.tmp rfl .nil))).cast (by
      have h : Lib.hasPrefix (s.drop (a + n + 1)) [39] = false := by simpa using hc3
      rw [txtTk_some (hR.trans (txt_end (hasP39.2 h))), hseg, hw2]; rfl), rfl⟩
   ·refine Tri.skip (Tri.seq (Tri.region ?_))
    refine TriL.c4 rfl (op_bws (ltb rfl) rfl rfl (.inr rfl) rfl rfl rfl fn129_q (by rw [List.length_append, hseg, hsl]; simp; omega)) ?_
    refine TriL.nil (Tri.region ?_)
    refine TriL.c1 rfl (op_mv (ltb rfl) rfl) ?_
    refine TriL.c1 rfl (op_bin (ltb rfl) rfl rfl rfl) ?_
    refine TriL.c1 rfl (op_as (ltb rfl) rfl) ?_
    refine TriL.kept (Kept.keep [.h, .s 0, .s 2, .b 2, .s 4, .b 4, .t 37, .s 5] rfl (by decide) (Kept.ren 37 904 (by decide) rfl (Kept.now ?_)))
    have h : Lib.hasPrefix (s.drop (a + n + 1)) [39] = true := by simpa using hc3
    obtain ⟨r', hr'⟩ := hasP39.1 h
    have hl2 : a + n + 1 < s.length := by
     have e := congrArg List.length hr'
     rw [List.length_drop, List.length_cons] at e; omega
    have hdr : s.drop (a + n + 2) = r' := by
     have e := congrArg (List.drop 1) hr'
     rw [List.drop_drop] at e; exact e
    refine ⟨s.length - (a + n + 2), by omega, a + n + 2, (out ++ (s.drop j.toNat).take ((IntKind.i64.wrap (j + Lib.indexByte (s.drop a) 39)).toNat - j.toNat)) ++ [39], .lp 4 0, IntKind.i64.wrap (IntKind.i64.wrap (j + IntKind.i64.wrap (Lib.indexByte (s.drop a) 39 + 1)) + 1), rfl, .inr rfl, by rw [hw2, wr64] <;> omega, by omega, ?_, ?_, rfl⟩
    ·rw [hseg, List.length_append, List.length_append, hsl]; simp; omega
    ·rw [hseg, hR, hr', txt_two, hdr]
theorem txtT_not {c : UInt8} {r : List UInt8} (h : c ≠ 39) : txtT (c :: r) = none := by rw [txtT, if_neg h]
theorem drop_at {s : List UInt8} {i : Nat} {c : UInt8} (h : s[i]? = some c) : s.drop i = c :: s.drop (i + 1) := by
 obtain ⟨h5, h6⟩ := List.getElem?_eq_some_iff.1 h
 rw [List.drop_eq_getElem_cons h5, h6]
/- lex: the token that a text begins with, in the program and in the document. -/
theorem fn93_q : isFn Tryz.prog 93 = true := by kernel_rfl
theorem fn94_q : isFn Tryz.prog 94 = true := by kernel_rfl
theorem fn95_q : isFn Tryz.prog 95 = true := by kernel_rfl
theorem fn96_q : isFn Tryz.prog 96 = true := by kernel_rfl
theorem nxt1 {s : List UInt8} (h : decide (0 < ((wordT s).2 : Int)) = true) : nxtT s = wordT s := if_pos (by have := of_decide_eq_true h; omega)
theorem nxt2 {s : List UInt8} (h : decide (0 < ((wordT s).2 : Int)) = false) (h2 : decide (0 < ((numTk s).2 : Int)) = true) : nxtT s = numTk s := by
 unfold nxtT; rw [if_neg (by have := of_decide_eq_false h; omega), if_pos (by have := of_decide_eq_true h2; omega)]
theorem nxt3 {s : List UInt8} (h : decide (0 < ((wordT s).2 : Int)) = false) (h2 : decide (0 < ((numTk s).2 : Int)) = false) (h3 : decide (0 < ((txtTk s).2 : Int)) = true) : nxtT s = txtTk s := by
 unfold nxtT; rw [if_neg (by have := of_decide_eq_false h; omega), if_neg (by have := of_decide_eq_false h2; omega), if_pos (by have := of_decide_eq_true h3; omega)]
theorem nxt4 {s : List UInt8} (h : decide (0 < ((wordT s).2 : Int)) = false) (h2 : decide (0 < ((numTk s).2 : Int)) = false) (h3 : decide (0 < ((txtTk s).2 : Int)) = false) : nxtT s = markT s := by
 unfold nxtT; rw [if_neg (by have := of_decide_eq_false h; omega), if_neg (by have := of_decide_eq_false h2; omega), if_neg (by have := of_decide_eq_false h3; omega)]
theorem next_pure (s : List UInt8) (hs : s.length ≤ 1073741824) : Pure Tryz.prog 57 [.str s] (tkn (nxtT s)) := by
 refine Pure.of_tri Tryz.func57 rfl rfl (ltb rfl) fun H => ?_
 refine Tri.seq (Tri.region ?_)
 refine TriL.c2 rfl (op_all (ltb rfl) zA112_q rfl) ?_
 refine TriL.c1 rfl (op_as (ltb rfl) rfl) ?_
 refine TriL.nil (Tri.seq (Tri.seq (Tri.region ?_)))
 refine TriL.c1 rfl (op_mv (ltb rfl) rfl) ?_
 refine TriL.c1 rfl (op_call (ltb rfl) fn93_q rfl (word_pure s hs)) ?_
 refine TriL.c1 rfl (op_mv (ltb rfl) rfl) ?_
 iterate 2 (refine TriL.c1 rfl (op_ext (ltb rfl) rfl rfl) ?_)
 refine TriL.c2 rfl (op_all (ltb rfl) zA112_q rfl) ?_
 refine TriL.c1 rfl (op_stl lk112_q rfl rfl rfl rfl rfl (leb rfl)) ?_
 refine TriL.c1 rfl (op_as (ltb rfl) rfl) ?_
 refine TriL.nil (Tri.seq (Tri.region ?_))
 refine TriL.c1 rfl (op_mv (ltb rfl) rfl) ?_
 refine TriL.c1 rfl (op_bin (ltb rfl) rfl rfl rfl) ?_
 refine TriL.nil ?_
 refine Tri.cond rfl (fun hc1 => ?_) (fun hc1 => ?_)
 ·refine Tri.seq (Tri.region ?_)
  refine TriL.c1 rfl (op_ldl (ltb rfl) lk112_q rfl rfl rfl) ?_
  refine TriL.c1 rfl (op_mv (ltb rfl) rfl) ?_
  refine TriL.c1 rfl (op_stl lk112_q rfl rfl rfl rfl rfl (leb rfl)) ?_
  refine TriL.c1 rfl (op_as (ltb rfl) rfl) ?_
  refine TriL.nil (Tri.ret ?_)
  exact ⟨.inr rfl, (ResOK.r2 rfl (.cell lk112_q rfl rfl rfl rfl (.tmp rfl .nil))).cast (by rw [nxt1 hc1]; rfl), rfl⟩
 ·refine Tri.skip (Tri.seq (Tri.seq (Tri.region ?_)))
  refine TriL.c1 rfl (op_mv (ltb rfl) rfl) ?_
  refine TriL.c1 rfl (op_call (ltb rfl) fn94_q rfl (number_pure s hs)) ?_
  refine TriL.c1 rfl (op_mv (ltb rfl) rfl) ?_
  iterate 2 (refine TriL.c1 rfl (op_ext (ltb rfl) rfl rfl) ?_)
  refine TriL.c2 rfl (op_all (ltb rfl) zA112_q rfl) ?_
  refine TriL.c1 rfl (op_stl lk112_q rfl rfl rfl rfl rfl (leb rfl)) ?_
  refine TriL.c1 rfl (op_as (ltb rfl) rfl) ?_
  refine TriL.nil (Tri.seq (Tri.region ?_))
  refine TriL.c1 rfl (op_mv (ltb rfl) rfl) ?_
  refine TriL.c1 rfl (op_bin (ltb rfl) rfl rfl rfl) ?_
  refine TriL.nil ?_
  refine Tri.cond rfl (fun hc2 => ?_) (fun hc2 => ?_)
  ·refine Tri.seq (Tri.region ?_)
   refine TriL.c1 rfl (op_ldl (ltb rfl) lk112_q rfl rfl rfl) ?_
   refine TriL.c1 rfl (op_mv (ltb rfl) rfl) ?_
   refine TriL.c1 rfl (op_stl lk112_q rfl rfl rfl rfl rfl (leb rfl)) ?_
   refine TriL.c1 rfl (op_as (ltb rfl) rfl) ?_
   refine TriL.nil (Tri.ret ?_)
   exact ⟨.inr rfl, (ResOK.r2 rfl (.cell lk112_q rfl rfl rfl rfl (.tmp rfl .nil))).cast (by rw [nxt2 hc1 hc2]; rfl), rfl⟩
  ·refine Tri.skip (Tri.seq (Tri.seq (Tri.region ?_)))
   refine TriL.c1 rfl (op_mv (ltb rfl) rfl) ?_
   refine TriL.c1 rfl (op_call (ltb rfl) fn95_q rfl (text_pure s hs)) ?_
   refine TriL.c1 rfl (op_mv (ltb rfl) rfl) ?_
   iterate 2 (refine TriL.c1 rfl (op_ext (ltb rfl) rfl rfl) ?_)
   refine TriL.c2 rfl (op_all (ltb rfl) zA112_q rfl) ?_
   refine TriL.c1 rfl (op_stl lk112_q rfl rfl rfl rfl rfl (leb rfl)) ?_
   refine TriL.c1 rfl (op_as (ltb rfl) rfl) ?_
   refine TriL.nil (Tri.seq (Tri.region ?_))
   refine TriL.c1 rfl (op_mv (ltb rfl) rfl) ?_
   refine TriL.c1 rfl (op_bin (ltb rfl) rfl rfl rfl) ?_
   refine TriL.nil ?_
   refine Tri.cond rfl (fun hc3 => ?_) (fun hc3 => ?_)
   ·refine Tri.seq (Tri.region ?_)
    refine TriL.c1 rfl (op_ldl (ltb rfl) lk112_q rfl rfl rfl) ?_
    refine TriL.c1 rfl (op_mv (ltb rfl) rfl) ?_
    refine TriL.c1 rfl (op_stl lk112_q rfl rfl rfl rfl rfl (leb rfl)) ?_
    refine TriL.c1 rfl (op_as (ltb rfl) rfl) ?_
    refine TriL.nil (Tri.ret ?_)
    exact ⟨.inr rfl, (ResOK.r2 rfl (.cell lk112_q rfl rfl rfl rfl (.tmp rfl .nil))).cast (by rw [nxt3 hc1 hc2 hc3]; rfl), rfl⟩
   ·refine Tri.skip (Tri.seq (Tri.region ?_))
    refine TriL.c1 rfl (op_mv (ltb rfl) rfl) ?_
    refine TriL.c1 rfl (op_call (ltb rfl) fn96_q rfl (mark_pure s hs)) ?_
    iterate 2 (refine TriL.c1 rfl (op_ext (ltb rfl) rfl rfl) ?_)
    refine TriL.c1 rfl (op_stl lk112_q rfl rfl rfl rfl rfl (leb rfl)) ?_
    refine TriL.c1 rfl (op_as (ltb rfl) rfl) ?_
    refine TriL.nil (Tri.ret ?_)
    exact ⟨.inr rfl, (ResOK.r2 rfl (.cell lk112_q rfl rfl rfl rfl (.tmp rfl .nil))).cast (by rw [nxt4 hc1 hc2 hc3]; rfl), rfl⟩
open Go
/- The tokens of a text, in plain Lean: steps; what is passed over. No condition. -/
theorem lexGo_nil (p : Nat) : lexGo [] p = ([], none) := by rw [lexGo]
theorem lexGo_bl {c : UInt8} {r : List UInt8} {p : Nat} (h : isBl c = true) : lexGo (c :: r) p = lexGo r (p + 1) := by rw [lexGo, if_pos h]
theorem spn_rem {r : List UInt8} (h : isRem r = true) : 2 ≤ spn noNl r := by
 unfold isRem Lib.hasPrefix at h
 match r, h with
 | [], h => simp at h
 | [c], h => simp [List.isPrefixOf] at h
 | c :: d :: r, h =>
  simp [List.isPrefixOf] at h
  obtain ⟨rfl, rfl⟩ := h
  have e1 : noNl 47 = true := by decide
  simp [spn, e1]
theorem lexGo_rem {c : UInt8} {r : List UInt8} {p : Nat} (h : isBl c = false) (h2 : isRem (c :: r) = true) : lexGo (c :: r) p = lexGo ((c :: r).drop (spn noNl (c :: r))) (p + spn noNl (c :: r)) := by
 have := spn_rem h2
 rw [lexGo, if_neg (by simp [h]), if_pos h2, show spn noNl (c :: r) - 1 + 1 = spn noNl (c :: r) by omega]
theorem lexGo_no {c : UInt8} {r : List UInt8} {p : Nat} (h : isBl c = false) (h2 : isRem (c :: r) = false) (h3 : (nxtT (c :: r)).2 = 0) : lexGo (c :: r) p = ([], some p) := by
 rw [lexGo, if_neg (by simp [h]), if_neg (by simp [h2]), if_pos h3]
def Tk.at (t : Tk) (p : Nat) : Tk := ⟨t.k, t.s, t.n, t.neg, p⟩
theorem lexGo_tok {c : UInt8} {r : List UInt8} {p : Nat} (h : isBl c = false) (h2 : isRem (c :: r) = false) (h3 : (nxtT (c :: r)).2 ≠ 0) :
  lexGo (c :: r) p = ((nxtT (c :: r)).1.at p :: (lexGo ((c :: r).drop (nxtT (c :: r)).2) (p + (nxtT (c :: r)).2)).1, (lexGo ((c :: r).drop (nxtT (c :: r)).2) (p + (nxtT (c :: r)).2)).2) := by
 rw [lexGo, if_neg (by simp [h]), if_neg (by simp [h2]), if_neg h3, show (nxtT (c :: r)).2 - 1 + 1 = (nxtT (c :: r)).2 by omega]
 rfl
theorem numB_le (s : List UInt8) : numB s ≤ s.length := by
 have h1 := unsg_le s
 have h2 := spn_le isDig (unsg s)
 unfold numB; omega
theorem txtGo_le : ∀ (n : Nat) (l out : List UInt8) (p : Nat) (o : List UInt8) (k : Nat), l.length ≤ n → txtGo l out p = some (o, k) → p < k ∧ k ≤ p + l.length
 | n, [], out, p, o, k, _, h => by simp [txtGo] at h
 | 0, c :: r, out, p, o, k, hn, h => by simp at hn
 | n + 1, c :: r, out, p, o, k, hn, h => by
  by_cases hc : c = 39
  ·subst hc
   match r, h, hn with
   | [], h, _ => simp [txtGo] at h; obtain ⟨_, rfl⟩ := h; simp
   | d :: r', h, hn =>
    by_cases hd : d = 39
    ·subst hd
     rw [txt_two] at h
     have := txtGo_le n r' _ _ o k (by simp at hn; omega) h
     simp; omega
    ·rw [txt_end (fun r e => hd (by cases e; rfl))] at h
     simp at h; obtain ⟨_, rfl⟩ := h; simp
  ·rw [txtGo_ne hc] at h
   have := txtGo_le n r _ _ o k (by simp at hn; omega) h
   simp; omega
theorem nxt_le (s : List UInt8) : (nxtT s).2 ≤ s.length := by
 unfold nxtT
 split
 ·exact wordN_le s
 ·split
  ·unfold numTk
   cases e : numTok s with
   | none => exact Nat.zero_le _
   | some x =>
    have : x.2.2 = numB s := by
     unfold numTok at e
     split at e
     ·split at e
      ·cases e
      ·cases e; rfl
     ·cases e
    show x.2.2 ≤ _
    rw [this]; exact numB_le s
  ·split
   ·unfold txtTk
    cases e : txtT s with
    | none => exact Nat.zero_le _
    | some x =>
     obtain ⟨o, k⟩ := x
     cases s with
     | nil => cases e
     | cons c r =>
      unfold txtT at e
      simp only at e
      split at e
      ·have := txtGo_le r.length r _ _ o k (Nat.le_refl _) e
       show k ≤ _
       simp; omega
      ·cases e
   ·cases s with
    | nil => exact Nat.le_refl _
    | cons c r =>
     unfold markT
     simp only
     split
     ·simp
     ·exact Nat.zero_le _
/-- All's answer -/
def allV (s : List UInt8) (most : Int) : AV :=
 if most < (s.length : Int) then .tup [.sl [], .int .i64 0, .int .i64 3]
 else match lexGo s 0 with
  | (ts, none) => .tup [.sl ((ts ++ [(⟨0, [], 0, false, s.length⟩ : Tk)]).map Tk.av), .int .i64 s.length, .int .i64 0]
  | (_, some p) => .tup [.sl [], .int .i64 p, .int .i64 2]
theorem allV_long {s : List UInt8} {most : Int} (h : most < (s.length : Int)) : allV s most = .tup [.sl [], .int .i64 0, .int .i64 3] := if_pos h
theorem allV_ok {s : List UInt8} {most : Int} {ts : List Tk} (h : ¬ most < (s.length : Int)) (e : lexGo s 0 = (ts, none)) : allV s most = .tup [.sl ((ts ++ [(⟨0, [], 0, false, s.length⟩ : Tk)]).map Tk.av), .int .i64 s.length, .int .i64 0] := by
 unfold allV; rw [if_neg h, e]
theorem allV_bad {s : List UInt8} {most : Int} {ts : List Tk} {p : Nat} (h : ¬ most < (s.length : Int)) (e : lexGo s 0 = (ts, some p)) : allV s most = .tup [.sl [], .int .i64 p, .int .i64 2] := by
 unfold allV; rw [if_neg h, e]
/- lex: all tokens, in the program and in the document. -/
theorem isRem_ne {c : UInt8} {r : List UInt8} (h : c.toNat ≠ 47) : isRem (c :: r) = false := by
 have : ¬ (47 : UInt8) = c := fun e => h (by rw [← e]; rfl)
 unfold isRem Lib.hasPrefix
 cases r <;> simp [List.isPrefixOf, this]
theorem bl_no {c : UInt8} (h1 : ((c.toNat : Int) == 32) = false) (h2 : ((c.toNat : Int) == 10) = false) (h3 : ((c.toNat : Int) == 9) = false) : isBl c = false :=
 decide_eq_false (by have := beq_eq_false_iff_ne.1 h1; have := beq_eq_false_iff_ne.1 h2; have := beq_eq_false_iff_ne.1 h3; omega)
theorem bl_1 {c : UInt8} (h : ((c.toNat : Int) == 32) = true) : isBl c = true := decide_eq_true (by have := eq_of_beq h; omega)
theorem bl_2 {c : UInt8} (h : ((c.toNat : Int) == 10) = true) : isBl c = true := decide_eq_true (by have := eq_of_beq h; omega)
theorem bl_3 {c : UInt8} (h : ((c.toNat : Int) == 9) = true) : isBl c = true := decide_eq_true (by have := eq_of_beq h; omega)
/- Plain laws: how many tokens a text has, and what they are like. No condition. -/
/-- the tokens are not more than the bytes -/
theorem lexGo_len : ∀ (n : Nat) (r : List UInt8) (p : Nat), r.length ≤ n → (lexGo r p).1.length ≤ r.length
 | n, [], p, _ => by simp [lexGo_nil]
 | 0, c :: r, p, h => by simp at h
 | n + 1, c :: r, p, h => by
  by_cases hb : isBl c = true
  ·rw [lexGo_bl hb]
   have := lexGo_len n r (p + 1) (by simp at h; omega)
   simp; omega
  ·have hb' : isBl c = false := by simpa using hb
   by_cases hr : isRem (c :: r) = true
   ·have := spn_rem hr
    rw [lexGo_rem hb' hr]
    have := lexGo_len n ((c :: r).drop (spn noNl (c :: r))) (p + spn noNl (c :: r)) (by rw [List.length_drop]; simp at h ⊢; omega)
    rw [List.length_drop] at this; omega
   ·have hr' : isRem (c :: r) = false := by simpa using hr
    by_cases hk : (nxtT (c :: r)).2 = 0
    ·rw [lexGo_no hb' hr' hk]; simp
    ·rw [lexGo_tok hb' hr' hk]
     have := lexGo_len n ((c :: r).drop (nxtT (c :: r)).2) (p + (nxtT (c :: r)).2) (by rw [List.length_drop]; simp at h ⊢; omega)
     rw [List.length_drop] at this
     simp at this ⊢; omega
/-- what a token is like -/
structure TkOK (t : Tk) : Prop where
 n : t.n < 18446744073709551616
 k : t.k = 1 ∨ t.k = 2 ∨ t.k = 3 ∨ t.k = 4
 m : t.k = 4 → t.s.length = 1
theorem nxt_ok {s : List UInt8} (h : (nxtT s).2 ≠ 0) : TkOK (nxtT s).1 := by
 unfold nxtT at h ⊢
 split at h
 ·rename_i hw
  rw [if_pos hw]
  cases s with
  | nil => simp [wordT] at hw
  | cons c r =>
   unfold wordT at hw ⊢
   simp only at hw ⊢
   split at hw
   ·rename_i hc; rw [if_pos hc]; exact ⟨by simp, .inl rfl, fun e => by cases e⟩
   ·simp at hw
 ·rename_i hw
  rw [if_neg hw]
  split at h
  ·rename_i hn
   rw [if_pos hn]
   unfold numTk at hn ⊢
   cases e : numTok s with
   | none => rw [e] at hn; simp [zeroT] at hn
   | some x =>
    obtain ⟨u, neg, k⟩ := x
    simp only
    refine ⟨?_, .inr (.inl rfl), fun e => by cases e⟩
    unfold numTok at e
    split at e
    ·rename_i u' hp
     split at e
     ·cases e
     ·cases e; exact parse_lt hp
    ·cases e
  ·rename_i hn
   rw [if_neg hn]
   split at h
   ·rename_i ht
    rw [if_pos ht]
    unfold txtTk at ht ⊢
    cases e : txtT s with
    | none => rw [e] at ht; simp [zeroT] at ht
    | some x => exact ⟨by simp, .inr (.inr (.inl rfl)), fun e => by cases e⟩
   ·rename_i ht
    rw [if_neg ht]
    cases s with
    | nil => simp [markT, zeroT] at h
    | cons c r =>
     unfold markT at h ⊢
     simp only at h ⊢
     split at h
     ·rename_i hc; rw [if_pos hc]; exact ⟨by simp, .inr (.inr (.inr rfl)), fun _ => rfl⟩
     ·simp [zeroT] at h
theorem lexGo_ok : ∀ (n : Nat) (r : List UInt8) (p : Nat), r.length ≤ n → ∀ t ∈ (lexGo r p).1, TkOK t
 | n, [], p, _, t, h => by simp [lexGo_nil] at h
 | 0, c :: r, p, hn, _, _ => by simp at hn
 | n + 1, c :: r, p, hn, t, h => by
  by_cases hb : isBl c = true
  ·rw [lexGo_bl hb] at h
   exact lexGo_ok n r (p + 1) (by simp at hn; omega) t h
  ·have hb' : isBl c = false := by simpa using hb
   by_cases hr : isRem (c :: r) = true
   ·rw [lexGo_rem hb' hr] at h
    have h3 := spn_rem hr
    exact lexGo_ok n _ _ (by rw [List.length_drop]; simp at hn ⊢; omega) t h
   ·have hr' : isRem (c :: r) = false := by simpa using hr
    by_cases hk : (nxtT (c :: r)).2 = 0
    ·rw [lexGo_no hb' hr' hk] at h; simp at h
    ·rw [lexGo_tok hb' hr' hk] at h
     rcases List.mem_cons.1 h with rfl | h
     ·have := nxt_ok hk
      exact ⟨this.n, this.k, this.m⟩
     ·exact lexGo_ok n _ _ (by rw [List.length_drop]; simp at hn ⊢; omega) t h
/- lex: all tokens, in the program and in the document. -/
theorem fn57_q : isFn Tryz.prog 57 = true := by kernel_rfl
theorem fo112_4_q : fo Tryz.prog 112 4 = some 4 := by kernel_rfl
theorem se70_q : se Tryz.prog 70 = some (112, 5, 48) := by kernel_rfl
theorem zAe70_q : zeroA Tryz.prog 112 = some [AV.int IntKind.i64 (0), AV.str [], AV.int IntKind.u64 (0), AV.bool false, AV.int IntKind.i64 (0)] := by kernel_rfl
theorem next' {s : List UInt8} {j : Int} {a : Nat} (hj : j = a) (hs : s.length ≤ 1073741824) : Pure Tryz.prog 57 [.str ((s.drop j.toNat).take ((s.length : Int).toNat - j.toNat))] (tkn (nxtT (s.drop a))) := by
 rw [cutL hj]; exact next_pure _ (by rw [List.length_drop]; omega)
theorem spn' {s : List UInt8} {j : Int} {a : Nat} (hj : j = a) (hs : s.length ≤ 1073741824) : Pure Tryz.prog 55 [.str ((s.drop j.toNat).take ((s.length : Int).toNat - j.toNat)), .fn 56 []] (.int .i64 (spn noNl (s.drop a) : Nat)) := by
 rw [cutL hj]; exact span_pure _ _ noNl nonl_pure (by kernel_rfl) (by rw [List.length_drop]; omega)
/-- so far: these tokens, and those of the rest -/
def LI (s : List UInt8) (ts : List Tk) (a : Nat) : Prop := lexGo s 0 = (ts ++ (lexGo (s.drop a) a).1, (lexGo (s.drop a) a).2)
theorem LI.skip {s : List UInt8} {ts : List Tk} {a b : Nat} (h : LI s ts a) (e : lexGo (s.drop a) a = lexGo (s.drop b) b) : LI s ts b := by
 unfold LI at *; rw [h, e]
theorem LI.tok {s : List UInt8} {ts : List Tk} {a : Nat} {t : Tk} {b : Nat} (h : LI s ts a) (e : lexGo (s.drop a) a = (t :: (lexGo (s.drop b) b).1, (lexGo (s.drop b) b).2)) : LI s (ts ++ [t]) b := by
 unfold LI at *; rw [h, e]; simp
theorem LI.stop {s : List UInt8} {ts : List Tk} {a : Nat} (h : LI s ts a) (e : s.drop a = []) : lexGo s 0 = (ts, none) := by
 unfold LI at h; rw [h, e, lexGo_nil]; simp
theorem LI.bad {s : List UInt8} {ts : List Tk} {a p : Nat} (h : LI s ts a) (e : lexGo (s.drop a) a = ([], some p)) : lexGo s 0 = (ts, some p) := by
 unfold LI at h; rw [h, e]; simp
theorem tok_step {s : List UInt8} {a : Nat} {c : UInt8} {r : List UInt8} (hd : s.drop a = c :: r) (hb : isBl c = false) (hr : isRem (s.drop a) = false) :
  ((nxtT (s.drop a)).2 = 0 → lexGo (s.drop a) a = ([], some a)) ∧ ((nxtT (s.drop a)).2 ≠ 0 → lexGo (s.drop a) a = ((nxtT (s.drop a)).1.at a :: (lexGo (s.drop (a + (nxtT (s.drop a)).2)) (a + (nxtT (s.drop a)).2)).1, (lexGo (s.drop (a + (nxtT (s.drop a)).2)) (a + (nxtT (s.drop a)).2)).2)) := by
 refine ⟨fun h => ?_, fun h => ?_⟩
 ·rw [hd] at hr h ⊢; exact lexGo_no hb hr h
 ·have e : lexGo (s.drop a) a = ((nxtT (s.drop a)).1.at a :: (lexGo ((s.drop a).drop (nxtT (s.drop a)).2) (a + (nxtT (s.drop a)).2)).1, (lexGo ((s.drop a).drop (nxtT (s.drop a)).2) (a + (nxtT (s.drop a)).2)).2) := by
   rw [hd] at hr h ⊢; exact lexGo_tok hb hr h
  rw [List.drop_drop] at e; exact e
def StAl (H : Hp) (s : List UInt8) (ts : List Tk) (j : Int) : St := [(.h, .hp H), (.s 0, .sv (.v (.str s))), (.s 7, .sv (.ow 7 (ts.map Tk.av))), (.t 7, .tk false 112 5 (ts.map Tk.av)), (.s 8, .sv (.v (.int .i64 j)))]
theorem map_tok (ts : List Tk) (t : Tk) (a : Nat) (j : Int) (hj : j = a) : (ts ++ [t.at a]).map Tk.av = ts.map Tk.av ++ [.agg [.int .i64 t.k, .str t.s, .int .u64 t.n, .bool t.neg, .int .i64 j]] := by
 subst hj; rw [List.map_append]; rfl
theorem map_end (ts : List Tk) (n : Nat) : (ts ++ [(⟨0, [], 0, false, n⟩ : Tk)]).map Tk.av = ts.map Tk.av ++ [.agg [.int .i64 0, .str [], .int .u64 0, .bool false, .int .i64 n]] := by
 rw [List.map_append]; rfl
theorem all_pure (s : List UInt8) (most : Int) (hs : s.length ≤ 1073741824) : Pure Tryz.prog 25 [.str s, .int .i64 most] (allV s most) := by
 refine Pure.of_tri Tryz.func25 rfl rfl (ltb rfl) fun H => ?_
 refine Tri.seq (Tri.region ?_)
 iterate 3 (refine TriL.c1 rfl (op_as (ltb rfl) rfl) ?_)
 refine TriL.nil ?_
 refine Tri.scope ?_
 refine Tri.seq (Tri.seq (Tri.region ?_))
 refine TriL.c1 rfl (op_mv (ltb rfl) rfl) ?_
 refine TriL.c1 rfl (op_lens (ltb rfl) un9_q rfl) ?_
 refine TriL.c1 rfl (op_mv (ltb rfl) rfl) ?_
 refine TriL.c1 rfl (op_bin (ltb rfl) rfl rfl rfl) ?_
 refine TriL.nil ?_
 refine Tri.cond rfl (fun hc1 => ?_) (fun hc1 => ?_)
 ·refine Tri.seq (Tri.region ?_)
  iterate 3 (refine TriL.c1 rfl (op_as (ltb rfl) rfl) ?_)
  refine TriL.nil (Tri.ret ?_)
  exact ⟨.inr rfl, (ResOK.r3 rfl (.tmp rfl (.tmp rfl (.tmp rfl .nil)))).cast (by rw [allV_long (of_decide_eq_true hc1)]), rfl⟩
 ·refine Tri.skip (Tri.seq (Tri.region ?_))
  refine TriL.c2 rfl (op_nilt (k := 7) (el := 112) (esz := 5) (c := 0) (ltb rfl) rfl (by decide)) ?_
  refine TriL.nil (Tri.seq (Tri.region ?_))
  refine TriL.c1 rfl (op_as (ltb rfl) rfl) ?_
  refine TriL.kept (Kept.keep [.h, .s 0, .s 7, .t 7, .s 8] rfl (by decide) (Kept.now ?_))
  refine Tri.seq ?_
  refine Tri.label ?_
  refine Tri.seq (Tri.blk ?_)
  -- LOOP 1: KEEP
  refine Tri.loop (fun q w => ∃ (a : Nat) (ts : List Tk) (j : Int), w = StAl H s ts j ∧ j = a ∧ a ≤ s.length ∧ ts.length ≤ a ∧ LI s ts a ∧ q = s.length - a) ?_ (n := s.length) ⟨0, [], 0, rfl, rfl, Nat.zero_le _, Nat.le_refl _, by unfold LI; simp, rfl⟩
  rintro q w ⟨a, ts, j, rfl, hj, ha, ho, hI, rfl⟩
  refine Tri.seq (Tri.seq (Tri.region ?_))
  iterate 2 (refine TriL.c1 rfl (op_mv (ltb rfl) rfl) ?_)
  refine TriL.c1 rfl (op_lens (ltb rfl) un9_q rfl) ?_
  refine TriL.c1 rfl (op_bin (ltb rfl) rfl rfl rfl) ?_
  refine TriL.nil ?_
  refine Tri.cond rfl (fun hc2 => ?_) (fun hc2 => ?_)
  ·have hlt : a < s.length := by have := of_decide_eq_true hc2; omega
   obtain ⟨c, hc⟩ : ∃ c, s[a]? = some c := ⟨s[a], List.getElem?_eq_getElem hlt⟩
   have hda := drop_at hc
   refine Tri.skip (Tri.blk ?_)
   refine Tri.join (fun w => w = StAl H s ts j ∧ isBl c = false ∧ isRem (s.drop a) = false) ?_ ?_
   ·refine Tri.blk (Tri.seq (Tri.region ?_))
    iterate 2 (refine TriL.c1 rfl (op_mv (ltb rfl) rfl) ?_)
    refine TriL.c1 rfl (op_ixs (ltb rfl) un9_q rfl rfl (by omega) (ixc hj hc)) ?_
    refine TriL.c1 rfl (op_bin (ltb rfl) rfl rfl rfl) ?_
    refine TriL.c1 rfl (op_mv (ltb rfl) rfl) ?_
    refine TriL.split (d := 24) rfl (fun hg3 => ?_) (fun hg3 => ?_)
    ·iterate 4 (refine TriL.skipu rfl rfl (ltb rfl) (ltb rfl) rfl hg3 ?_)
     refine TriL.c1 rfl (op_pickt (ltb rfl) rfl hg3 rfl) ?_
     refine TriL.c1 rfl (op_mv (ltb rfl) rfl) ?_
     iterate 4 (refine TriL.skipu rfl rfl (ltb rfl) (ltb rfl) rfl rfl ?_)
     refine TriL.c1 rfl (op_pickt (ltb rfl) rfl rfl rfl) ?_
     refine TriL.c1 rfl (op_as (ltb rfl) rfl) ?_
     refine TriL.nil ?_
     refine Tri.condT rfl rfl ?_
     refine Tri.seq (Tri.region ?_)
     refine TriL.c1 rfl (op_mv (ltb rfl) rfl) ?_
     refine TriL.c1 rfl (op_bin (ltb rfl) rfl rfl rfl) ?_
     refine TriL.c1 rfl (op_as (ltb rfl) rfl) ?_
     refine TriL.kept (Kept.keep [.h, .s 0, .s 7, .t 7, .s 8] rfl (by decide) (Kept.now ?_))
     refine Tri.exit ?_
     exact ⟨s.length - (a + 1), by omega, a + 1, ts, IntKind.i64.wrap (j + 1), rfl, by rw [hj, wr64] <;> omega, by omega, by omega, hI.skip (by rw [hda, lexGo_bl (bl_1 hg3)]), rfl⟩
    ·iterate 2 (refine TriL.g1 rfl (ltb rfl) rfl hg3 (op_mv (ltb rfl) rfl) ?_)
     refine TriL.g1 rfl (ltb rfl) rfl hg3 (op_ixs (ltb rfl) un9_q rfl rfl (by omega) (ixc hj hc)) ?_
     refine TriL.g1 rfl (ltb rfl) rfl hg3 (op_bin (ltb rfl) rfl rfl rfl) ?_
     refine TriL.c1 rfl (op_pickf (ltb rfl) rfl hg3 rfl) ?_
     refine TriL.c1 rfl (op_mv (ltb rfl) rfl) ?_
     refine TriL.split (d := 30) rfl (fun hg4 => ?_) (fun hg4 => ?_)
     ·iterate 4 (refine TriL.skipu rfl rfl (ltb rfl) (ltb rfl) rfl hg4 ?_)
      refine TriL.c1 rfl (op_pickt (ltb rfl) rfl hg4 rfl) ?_
      refine TriL.c1 rfl (op_as (ltb rfl) rfl) ?_
      refine TriL.nil ?_
      refine Tri.condT rfl rfl ?_
      refine Tri.seq (Tri.region ?_)
      refine TriL.c1 rfl (op_mv (ltb rfl) rfl) ?_
      refine TriL.c1 rfl (op_bin (ltb rfl) rfl rfl rfl) ?_
      refine TriL.c1 rfl (op_as (ltb rfl) rfl) ?_
      refine TriL.kept (Kept.keep [.h, .s 0, .s 7, .t 7, .s 8] rfl (by decide) (Kept.now ?_))
      refine Tri.exit ?_
      exact ⟨s.length - (a + 1), by omega, a + 1, ts, IntKind.i64.wrap (j + 1), rfl, by rw [hj, wr64] <;> omega, by omega, by omega, hI.skip (by rw [hda, lexGo_bl (bl_2 hg4)]), rfl⟩
     ·iterate 2 (refine TriL.g1 rfl (ltb rfl) rfl hg4 (op_mv (ltb rfl) rfl) ?_)
      refine TriL.g1 rfl (ltb rfl) rfl hg4 (op_ixs (ltb rfl) un9_q rfl rfl (by omega) (ixc hj hc)) ?_
      refine TriL.g1 rfl (ltb rfl) rfl hg4 (op_bin (ltb rfl) rfl rfl rfl) ?_
      refine TriL.c1 rfl (op_pickf (ltb rfl) rfl hg4 rfl) ?_
      refine TriL.c1 rfl (op_as (ltb rfl) rfl) ?_
      refine TriL.nil ?_
      refine Tri.cond rfl (fun hc5 => ?_) (fun hc5 => ?_)
      ·refine Tri.seq (Tri.region ?_)
       refine TriL.c1 rfl (op_mv (ltb rfl) rfl) ?_
       refine TriL.c1 rfl (op_bin (ltb rfl) rfl rfl rfl) ?_
       refine TriL.c1 rfl (op_as (ltb rfl) rfl) ?_
       refine TriL.kept (Kept.keep [.h, .s 0, .s 7, .t 7, .s 8] rfl (by decide) (Kept.now ?_))
       refine Tri.exit ?_
       exact ⟨s.length - (a + 1), by omega, a + 1, ts, IntKind.i64.wrap (j + 1), rfl, by rw [hj, wr64] <;> omega, by omega, by omega, hI.skip (by rw [hda, lexGo_bl (bl_3 hc5)]), rfl⟩
      ·refine Tri.seq (Tri.region ?_)
       iterate 2 (refine TriL.c1 rfl (op_mv (ltb rfl) rfl) ?_)
       refine TriL.c1 rfl (op_cuts (ltb rfl) un9_q rfl rfl rfl (by omega) (by omega) (by omega)) ?_
       refine TriL.c1 rfl (op_call (ltb rfl) fn54_q rfl (has' [47, 47] hj)) ?_
       refine TriL.c1 rfl (op_as (ltb rfl) rfl) ?_
       refine TriL.nil ?_
       refine Tri.cond rfl (fun hc6 => ?_) (fun hc6 => ?_)
       ·refine Tri.seq (Tri.region ?_)
        iterate 3 (refine TriL.c1 rfl (op_mv (ltb rfl) rfl) ?_)
        refine TriL.c1 rfl (op_cuts (ltb rfl) un9_q rfl rfl rfl (by omega) (by omega) (by omega)) ?_
        refine TriL.c1 rfl (op_call (ltb rfl) fn55_q rfl (spn' hj hs)) ?_
        refine TriL.c1 rfl (op_bin (ltb rfl) rfl rfl rfl) ?_
        refine TriL.c1 rfl (op_as (ltb rfl) rfl) ?_
        refine TriL.kept (Kept.keep [.h, .s 0, .s 7, .t 7, .s 8] rfl (by decide) (Kept.now ?_))
        refine Tri.exit ?_
        have hr : isRem (s.drop a) = true := hc6
        have hb := bl_no hg3 hg4 hc5
        have hsp := spn_rem hr
        have hsl := spn_le noNl (s.drop a)
        rw [List.length_drop] at hsl
        have e : lexGo (s.drop a) a = lexGo (s.drop (a + spn noNl (s.drop a))) (a + spn noNl (s.drop a)) := by
         have h5 : lexGo (s.drop a) a = lexGo ((s.drop a).drop (spn noNl (s.drop a))) (a + spn noNl (s.drop a)) := by
          rw [hda] at hr ⊢; exact lexGo_rem hb hr
         rw [h5, List.drop_drop]
        exact ⟨s.length - (a + spn noNl (s.drop a)), by omega, a + spn noNl (s.drop a), ts, IntKind.i64.wrap (j + (spn noNl (s.drop a) : Int)), rfl, by rw [hj, wr64] <;> omega, by omega, by omega, hI.skip e, rfl⟩
       ·refine Tri.ofKept (Kept.keep [.h, .s 0, .s 7, .t 7, .s 8] rfl (by decide) (Kept.now ?_))
        refine Tri.skip ?_
        exact ⟨rfl, bl_no hg3 hg4 hc5, hc6⟩
   ·rintro w ⟨rfl, hb, hr⟩
    obtain ⟨hk0, hkn⟩ := tok_step hda hb hr
    refine Tri.seq (Tri.region ?_)
    iterate 2 (refine TriL.c1 rfl (op_mv (ltb rfl) rfl) ?_)
    refine TriL.c1 rfl (op_cuts (ltb rfl) un9_q rfl rfl rfl (by omega) (by omega) (by omega)) ?_
    refine TriL.c1 rfl (op_call (ltb rfl) fn57_q rfl (next' hj hs)) ?_
    refine TriL.c1 rfl (op_mv (ltb rfl) rfl) ?_
    iterate 2 (refine TriL.c1 rfl (op_ext (ltb rfl) rfl rfl) ?_)
    refine TriL.c2 rfl (op_all (ltb rfl) zA112_q rfl) ?_
    refine TriL.c1 rfl (op_stl lk112_q rfl rfl rfl rfl rfl (leb rfl)) ?_
    refine TriL.c1 rfl (op_as (ltb rfl) rfl) ?_
    refine TriL.nil (Tri.seq (Tri.seq (Tri.region ?_)))
    refine TriL.c1 rfl (op_mv (ltb rfl) rfl) ?_
    refine TriL.c1 rfl (op_bin (ltb rfl) rfl rfl rfl) ?_
    refine TriL.nil ?_
    refine Tri.cond rfl (fun hc7 => ?_) (fun hc7 => ?_)
    ·refine Tri.seq (Tri.region ?_)
     refine TriL.c1 rfl (op_mv (ltb rfl) rfl) ?_
     iterate 3 (refine TriL.c1 rfl (op_as (ltb rfl) rfl) ?_)
     refine TriL.nil (Tri.ret ?_)
     exact ⟨.inr rfl, (ResOK.r3 rfl (.tmp rfl (.tmp rfl (.tmp rfl .nil)))).cast (by rw [allV_bad (by have := of_decide_eq_false hc1; omega) (hI.bad (hk0 (by have := eq_of_beq hc7; omega))), hj]), rfl⟩
    ·have hk1 : (nxtT (s.drop a)).2 ≠ 0 := by have := beq_eq_false_iff_ne.1 hc7; omega
     have hk2 : a + (nxtT (s.drop a)).2 ≤ s.length := by have := nxt_le (s.drop a); rw [List.length_drop] at this; omega
     have hw : IntKind.i64.wrap (j + ((nxtT (s.drop a)).2 : Int)) = ((a + (nxtT (s.drop a)).2 : Nat) : Int) := by rw [hj, wr64] <;> omega
     refine Tri.skip (Tri.seq (Tri.region ?_))
     refine TriL.c1 rfl (op_mv (ltb rfl) rfl) ?_
     refine TriL.c1 rfl (op_fal (ltb rfl) fo112_4_q rfl) ?_
     refine TriL.c1 rfl (op_stl lk3_q rfl rfl rfl rfl rfl (leb rfl)) ?_
     refine TriL.nil (Tri.seq (Tri.region ?_))
     refine TriL.c1 rfl (op_mv (ltb rfl) rfl) ?_
     refine TriL.c1 rfl (op_ldl (ltb rfl) lk112_q rfl rfl rfl) ?_
     refine TriL.c1 rfl (op_lit («as» := [_]) (ltb rfl) se70_q zAe70_q rfl rfl rfl (leb rfl)) ?_
     refine TriL.c3 rfl (op_app (ltb rfl) se70_q rfl rfl rfl rfl rfl (by simp; omega) (by simp; omega)) ?_
     refine TriL.c1 rfl (op_as (ltb rfl) rfl) ?_
     refine TriL.nil (Tri.region ?_)
     iterate 2 (refine TriL.c1 rfl (op_mv (ltb rfl) rfl) ?_)
     refine TriL.c1 rfl (op_bin (ltb rfl) rfl rfl rfl) ?_
     refine TriL.c1 rfl (op_as (ltb rfl) rfl) ?_
     refine TriL.kept (Kept.keep [.h, .s 0, .s 7, .t 64, .s 8] rfl (by decide) (Kept.ren 64 7 (by decide) rfl (Kept.now ?_)))
     exact ⟨s.length - (a + (nxtT (s.drop a)).2), by omega, a + (nxtT (s.drop a)).2, ts ++ [(nxtT (s.drop a)).1.at a], IntKind.i64.wrap (j + ((nxtT (s.drop a)).2 : Int)), by unfold StAl; rw [map_tok ts _ a j hj]; rfl, hw, hk2, by simp; omega, hI.tok (hkn hk1), rfl⟩
  ·refine Tri.exit (Tri.seq (Tri.region ?_))
   iterate 2 (refine TriL.c1 rfl (op_mv (ltb rfl) rfl) ?_)
   refine TriL.c1 rfl (op_lens (ltb rfl) un9_q rfl) ?_
   refine TriL.c1 rfl (op_bld (ltb rfl) spl112_q zA112_q rfl rfl) ?_
   refine TriL.c1 rfl (op_lit («as» := [_]) (ltb rfl) se70_q zAe70_q rfl rfl rfl (leb rfl)) ?_
   refine TriL.c3 rfl (op_app (ltb rfl) se70_q rfl rfl rfl rfl rfl (by simp; omega) (by simp; omega)) ?_
   refine TriL.c1 rfl (op_mv (ltb rfl) rfl) ?_
   refine TriL.c1 rfl (op_lens (ltb rfl) un9_q rfl) ?_
   iterate 3 (refine TriL.c1 rfl (op_as (ltb rfl) rfl) ?_)
   refine TriL.nil (Tri.ret ?_)
   exact ⟨.inr rfl, (ResOK.r3 rfl (.tmp rfl (.tmp rfl (.tmp rfl .nil)))).cast (by rw [allV_ok (by have := of_decide_eq_false hc1; omega) (hI.stop (List.drop_of_length_le (by have := of_decide_eq_false hc2; omega))), map_end]; rfl), rfl⟩
/- words of types; the values of digits; in the program and in the document. -/
theorem asz143_q : asz Tryz.prog 143 = some (16, 9, 1) := by kernel_rfl
theorem fn196_q : isFn Tryz.prog 196 = true := by kernel_rfl
theorem fn197_q : isFn Tryz.prog 197 = true := by kernel_rfl
theorem fn216_q : isFn Tryz.prog 216 = true := by kernel_rfl
theorem fn65_q : isFn Tryz.prog 65 = true := by kernel_rfl
theorem fn79_q : isFn Tryz.prog 79 = true := by kernel_rfl
theorem fo215_0_q : fo Tryz.prog 215 0 = some 0 := by kernel_rfl
theorem fo215_1_q : fo Tryz.prog 215 1 = some 1 := by kernel_rfl
theorem lk215_q : lk Tryz.prog 215 = some (true, 2) := by kernel_rfl
theorem spl215_q : spl Tryz.prog 215 = some [(0, 1), (1, 1)] := by kernel_rfl
theorem zA143_q : zeroA Tryz.prog 143 = some [AV.str [], AV.str [], AV.str [], AV.str [], AV.str [], AV.str [], AV.str [], AV.str [], AV.str [], AV.str [], AV.str [], AV.str [], AV.str [], AV.str [], AV.str [], AV.str []] := by kernel_rfl
theorem zA215_q : zeroA Tryz.prog 215 = some [AV.int IntKind.u64 (0), AV.bool false] := by kernel_rfl
theorem word_cell {t : Int} (h0 : 0 ≤ t) (h1 : t < 16) : (tyWords.map AV.str)[t.toNat]? = some (.str (wordOf t)) := by
 have : t = 0 ∨ t = 1 ∨ t = 2 ∨ t = 3 ∨ t = 4 ∨ t = 5 ∨ t = 6 ∨ t = 7 ∨ t = 8 ∨ t = 9 ∨ t = 10 ∨ t = 11 ∨ t = 12 ∨ t = 13 ∨ t = 14 ∨ t = 15 := by omega
 rcases this with rfl | rfl | rfl | rfl | rfl | rfl | rfl | rfl | rfl | rfl | rfl | rfl | rfl | rfl | rfl | rfl <;> rfl
theorem wordOf_out {t : Int} (h : t < 1 ∨ 13 < t) : wordOf t = [] := by
 unfold wordOf
 split
 ·rfl
 ·have : t = 0 ∨ t = 14 ∨ t = 15 := by omega
  rcases this with rfl | rfl | rfl <;> rfl
theorem word_cell2 {t : Int} (h0 : 1 ≤ t) (h1 : t ≤ 13) : ((tyWords.take 14).map AV.str)[t.toNat]? = some (.str (wordOf t)) := by
 have : t = 1 ∨ t = 2 ∨ t = 3 ∨ t = 4 ∨ t = 5 ∨ t = 6 ∨ t = 7 ∨ t = 8 ∨ t = 9 ∨ t = 10 ∨ t = 11 ∨ t = 12 ∨ t = 13 := by omega
 rcases this with rfl | rfl | rfl | rfl | rfl | rfl | rfl | rfl | rfl | rfl | rfl | rfl | rfl <;> rfl
theorem lt16 {k : Nat} (h : decide ((k : Int) < 16) = true) : k < tyWords.length := by have := of_decide_eq_true h; show k < 16; omega
theorem ge16 {k : Nat} (h : decide ((k : Int) < 16) = false) : tyWords.length ≤ k := by have := of_decide_eq_false h; show 16 ≤ k; omega
theorem wordOf_ix {k : Nat} (h : k < tyWords.length) : wordOf ((k : Nat) : Int) = tyWords[k] := by
 have h' : k < 16 := h
 unfold wordOf
 rw [if_neg (by omega)]
 simp [h]
theorem ofT_hit {s : Str} {k : Nat} (h : s ≠ []) (e : ((k : Nat) : Int) = ixFrom (· == s) tyWords 0) : ofT s = k := by
 unfold ofT
 rw [if_neg h, ← e, if_neg (by omega)]
theorem ofT_miss {s : Str} (e : -1 = ixFrom (· == s) tyWords 0) : ofT s = 0 := by
 unfold ofT
 split
 ·rfl
 ·rw [← e, if_pos (by omega)]
theorem p_word (t : Int) : Pure Tryz.prog 65 [.int .i64 t] (.str (wordOf t)) := by
 refine Pure.of_tri Tryz.func65 rfl rfl (ltb rfl) fun H => ?_
 refine Tri.seq (Tri.region ?_)
 refine TriL.c1 rfl (op_as (ltb rfl) rfl) ?_
 refine TriL.nil (Tri.seq (Tri.seq (Tri.region ?_)))
 refine TriL.c1 rfl (op_mv (ltb rfl) rfl) ?_
 refine TriL.c1 rfl (op_bin (ltb rfl) rfl rfl rfl) ?_
 refine TriL.c1 rfl (op_mv (ltb rfl) rfl) ?_
 refine TriL.split (d := 5) rfl (fun hg1 => ?_) (fun hg1 => ?_)
 ·iterate 2 (refine TriL.skipu rfl rfl (ltb rfl) (ltb rfl) rfl hg1 ?_)
  refine TriL.c1 rfl (op_pickt (ltb rfl) rfl hg1 rfl) ?_
  refine TriL.nil ?_
  refine Tri.condT rfl rfl ?_
  refine Tri.seq (Tri.region ?_)
  refine TriL.c1 rfl (op_as (ltb rfl) rfl) ?_
  refine TriL.nil (Tri.ret ?_)
  exact ⟨.inr rfl, (ResOK.r1 rfl (.tmp rfl .nil)).cast (congrArg AV.str (by grind [wordOf])), rfl⟩
 ·refine TriL.g1 rfl (ltb rfl) rfl hg1 (op_mv (ltb rfl) rfl) ?_
  refine TriL.g1 rfl (ltb rfl) rfl hg1 (op_bin (ltb rfl) rfl rfl rfl) ?_
  refine TriL.c1 rfl (op_pickf (ltb rfl) rfl hg1 rfl) ?_
  refine TriL.nil ?_
  refine Tri.cond rfl (fun hc2 => ?_) (fun hc2 => ?_)
  ·refine Tri.seq (Tri.region ?_)
   refine TriL.c1 rfl (op_as (ltb rfl) rfl) ?_
   refine TriL.nil (Tri.ret ?_)
   exact ⟨.inr rfl, (ResOK.r1 rfl (.tmp rfl .nil)).cast (congrArg AV.str (by grind [wordOf])), rfl⟩
  ·refine Tri.skip (Tri.seq (Tri.region ?_))
   refine TriL.c1 rfl (op_blda (ltb rfl) asz143_q zA143_q rfl rfl) ?_
   refine TriL.c1 rfl (op_mv (ltb rfl) rfl) ?_
   refine TriL.c1 rfl (op_ixa (ltb rfl) asz143_q lk9_q rfl rfl (by grind) (by grind) (word_cell (by grind) (by grind))) ?_
   refine TriL.c1 rfl (op_as (ltb rfl) rfl) ?_
   refine TriL.nil (Tri.ret ?_)
   exact ⟨.inr rfl, (ResOK.r1 rfl (.tmp rfl .nil)).cast (congrArg AV.str (by grind [wordOf])), rfl⟩
theorem p_of (s : Str) : Pure Tryz.prog 164 [.str s] (.int .i64 (ofT s)) := by
 refine Pure.of_tri Tryz.func164 rfl rfl (ltb rfl) fun H => ?_
 refine Tri.seq (Tri.region ?_)
 refine TriL.c1 rfl (op_as (ltb rfl) rfl) ?_
 refine TriL.nil (Tri.seq (Tri.seq (Tri.region ?_)))
 refine TriL.c1 rfl (op_mv (ltb rfl) rfl) ?_
 refine TriL.c1 rfl (op_bin (ltb rfl) rfl rfl rfl) ?_
 refine TriL.nil ?_
 refine Tri.cond rfl (fun hc1 => ?_) (fun hc1 => ?_)
 ·refine Tri.seq (Tri.region ?_)
  refine TriL.c1 rfl (op_as (ltb rfl) rfl) ?_
  refine TriL.nil (Tri.ret ?_)
  exact ⟨.inr rfl, (ResOK.r1 rfl (.tmp rfl .nil)).cast (congrArg (AV.int .i64) (by have := eq_of_beq hc1; unfold ofT; rw [if_pos this])), rfl⟩
 ·refine Tri.skip (Tri.seq (Tri.seq (Tri.region ?_)))
  refine TriL.c1 rfl (op_mv (ltb rfl) rfl) ?_
  refine TriL.nil (Tri.blk ?_)
  refine Tri.ofKept (Kept.keep [.s 6, .h, .s 0] rfl (by decide) (Kept.now ?_))
  -- LOOP 1
  refine Tri.loopk (fun (k : Nat) => [(.s 6, .sv (.v (.int .i64 (k : Int))))]) _ (fun (k : Nat) => ixFrom (· == s) (tyWords.drop k) k = ixFrom (· == s) tyWords 0) (fun (k : Nat) => tyWords.length - k) 0 rfl (by simp) ?_
  rintro k hI
  refine Tri.seq (Tri.region ?_)
  refine TriL.c1 rfl (op_bin (ltb rfl) rfl rfl rfl) ?_
  refine TriL.nil (Tri.seq ?_)
  refine Tri.cond rfl (fun hc2 => ?_) (fun hc2 => ?_)
  ·have hk := lt16 hc2
   refine Tri.skip (Tri.seq (Tri.blk (Tri.seq (Tri.region ?_))))
   refine TriL.c1 rfl (op_mv (ltb rfl) rfl) ?_
   refine TriL.c1 rfl (op_as (ltb rfl) rfl) ?_
   refine TriL.nil (Tri.seq (Tri.region ?_))
   refine TriL.c1 rfl (op_mv (ltb rfl) rfl) ?_
   refine TriL.c1 rfl (op_call (ltb rfl) fn65_q rfl (p_word _)) ?_
   refine TriL.c1 rfl (op_mv (ltb rfl) rfl) ?_
   refine TriL.c1 rfl (op_bin (ltb rfl) rfl rfl rfl) ?_
   refine TriL.nil ?_
   refine Tri.cond rfl (fun hc3 => ?_) (fun hc3 => ?_)
   ·refine Tri.seq (Tri.region ?_)
    refine TriL.c1 rfl (op_mv (ltb rfl) rfl) ?_
    refine TriL.c1 rfl (op_as (ltb rfl) rfl) ?_
    refine TriL.nil (Tri.ret ?_)
    exact ⟨.inr rfl, (ResOK.r1 rfl (.tmp rfl .nil)).cast (congrArg (AV.int .i64) (ofT_hit (by simpa using hc1) (by rw [← hI, ixFrom_step hk, if_pos (by rw [← wordOf_ix hk]; exact hc3)])).symm), rfl⟩
   ·refine Tri.skip (Tri.region ?_)
    refine TriL.c1 rfl (op_bin (ltb rfl) rfl rfl rfl) ?_
    refine TriL.c1 rfl (op_mv (ltb rfl) rfl) ?_
    refine TriL.kept (Kept.seti 6 rfl (inc (by have : k < 16 := hk; omega)) (Kept.keep [.s 6, .h, .s 0] rfl (by decide) (Kept.now ?_)))
    exact ⟨k + 1, by omega, by rw [← hI, ixFrom_step hk, if_neg (by rw [← wordOf_ix hk]; simpa using hc3)], rfl⟩
  ·have hk := ge16 hc2
   refine Tri.exit (Tri.seq (Tri.region ?_))
   refine TriL.c1 rfl (op_as (ltb rfl) rfl) ?_
   refine TriL.nil (Tri.ret ?_)
   exact ⟨.inr rfl, (ResOK.r1 rfl (.tmp rfl .nil)).cast (congrArg (AV.int .i64) (ofT_miss (by rw [← hI, ixFrom_end hk])).symm), rfl⟩
theorem r_tywords : Pure Tryz.prog 79 [] (.sl ((tyWords.take 14).map .str)) := by
 refine Pure.of_tri Tryz.func79 rfl rfl (Nat.zero_le _) fun H => ?_
 refine Tri.seq (Tri.region ?_)
 refine TriL.c1 rfl (op_as (ltb rfl) rfl) ?_
 refine TriL.nil (Tri.seq (Tri.region ?_))
 refine TriL.c1 rfl (op_lit («as» := [_, _, _, _, _, _, _, _, _, _, _, _, _, _]) (ltb rfl) se40_q zAe40_q rfl rfl rfl (leb rfl)) ?_
 refine TriL.c1 rfl (op_as (ltb rfl) rfl) ?_
 refine TriL.nil (Tri.ret ?_)
 exact ⟨.inr rfl, (ResOK.r1 rfl (.tmp rfl .nil)).cast rfl, rfl⟩
theorem r_word (t : Int) : Pure Tryz.prog 44 [.int .i64 t] (.str (wordOf t)) := by
 refine Pure.of_tri Tryz.func44 rfl rfl (ltb rfl) fun H => ?_
 refine Tri.seq (Tri.region ?_)
 refine TriL.c1 rfl (op_as (ltb rfl) rfl) ?_
 refine TriL.nil (Tri.seq (Tri.seq (Tri.region ?_)))
 refine TriL.c1 rfl (op_mv (ltb rfl) rfl) ?_
 refine TriL.c1 rfl (op_bin (ltb rfl) rfl rfl rfl) ?_
 refine TriL.c1 rfl (op_mv (ltb rfl) rfl) ?_
 refine TriL.split (d := 5) rfl (fun hg1 => ?_) (fun hg1 => ?_)
 ·iterate 2 (refine TriL.skipu rfl rfl (ltb rfl) (ltb rfl) rfl hg1 ?_)
  refine TriL.c1 rfl (op_pickt (ltb rfl) rfl hg1 rfl) ?_
  refine TriL.nil ?_
  refine Tri.condT rfl rfl ?_
  refine Tri.seq (Tri.region ?_)
  refine TriL.c1 rfl (op_as (ltb rfl) rfl) ?_
  refine TriL.nil (Tri.ret ?_)
  exact ⟨.inr rfl, (ResOK.r1 rfl (.tmp rfl .nil)).cast (congrArg AV.str (by grind [wordOf_out])), rfl⟩
 ·refine TriL.g1 rfl (ltb rfl) rfl hg1 (op_mv (ltb rfl) rfl) ?_
  refine TriL.g1 rfl (ltb rfl) rfl hg1 (op_bin (ltb rfl) rfl rfl rfl) ?_
  refine TriL.c1 rfl (op_pickf (ltb rfl) rfl hg1 rfl) ?_
  refine TriL.nil ?_
  refine Tri.cond rfl (fun hc2 => ?_) (fun hc2 => ?_)
  ·refine Tri.seq (Tri.region ?_)
   refine TriL.c1 rfl (op_as (ltb rfl) rfl) ?_
   refine TriL.nil (Tri.ret ?_)
   exact ⟨.inr rfl, (ResOK.r1 rfl (.tmp rfl .nil)).cast (congrArg AV.str (by grind [wordOf_out])), rfl⟩
  ·refine Tri.skip (Tri.seq (Tri.region ?_))
   refine TriL.c1 rfl (op_call (ltb rfl) fn79_q rfl r_tywords) ?_
   refine TriL.c1 rfl (op_mv (ltb rfl) rfl) ?_
   refine TriL.c1 rfl (op_iak (ltb rfl) ie40_q rfl rfl (by grind) (word_cell2 (by grind) (by grind)) rfl) ?_
   refine TriL.c1 rfl (op_ldk (ltb rfl) lk9_q rfl rfl) ?_
   refine TriL.c1 rfl (op_as (ltb rfl) rfl) ?_
   refine TriL.nil (Tri.ret ?_)
   exact ⟨.inr rfl, (ResOK.r1 rfl (.tmp rfl .nil)).cast (congrArg AV.str (by grind [wordOf_out])), rfl⟩
/-- a number: how far from 0, and on which side -/
structure CNum where
 far : Nat
 neg : Bool
 deriving DecidableEq
def CNum.cells (x : CNum) : List AV := [.int .u64 (x.far : Int), .bool x.neg]
def CNum.av (x : CNum) : AV := .agg x.cells
def splitT (t : Int) (n : Nat) : CNum := if signT t = true ∧ 9223372036854775808 ≤ n then ⟨18446744073709551616 - n, true⟩ else ⟨n, false⟩
def CNum.raw (x : CNum) : Nat := if x.neg = true ∧ 0 < x.far then 18446744073709551616 - x.far else x.far
def CNum.val (x : CNum) (t : Int) : Option Nat := if wholeT t = true ∧ mayT t x.raw = true ∧ splitT t x.raw = x then some x.raw else none
def optV (o : Option Nat) : AV := .tup [.int .u64 ((o.getD 0 : Nat) : Int), .bool o.isSome]
theorem neg64 {n : Nat} (h : n < 18446744073709551616) : IntKind.u64.wrap (0 - (n : Int)) = (((if 0 < n then 18446744073709551616 - n else n) : Nat) : Int) := by
 simp only [IntKind.wrap, IntKind.bits, IntKind.signed]
 by_cases h0 : 0 < n
 ·simp [h0]; omega
 ·have : n = 0 := by omega
  subst this; rfl
theorem neg64p {n : Nat} (h : n < 18446744073709551616) (h0 : 0 < n) : IntKind.u64.wrap (0 - (n : Int)) = ((18446744073709551616 - n : Nat) : Int) := by rw [neg64 h, if_pos h0]
theorem s64_neg {n : Nat} (h : n < 18446744073709551616) : decide (IntKind.i64.wrap (n : Int) < 0) = decide (9223372036854775808 ≤ n) := by
 have := s64_eq h
 unfold s64 at this
 rw [this]
 split <;> simp <;> omega
theorem rd_val {t : Int} {n : Nat} {neg : Bool} (h : n < 18446744073709551616) : CNum.val (if n = 0 then ⟨0, false⟩ else ⟨n, neg⟩) t = rdT t n neg := by
 unfold CNum.val rdT
 by_cases h0 : n = 0
 ·subst h0
  simp only [CNum.raw, splitT]
  cases wholeT t <;> simp
 ·rw [if_neg h0]
  simp only [CNum.raw, splitT]
  have hp : 0 < n := by omega
  cases hn : neg with
  | false =>
   cases hw : wholeT t <;> cases hs : signT t <;> simp
   by_cases h2 : 9223372036854775808 ≤ n
   ·simp [h2]
   ·have h5 : n < 9223372036854775808 := by omega
    simp [h2, h5]
  | true =>
   cases hw : wholeT t <;> cases hs : signT t <;> simp [hp]
   by_cases h2 : 9223372036854775808 < n
   ·have : ¬ 9223372036854775808 ≤ 18446744073709551616 - n := by omega
    simp [h2, this]
   ·have h3 : 9223372036854775808 ≤ 18446744073709551616 - n := by omega
    have h4 : 18446744073709551616 - (18446744073709551616 - n) = n := by omega
    simp [h2, h3, h4]
theorem eqGuardCNum : Tryz.prog.eqGuardType Tryz.prog.depth 215 = false := by kernel_rfl
theorem neqCNum_run (a b : CNum) (w : World) : (binOp .neq 215 (.agg #[.int .u64 (a.far : Int), .bool a.neg]) (.agg #[.int .u64 (b.far : Int), .bool b.neg])).run Tryz.prog w = .ok (.bool (!decide (a = b))) w := by
 obtain ⟨a0, a1⟩ := a
 obtain ⟨b0, b1⟩ := b
 go_simp
 by_cases h0 : a0 = b0
 ·by_cases h1 : a1 = b1
  ·simp [h0, h1, Int.natCast_inj]
  ·simp [h0, h1, Int.natCast_inj]
 ·simp [h0, Int.natCast_inj]
theorem CNum_val {G : Gh} {v : Value} {t : CNum} (h : V G v (.agg t.cells)) : v = (.agg #[.int .u64 (t.far : Int), .bool t.neg]) := by
 unfold CNum.cells at h
 cases h with
 | agg vs cs hl hf hv =>
  obtain ⟨l⟩ := vs
  match l, hl with
  | [x0, x1], _ =>
   have h0 : V G x0 (.int .u64 (t.far : Int)) := hv 0 _ rfl
   cases h0
   have h1 : V G x1 (.bool t.neg) := hv 1 _ rfl
   cases h1
   rfl
theorem op_nes215 {N : Nat} {s : St} {d : Nat} {ty : TypeId} {pos : String} {af : Array Edge} {g : Option (Nat × Bool)} {t2 : TypeId} {x y : Operand} {u v : AV} (a b : CNum) (hN : d < N) (hx : opv x s = some u) (hy : opv y s = some v) (hu : u = .agg a.cells) (hv : v = .agg b.cells) :
  OpOK Tryz.prog N ⟨some d, .binOp .neq 215 x y t2, ty, pos, af, g⟩ s (rd x ++ rd y) [(.s d, .sv (.v (.bool (!decide (a = b)))))] := by
 subst hu hv
 exact OpOK.val rfl hN fun E G L c w tt hr hR => by
  refine ⟨.bool (!decide (a = b)), ?_, .bool _⟩
  have h1 := CNum_val (opv_sound hr hR.left hx)
  have h2 := CNum_val (opv_sound hr hR.right hy)
  have hgd := run_eqGuard_agg (P := Tryz.prog) w .neq 215 x y #[.int .u64 (a.far : Int), .bool a.neg] #[.int .u64 (b.far : Int), .bool b.neg] eqGuardCNum
  simp only [execOp, Sem.run_bind, h1, h2, hgd, Result.andThen_ok, neqCNum_run, Sem.run_pure]
theorem p_czero : Pure Tryz.prog 196 [] (CNum.av ⟨0, false⟩) := by
 refine Pure.of_tri Tryz.func196 rfl rfl (Nat.zero_le _) fun H => ?_
 refine Tri.seq (Tri.region ?_)
 refine TriL.c2 rfl (op_all (ltb rfl) zA215_q rfl) ?_
 refine TriL.nil (Tri.seq (Tri.region ?_))
 refine TriL.c1 rfl (op_bld (ltb rfl) spl215_q zA215_q rfl rfl) ?_
 refine TriL.c1 rfl (op_stl lk215_q rfl rfl rfl rfl rfl (leb rfl)) ?_
 refine TriL.nil (Tri.ret ?_)
 exact ⟨.inr rfl, (ResOK.r1 rfl (.cell lk215_q rfl rfl rfl rfl .nil)).cast rfl, rfl⟩
theorem p_split (t : Int) (n : Nat) (hn : n < 18446744073709551616) : Pure Tryz.prog 216 [.int .i64 t, .int .u64 (n : Int)] (splitT t n).av := by
 refine Pure.of_tri Tryz.func216 rfl rfl (ltb rfl) fun H => ?_
 refine Tri.seq (Tri.region ?_)
 refine TriL.c2 rfl (op_all (ltb rfl) zA215_q rfl) ?_
 refine TriL.nil (Tri.seq (Tri.seq (Tri.region ?_)))
 refine TriL.c1 rfl (op_mv (ltb rfl) rfl) ?_
 refine TriL.c1 rfl (op_call (ltb rfl) fn148_q rfl (p_signT _)) ?_
 refine TriL.c1 rfl (op_mv (ltb rfl) rfl) ?_
 refine TriL.split (d := 7) rfl (fun hg1 => ?_) (fun hg1 => ?_)
 ·refine TriL.g1 rfl (ltb rfl) rfl hg1 (op_mv (ltb rfl) rfl) ?_
  refine TriL.g1 rfl (ltb rfl) rfl hg1 (op_cvi (ltb rfl) un41_q un2_q rfl) ?_
  refine TriL.g1 rfl (ltb rfl) rfl hg1 (op_bin (ltb rfl) rfl rfl rfl) ?_
  refine TriL.c1 rfl (op_pickt (ltb rfl) rfl hg1 rfl) ?_
  refine TriL.nil ?_
  refine Tri.cond rfl (fun hc2 => ?_) (fun hc2 => ?_)
  ·refine Tri.seq (Tri.region ?_)
   refine TriL.c1 rfl (op_mv (ltb rfl) rfl) ?_
   refine TriL.c1 rfl (op_un (ltb rfl) rfl rfl) ?_
   refine TriL.c1 rfl (op_bld (ltb rfl) spl215_q zA215_q rfl rfl) ?_
   refine TriL.c1 rfl (op_stl lk215_q rfl rfl rfl rfl rfl (leb rfl)) ?_
   refine TriL.nil (Tri.ret ?_)
   exact ⟨.inr rfl, (ResOK.r1 rfl (.cell lk215_q rfl rfl rfl rfl .nil)).cast (by rw [s64_neg hn] at hc2; have h3 := of_decide_eq_true hc2; simp only [splitT, if_pos (And.intro hg1 h3), CNum.av, CNum.cells]; rw [neg64p hn (by omega)]), rfl⟩
  ·refine Tri.skip (Tri.seq (Tri.region ?_))
   refine TriL.c1 rfl (op_mv (ltb rfl) rfl) ?_
   refine TriL.c1 rfl (op_bld (ltb rfl) spl215_q zA215_q rfl rfl) ?_
   refine TriL.c1 rfl (op_stl lk215_q rfl rfl rfl rfl rfl (leb rfl)) ?_
   refine TriL.nil (Tri.ret ?_)
   exact ⟨.inr rfl, (ResOK.r1 rfl (.cell lk215_q rfl rfl rfl rfl .nil)).cast (by rw [s64_neg hn] at hc2; have h3 := of_decide_eq_false hc2; simp only [splitT, if_neg (fun h : signT t = true ∧ 9223372036854775808 ≤ n => h3 h.2), CNum.av, CNum.cells]), rfl⟩
 ·iterate 3 (refine TriL.skipu rfl rfl (ltb rfl) (ltb rfl) rfl hg1 ?_)
  refine TriL.c1 rfl (op_pickf (ltb rfl) rfl hg1 rfl) ?_
  refine TriL.nil ?_
  refine Tri.condF rfl rfl ?_
  refine Tri.skip (Tri.seq (Tri.region ?_))
  refine TriL.c1 rfl (op_mv (ltb rfl) rfl) ?_
  refine TriL.c1 rfl (op_bld (ltb rfl) spl215_q zA215_q rfl rfl) ?_
  refine TriL.c1 rfl (op_stl lk215_q rfl rfl rfl rfl rfl (leb rfl)) ?_
  refine TriL.nil (Tri.ret ?_)
  exact ⟨.inr rfl, (ResOK.r1 rfl (.cell lk215_q rfl rfl rfl rfl .nil)).cast (by simp only [splitT, if_neg (fun h : signT t = true ∧ 9223372036854775808 ≤ n => by rw [hg1] at h; cases h.1), CNum.av, CNum.cells]), rfl⟩
theorem CNum.raw_lt {x : CNum} (h : x.far < 18446744073709551616) : x.raw < 18446744073709551616 := by unfold CNum.raw; split <;> omega
theorem CNum.raw_neg {x : CNum} (h : x.far < 18446744073709551616) (hn : x.neg = true) : IntKind.u64.wrap (0 - (x.far : Int)) = (x.raw : Int) := by
 rw [neg64 h]; unfold CNum.raw; simp only [hn, true_and]
theorem CNum.raw_pos {x : CNum} (hn : x.neg = false) : (x.far : Int) = (x.raw : Int) := by unfold CNum.raw; simp [hn]
theorem CNum.val_no {x : CNum} {t : Int} (h : ¬ (wholeT t = true ∧ mayT t x.raw = true ∧ splitT t x.raw = x)) : x.val t = none := if_neg h
theorem CNum.val_yes {x : CNum} {t : Int} (h1 : wholeT t = true) (h2 : mayT t x.raw = true) (h3 : splitT t x.raw = x) : x.val t = some x.raw := if_pos ⟨h1, h2, h3⟩
theorem p_cval (x : CNum) (t : Int) (hn : x.far < 18446744073709551616) : Pure Tryz.prog 197 [x.av, .int .i64 t] (optV (x.val t)) := by
 refine Pure.of_tri Tryz.func197 rfl rfl (ltb rfl) fun H => ?_
 refine Tri.seq (Tri.region ?_)
 refine TriL.c2 rfl (op_box (ltb rfl) rfl rfl rfl) ?_
 iterate 2 (refine TriL.c1 rfl (op_as (ltb rfl) rfl) ?_)
 refine TriL.nil (Tri.seq (Tri.region ?_))
 refine TriL.c1 rfl (op_fal (ltb rfl) fo215_0_q rfl) ?_
 refine TriL.c1 rfl (op_ldl (ltb rfl) lk41_q rfl rfl rfl) ?_
 refine TriL.c1 rfl (op_as (ltb rfl) rfl) ?_
 refine TriL.nil ?_
 refine Tri.joinu [.h, .s 1, .s 2, .b 2] (fun (m : Int) => [(.s 6, .sv (.v (.int .u64 m)))]) (fun (m : Int) => m = (x.raw : Int)) rfl ?_ ?_
 ·refine Tri.seq (Tri.region ?_)
  refine TriL.c1 rfl (op_fal (ltb rfl) fo215_1_q rfl) ?_
  refine TriL.c1 rfl (op_ldl (ltb rfl) lk4_q rfl rfl rfl) ?_
  refine TriL.nil ?_
  refine Tri.cond rfl (fun hc1 => ?_) (fun hc1 => ?_)
  ·-- region 3 conv.go:30
   refine Tri.region ?_
   refine TriL.c1 rfl (op_mv (ltb rfl) rfl) ?_
   refine TriL.c1 rfl (op_un (ltb rfl) rfl rfl) ?_
   refine TriL.c1 rfl (op_as (ltb rfl) rfl) ?_
   refine TriL.kept (Kept.keep [.s 6, .h, .s 1, .s 2, .b 2] rfl (by decide) (Kept.now ?_))
   exact ⟨_, x.raw_neg hn hc1, rfl⟩
  ·refine Tri.ofKept (Kept.keep [.s 6, .h, .s 1, .s 2, .b 2] rfl (by decide) (Kept.now ?_))
   refine Tri.skip ?_
   exact ⟨_, x.raw_pos hc1, rfl⟩
 ·rintro m rfl
  refine Tri.seq (Tri.seq ?_)
  refine Tri.drawn mixed rfl ?_
  refine TriD.c1 rfl (op_mv (ltb rfl) rfl) ?_
  refine TriD.c1 rfl (op_call (ltb rfl) fn64_q rfl (p_wholeT _)) ?_
  refine TriD.c1 rfl (op_un (ltb rfl) rfl rfl) ?_
  refine TriD.c1 rfl (op_mv (ltb rfl) rfl) ?_
  refine TriD.split (d := 16) rfl (fun hg2 => ?_) (fun hg2 => ?_)
  ·iterate 4 (refine TriD.skipu rfl rfl (ltb rfl) (ltb rfl) rfl hg2 ?_)
   refine TriD.c1 rfl (op_pickt (ltb rfl) rfl hg2 rfl) ?_
   refine TriD.c1 rfl (op_mv (ltb rfl) rfl) ?_
   iterate 5 (refine TriD.skipu rfl rfl (ltb rfl) (ltb rfl) rfl rfl ?_)
   refine TriD.c1 rfl (op_pickt (ltb rfl) rfl rfl rfl) ?_
   refine TriD.nil (by kernel_rfl) (Kept.now ?_)
   refine Tri.condT rfl rfl ?_
   refine Tri.seq (Tri.region ?_)
   iterate 2 (refine TriL.c1 rfl (op_as (ltb rfl) rfl) ?_)
   refine TriL.nil (Tri.ret ?_)
   exact ⟨.inr rfl, (ResOK.r2 rfl (.tmp rfl (.tmp rfl .nil))).cast (by rw [x.val_no (by grind)]; rfl), rfl⟩
  ·iterate 2 (refine TriD.g1 rfl (ltb rfl) rfl hg2 (op_mv (ltb rfl) rfl) ?_)
   refine TriD.g1 rfl (ltb rfl) rfl hg2 (op_call (ltb rfl) fn108_q rfl (p_may _ _)) ?_
   refine TriD.g1 rfl (ltb rfl) rfl hg2 (op_un (ltb rfl) rfl rfl) ?_
   refine TriD.c1 rfl (op_pickf (ltb rfl) rfl hg2 rfl) ?_
   refine TriD.c1 rfl (op_mv (ltb rfl) rfl) ?_
   refine TriD.split (d := 22) rfl (fun hg3 => ?_) (fun hg3 => ?_)
   ·iterate 5 (refine TriD.skipu rfl rfl (ltb rfl) (ltb rfl) rfl hg3 ?_)
    refine TriD.c1 rfl (op_pickt (ltb rfl) rfl hg3 rfl) ?_
    refine TriD.nil (by kernel_rfl) (Kept.now ?_)
    refine Tri.condT rfl rfl ?_
    refine Tri.seq (Tri.region ?_)
    iterate 2 (refine TriL.c1 rfl (op_as (ltb rfl) rfl) ?_)
    refine TriL.nil (Tri.ret ?_)
    exact ⟨.inr rfl, (ResOK.r2 rfl (.tmp rfl (.tmp rfl .nil))).cast (by rw [x.val_no (by grind)]; rfl), rfl⟩
   ·iterate 2 (refine TriD.g1 rfl (ltb rfl) rfl hg3 (op_mv (ltb rfl) rfl) ?_)
    refine TriD.g1 rfl (ltb rfl) rfl hg3 (op_call (ltb rfl) fn216_q rfl (p_split _ _ (x.raw_lt hn))) ?_
    refine TriD.g1 rfl (ltb rfl) rfl hg3 (op_ldl (ltb rfl) lk215_q rfl rfl rfl) ?_
    refine TriD.g1 rfl (ltb rfl) rfl hg3 (op_nes215 (splitT t x.raw) x (ltb rfl) rfl rfl rfl rfl) ?_
    refine TriD.c1 rfl (op_pickf (ltb rfl) rfl hg3 rfl) ?_
    refine TriD.nil (by kernel_rfl) (Kept.now ?_)
    refine Tri.cond rfl (fun hc4 => ?_) (fun hc4 => ?_)
    ·refine Tri.seq (Tri.region ?_)
     iterate 2 (refine TriL.c1 rfl (op_as (ltb rfl) rfl) ?_)
     refine TriL.nil (Tri.ret ?_)
     exact ⟨.inr rfl, (ResOK.r2 rfl (.tmp rfl (.tmp rfl .nil))).cast (by rw [x.val_no (by grind)]; rfl), rfl⟩
    ·refine Tri.skip (Tri.seq (Tri.region ?_))
     refine TriL.c1 rfl (op_mv (ltb rfl) rfl) ?_
     iterate 2 (refine TriL.c1 rfl (op_as (ltb rfl) rfl) ?_)
     refine TriL.nil (Tri.ret ?_)
     exact ⟨.inr rfl, (ResOK.r2 rfl (.tmp rfl (.tmp rfl .nil))).cast (by rw [x.val_yes (by grind) (by grind) (by grind)]; rfl), rfl⟩
theorem p_read (t : Int) (n : Nat) (neg : Bool) (hn : n < 18446744073709551616) : Pure Tryz.prog 166 [.int .i64 t, .int .u64 (n : Int), .bool neg] (optV (rdT t n neg)) := by
 refine Pure.of_tri Tryz.func166 rfl rfl (ltb rfl) fun H => ?_
 refine Tri.seq (Tri.region ?_)
 iterate 2 (refine TriL.c1 rfl (op_as (ltb rfl) rfl) ?_)
 refine TriL.nil (Tri.seq (Tri.region ?_))
 iterate 2 (refine TriL.c1 rfl (op_mv (ltb rfl) rfl) ?_)
 refine TriL.c1 rfl (op_bld (ltb rfl) spl215_q zA215_q rfl rfl) ?_
 refine TriL.c2 rfl (op_all (ltb rfl) zA215_q rfl) ?_
 refine TriL.c1 rfl (op_stl lk215_q rfl rfl rfl rfl rfl (leb rfl)) ?_
 refine TriL.nil ?_
 refine Tri.joinu [.h, .s 0] (fun (x : CNum) => [(.b 8, .bx [.v (.int .u64 (x.far : Int)), .v (.bool x.neg)]), (.s 8, .sv (.lp 8 0))]) (fun (x : CNum) => x = if n = 0 then ⟨0, false⟩ else ⟨n, neg⟩) rfl ?_ ?_
 ·refine Tri.seq (Tri.region ?_)
  refine TriL.c1 rfl (op_mv (ltb rfl) rfl) ?_
  refine TriL.c1 rfl (op_bin (ltb rfl) rfl rfl rfl) ?_
  refine TriL.nil ?_
  refine Tri.cond rfl (fun hc1 => ?_) (fun hc1 => ?_)
  ·-- region 3 conv.go:62
   refine Tri.region ?_
   refine TriL.c1 rfl (op_call (ltb rfl) fn196_q rfl p_czero) ?_
   refine TriL.c1 rfl (op_stl lk215_q rfl rfl rfl rfl rfl (leb rfl)) ?_
   refine TriL.kept (Kept.keep [.b 8, .s 8, .h, .s 0] rfl (by decide) (Kept.now ?_))
   exact ⟨⟨0, false⟩, (by rw [if_pos (by have := eq_of_beq hc1; omega)]), rfl⟩
  ·refine Tri.ofKept (Kept.keep [.b 8, .s 8, .h, .s 0] rfl (by decide) (Kept.now ?_))
   refine Tri.skip ?_
   exact ⟨⟨n, neg⟩, (by rw [if_neg (by simpa using hc1)]), rfl⟩
 ·rintro x hx
  refine Tri.seq (Tri.region ?_)
  refine TriL.c1 rfl (op_ldl (ltb rfl) lk215_q rfl rfl rfl) ?_
  refine TriL.c1 rfl (op_mv (ltb rfl) rfl) ?_
  refine TriL.c1 rfl (op_call (ltb rfl) fn197_q rfl (p_cval _ _ (by rw [hx]; split <;> first | exact hn | decide))) ?_
  iterate 2 (refine TriL.c1 rfl (op_ext (ltb rfl) rfl rfl) ?_)
  iterate 2 (refine TriL.c1 rfl (op_as (ltb rfl) rfl) ?_)
  refine TriL.nil (Tri.ret ?_)
  exact ⟨.inr rfl, (ResOK.r2 rfl (.tmp rfl (.tmp rfl .nil))).cast (by rw [hx, rd_val hn]; rfl), rfl⟩
theorem r_split (t : Int) (n : Nat) (hn : n < 18446744073709551616) : Pure Tryz.prog 118 [.int .i64 t, .int .u64 (n : Int)] (.tup (splitT t n).cells) := by
 refine Pure.of_tri Tryz.func118 rfl rfl (ltb rfl) fun H => ?_
 refine Tri.seq (Tri.region ?_)
 iterate 2 (refine TriL.c1 rfl (op_as (ltb rfl) rfl) ?_)
 refine TriL.nil (Tri.seq (Tri.seq (Tri.region ?_)))
 refine TriL.c1 rfl (op_mv (ltb rfl) rfl) ?_
 refine TriL.c1 rfl (op_call (ltb rfl) fn111_q rfl (r_signT _)) ?_
 refine TriL.c1 rfl (op_mv (ltb rfl) rfl) ?_
 refine TriL.split (d := 8) rfl (fun hg1 => ?_) (fun hg1 => ?_)
 ·refine TriL.g1 rfl (ltb rfl) rfl hg1 (op_mv (ltb rfl) rfl) ?_
  refine TriL.g1 rfl (ltb rfl) rfl hg1 (op_bin (ltb rfl) rfl rfl rfl) ?_
  refine TriL.c1 rfl (op_pickt (ltb rfl) rfl hg1 rfl) ?_
  refine TriL.nil ?_
  refine Tri.cond rfl (fun hc2 => ?_) (fun hc2 => ?_)
  ·refine Tri.seq (Tri.region ?_)
   refine TriL.c1 rfl (op_mv (ltb rfl) rfl) ?_
   refine TriL.c1 rfl (op_bin (ltb rfl) rfl rfl rfl) ?_
   iterate 2 (refine TriL.c1 rfl (op_as (ltb rfl) rfl) ?_)
   refine TriL.nil (Tri.ret ?_)
   exact ⟨.inr rfl, (ResOK.r2 rfl (.tmp rfl (.tmp rfl .nil))).cast (by have h3 := of_decide_eq_true hc2; simp only [splitT, if_pos (And.intro hg1 (Int.ofNat_le.1 h3)), CNum.cells]; rw [neg64p hn (by omega)]), rfl⟩
  ·refine Tri.skip (Tri.seq (Tri.region ?_))
   refine TriL.c1 rfl (op_mv (ltb rfl) rfl) ?_
   iterate 2 (refine TriL.c1 rfl (op_as (ltb rfl) rfl) ?_)
   refine TriL.nil (Tri.ret ?_)
   exact ⟨.inr rfl, (ResOK.r2 rfl (.tmp rfl (.tmp rfl .nil))).cast (by have h3 := of_decide_eq_false hc2; simp only [splitT, if_neg (fun h : signT t = true ∧ 9223372036854775808 ≤ n => h3 (Int.ofNat_le.2 h.2)), CNum.cells]), rfl⟩
 ·iterate 2 (refine TriL.skipu rfl rfl (ltb rfl) (ltb rfl) rfl hg1 ?_)
  refine TriL.c1 rfl (op_pickf (ltb rfl) rfl hg1 rfl) ?_
  refine TriL.nil ?_
  refine Tri.condF rfl rfl ?_
  refine Tri.skip (Tri.seq (Tri.region ?_))
  refine TriL.c1 rfl (op_mv (ltb rfl) rfl) ?_
  iterate 2 (refine TriL.c1 rfl (op_as (ltb rfl) rfl) ?_)
  refine TriL.nil (Tri.ret ?_)
  exact ⟨.inr rfl, (ResOK.r2 rfl (.tmp rfl (.tmp rfl .nil))).cast (by simp only [splitT, if_neg (fun h : signT t = true ∧ 9223372036854775808 ≤ n => by rw [hg1] at h; cases h.1), CNum.cells]), rfl⟩
end Go.Proofs.YtabihkfhoohfnaaGreatDoor.X
