/- The program logic's rules: a strings.Builder in a local box. No condition. -/
import Derived.Test.YthoncmadikifnaaDoorL2
import Derived.Test.YthoncmadikifnaaDoorXR
set_option linter.unusedVariables false
set_option linter.unusedSimpArgs false
namespace Go.Proofs.YthoncmadikifnaaDoor.X
open Go Go.RowKit Go.Proofs
section
variable {N : Nat} {s : St} {d : Nat} {ty : TypeId} {pos : String} {af : Array Edge} {g : Option (Nat × Bool)}
theorem zero66' : (Tryd.prog.info? 66).bind (·.zero) = some (.agg #[.pointer none, .slice none 0 0]) := by kernel_rfl
theorem zero66 : ∃ i, Tryd.prog.info? 66 = some i ∧ i.zero = some (.agg #[.pointer none, .slice none 0 0]) := Option.bind_eq_some_iff.1 zero66'
theorem bt_new {G : Gh} {L : Loc} {f : Nat} (hf : L.tok f = some (.slice none 0 0)) : ObjOK G L (.cells #[.pointer none, .slice none 0 0] 66) (.bt 66 [.v .nilp, .om f 0]) := by
  refine ⟨#[.pointer none, .slice none 0 0], rfl, rfl, fun j x e => ?_⟩
  match j, e with
  | 0, e => cases e; exact ⟨rfl, .nilp⟩
  | 1, e => cases e; exact ⟨rfl, hf, none, 0, rfl⟩
/-- var b strings.Builder; its row: f -/
theorem op_alb' {P : Program} {i : TypeInfo} (hi : P.info? 66 = some i) (hz : i.zero = some (.agg #[.pointer none, .slice none 0 0])) {f : Nat} (hN : d < N) (hk : get s (.b d) = none) (hf : get s (.t f) = none) :
    OpOK P N ⟨some d, .alloc 66, ty, pos, af, g⟩ s [.b d, .t f] [(.s d, .sv (.lp d 0)), (.b d, .bt 66 [.v .nilp, .om f 0]), (.t f, .tk true 5 1 [])] := by
  intro t hR E G L a w hr K Q hK
  have hk' : get t (.b d) = none := by rw [hR (.b d) (by simp)]; exact hk
  have hf' : get t (.t f) = none := by rw [hR (.t f) (by simp)]; exact hf
  have hr0 := hr.niltok (el := 5) (esz := 1) hf' (by decide)
  have hr1 := hr0.alloc d (by simpa [get] using hk') (.cells #[.pointer none, .slice none 0 0] 66) (.bt 66 [.v .nilp, .om f 0]) rfl rfl (bt_new (by simp [Loc.setBox, Loc.setTok]))
  have he : (execOp a.eval ⟨some d, .alloc 66, ty, pos, af, g⟩).run P w = .ok (.value (.pointer (some ⟨w.heap.size, 0, none⟩))) (w.alloc (.cells #[.pointer none, .slice none 0 0] 66)) := by
    simp [execOp, Instr.alloc, zeroValue, typeInfo, hi, hz, newVar, newRow]
    rfl
  unfold Oper.wp
  rw [he]
  exact hK _ _ G _ (hr1.put d hN _ (.lp d 0) ⟨w.heap.size, by simp [Loc.setBox], rfl⟩)
set_option maxRecDepth 1000000 in
theorem op_alb {f : Nat} (hN : d < N) (hk : get s (.b d) = none) (hf : get s (.t f) = none) :
    OpOK Tryd.prog N ⟨some d, .alloc 66, ty, pos, af, g⟩ s [.b d, .t f] [(.s d, .sv (.lp d 0)), (.b d, .bt 66 [.v .nilp, .om f 0]), (.t f, .tk true 5 1 [])] :=
  Exists.elim zero66 fun i h => op_alb' h.1 h.2 hN hk hf
theorem lay_bytes {G : Gh} {l : List UInt8} {cells : List Value} (h : Lay G 1 (bsl l) cells) (hl : cells.length = l.length) : cells = Lib.byteCells l := by
  refine List.ext_getElem? fun i => ?_
  by_cases hi : i < l.length
  · have h1 : (bsl l)[i]? = some (.int .u8 ((l[i]).toNat : Int)) := by simp [bsl, hi]
    have h2 := (h.2 i _ 0 (.int .u8 ((l[i]).toNat : Int)) h1 rfl).2
    have h3 : cells.getD (i * 1 + 0) undef = .int .u8 ((l[i]).toNat : Int) := V.int_eq h2
    simp only [Nat.mul_one, Nat.add_zero] at h3
    rw [List.getD_eq_getElem?_getD, List.getElem?_eq_getElem (by omega)] at h3
    rw [List.getElem?_eq_getElem (by omega)]
    simp only [Lib.byteCells, List.getElem?_map, List.getElem?_eq_getElem hi, Option.map_some]
    simpa using h3
  · rw [List.getElem?_eq_none (by omega), List.getElem?_eq_none (by simp [Lib.byteCells]; omega)]
theorem byteCells_str (l : List UInt8) : Lib.strCells ⟨l.toArray⟩ = Lib.byteCells l := by simp [Lib.strCells, Lib.byteCells]
/-- What a builder's box is. -/
theorem bt_open {E : Ent} {G : Gh} {L : Loc} {a : Act} {w : World} {t : St} (hr : Rel E N G L a w t) {k f n : Nat} {c0 : Sv} (hk : get t (.b k) = some (.bt 66 [c0, .om f n])) (hc0 : c0 = .v .nilp ∨ c0 = .lp k 0) :
    ∃ b p v, L.box k = some b ∧ L.tok f = some v ∧ w.heap[b]? = some (.cells #[p, v] 66 (0, 0)) ∧ (p = .pointer none ∨ p = .pointer (some ⟨b, 0, none⟩)) := by
  obtain ⟨b, o, hb, _, hh, ⟨arr, rfl, hsz, hc⟩, _⟩ := hr.box k _ hk rfl
  have hp := (hc 0 c0 rfl).2
  have hv := (hc 1 (.om f n) rfl).2.1
  obtain ⟨al⟩ := arr
  match al, hsz with
  | [p, v], _ =>
    refine ⟨b, p, v, hb, hv, hh, ?_⟩
    rcases hc0 with rfl | rfl
    · have h1 : V G p .nilp := hp
      cases h1; exact .inl rfl
    · obtain ⟨b2, h2, h3⟩ := hp
      rw [hb] at h2; cases h2
      exact .inr h3
set_option maxRecDepth 1000000 in
set_option maxHeartbeats 2000000 in
/-- b.WriteString(text) -/
theorem op_bws {x y : Operand} {tys : Array TypeId} {k f n : Nat} {c0 : Sv} {xs : List UInt8} {l : List UInt8} (hN : d < N) (hx : opd x s = some (.lp k 0)) (hk : get s (.b k) = some (.bt 66 [c0, .om f n])) (hc0 : c0 = .v .nilp ∨ c0 = .lp k 0)
    (hf : get s (.t f) = some (.tk true 5 1 (bsl xs))) (hy : opv y s = some (.str l)) (hd : get s (.t d) = none) (hfn : isFn Tryd.prog 40 = true) (hlen : xs.length + l.length ≤ 140737488355328) :
    OpOK Tryd.prog N ⟨some d, .call { callee := .value (.func 40), args := #[x, y], argTypes := tys }, ty, pos, af, g⟩ s (rd x ++ (rd y ++ [.b k, .t f, .t d]))
      [(.s d, .sv (.v (.tup [.int .i64 l.length, .nili]))), (.b k, .bt 66 [.lp k 0, .om d (xs ++ l).length]), (.t d, .tk true 5 1 (bsl (xs ++ l))), (.t f, .gone)] := by
  intro t hR E G L a w hr K Q hK
  have hk' : get t (.b k) = some (.bt 66 [c0, .om f n]) := by rw [hR (.b k) (by simp)]; exact hk
  have hf' : get t (.t f) = some (.tk true 5 1 (bsl xs)) := by rw [hR (.t f) (by simp)]; exact hf
  have hd' : get t (.t d) = none := by rw [hR (.t d) (by simp)]; exact hd
  obtain ⟨b, p, v, hb, hv, hbk, hp⟩ := bt_open hr hk' hc0
  have hx1 : a.eval x = .pointer (some ⟨b, 0, none⟩) := by
    obtain ⟨b2, h2, h3⟩ := opd_sound hr hR.left hx
    rw [hb] at h2; cases h2; exact h3
  have hy1 : a.eval y = .string ⟨l.toArray⟩ := V.str_eq (opv_sound hr hR.right.left hy)
  obtain ⟨v2, hv2, ⟨cells, _, hown, hz, hL, hkn0⟩, hmay⟩ := hr.tok f true 5 1 (bsl xs) hf'
  rw [hv] at hv2; cases hv2
  have hlx : (bsl xs).length = xs.length := by simp [bsl]
  have hne : v.ownBlock ≠ some b := fun e => by
    have := hr.disj (.t f) (.b k) b ⟨⟨_, _, _, _, hf'⟩, v, hv, e⟩ ⟨⟨_, hk', rfl⟩, hb⟩
    cases this
  have hsz : (⟨l.toArray⟩ : ByteArray).size = l.length := by simp [ByteArray.size]
  have he : (execOp a.eval ⟨some d, .call { callee := .value (.func 40), args := #[x, y], argTypes := tys }, ty, pos, af, g⟩).run Tryd.prog w = .ok (.enter 40 #[.pointer (some ⟨b, 0, none⟩), .string ⟨l.toArray⟩]) w := by
    have heF : a.eval (.func 40) = .func (.func 40) #[] #[] := rfl
    have e : #[] ++ Array.map a.eval #[x, y] ++ #[] = #[.pointer (some ⟨b, 0, none⟩), .string ⟨l.toArray⟩] := by simp [hx1, hy1]
    simp only [execOp, resolve, heF, Deferred.ofValue, Sem.run_bind, Sem.run_pure, Result.andThen_ok, invoke, run_callFunc hfn, e]
  unfold Oper.wp
  rw [he]
  refine (Tryd.bld_ws hbk hp hown hne (by rw [hsz, hlx]; exact hlen)).mono ?_
  rintro e w' ⟨rfl, w1, v', w2, t1, hk1, hown1, ho2, hg, hat, hcell, t2, hk2, hk3⟩
  have hr1 := hr.turn (cv0 := .bt 66 [c0, .om f n]) (cv := .bt 66 [.lp k 0, .om f n]) hk' rfl rfl rfl hb (o := .cells #[.pointer (some ⟨b, 0, none⟩), v] 66 (0, 0)) ⟨_, rfl, rfl, fun j z e => by
    match j, e with
    | 0, e => cases e; exact ⟨rfl, b, hb, rfl⟩
    | 1, e =>
      cases e
      obtain ⟨_, _, _, _, _, ⟨arr, h1, h2, h3⟩, _⟩ := hr.box k _ hk' rfl
      refine ⟨rfl, hv, ?_⟩
      obtain ⟨b0, o0, q1, _, q3, ⟨arr0, q4, q5, q6⟩, _⟩ := hr.box k _ hk' rfl
      rw [hb] at q1; cases q1
      rw [hbk] at q3; cases q3
      cases q4
      exact (q6 1 _ rfl).2.2⟩ t1.os t1.tape t1.output t1.size t1.block hk1
  have hbl : (bsl l).length = l.length := by simp [bsl]
  obtain ⟨G', _, hle, hr2⟩ := grow_tok hr1 (k := f) (d := d) (m := true) (el := 5) (esz := 1) (xs := bsl xs) (ys := bsl l) (v1 := v') (w1 := w2) (news := Lib.strCells ⟨l.toArray⟩) (by simpa [get] using hf') (by simpa [get] using hd') hv hown1 hL (by decide)
    (fun blk e o u h => by have := hkn0 blk e o; rw [this] at h; cases h) (by rw [hbl, ← hsz]; exact ho2) hg hat hcell (strCells_lay G l)
  have e1 : bsl xs ++ bsl l = bsl (xs ++ l) := by simp [bsl]
  rw [e1] at hr2
  have hs2 : ∃ A C, v' = .slice A (xs ++ l).length C := by
    have hn : (bsl xs).length + (⟨l.toArray⟩ : ByteArray).size = (xs ++ l).length := by rw [hlx, hsz, List.length_append]
    rcases ho2.2 with ⟨h1, h2⟩ | ⟨g2, cap, cur, h1, _⟩
    · rw [hn] at h2; exact ⟨none, 0, by rw [h2]; exact h1⟩
    · exact ⟨_, _, by rw [← hn]; exact h1⟩
  have hr3 := hr2.turn (cv0 := .bt 66 [.lp k 0, .om f n]) (cv := .bt 66 [.lp k 0, .om d (xs ++ l).length]) (k := k) (by simp [get]) rfl rfl rfl (blk := b) hb (o := .cells #[.pointer (some ⟨b, 0, none⟩), v'] 66 (0, 0)) ⟨_, rfl, rfl, fun j z e => by
    match j, e with
    | 0, e => cases e; exact ⟨rfl, b, hb, rfl⟩
    | 1, e => cases e; exact ⟨rfl, by simp [Loc.setTok], hs2⟩⟩ t2.os t2.tape t2.output t2.size t2.block hk3
  have hr4 := hr3.put d hN (.tuple #[.int .i64 (⟨l.toArray⟩ : ByteArray).size, .nilIface]) (.v (.tup [.int .i64 l.length, .nili])) (by rw [hsz]; exact V.tup2 (.int _ _) .nili)
  refine hK _ w' G' (L.setTok d v') (hr4.ext fun c => ?_)
  simp only [List.cons_append, List.nil_append, get]
  repeat' split
  all_goals first | rfl | (rename_i h1 h2; subst h1; cases h2) | (exfalso; simp_all)
set_option maxRecDepth 1000000 in
set_option maxHeartbeats 2000000 in
/-- b.String(): the builder is not written any more -/
theorem op_bstr {x : Operand} {tys : Array TypeId} {k f n : Nat} {c0 : Sv} {xs : List UInt8} (hN : d < N) (hx : opd x s = some (.lp k 0)) (hk : get s (.b k) = some (.bt 66 [c0, .om f n])) (hc0 : c0 = .v .nilp ∨ c0 = .lp k 0)
    (hf : get s (.t f) = some (.tk true 5 1 (bsl xs))) (hd : get s (.t d) = none) (hfn : isFn Tryd.prog 41 = true) :
    OpOK Tryd.prog N ⟨some d, .call { callee := .value (.func 41), args := #[x], argTypes := tys }, ty, pos, af, g⟩ s (rd x ++ [.b k, .t f, .t d])
      [(.s d, .sv (.v (.str xs))), (.t d, .tk true 5 1 []), (.t f, .gone)] := by
  intro t hR E G L a w hr K Q hK
  have hk' : get t (.b k) = some (.bt 66 [c0, .om f n]) := by rw [hR (.b k) (by simp)]; exact hk
  have hf' : get t (.t f) = some (.tk true 5 1 (bsl xs)) := by rw [hR (.t f) (by simp)]; exact hf
  have hd' : get t (.t d) = none := by rw [hR (.t d) (by simp)]; exact hd
  have hne' : d ≠ f := by rintro rfl; rw [hf'] at hd'; cases hd'
  obtain ⟨b, p, v, hb, hv, hbk, hp⟩ := bt_open hr hk' hc0
  have hx1 : a.eval x = .pointer (some ⟨b, 0, none⟩) := by
    obtain ⟨b2, h2, h3⟩ := opd_sound hr hR.left hx
    rw [hb] at h2; cases h2; exact h3
  obtain ⟨v2, hv2, ⟨cells, _, hown, hz, hL, hkn0⟩, hmay⟩ := hr.tok f true 5 1 (bsl xs) hf'
  rw [hv] at hv2; cases hv2
  have hlx : (bsl xs).length = xs.length := by simp [bsl]
  have he : (execOp a.eval ⟨some d, .call { callee := .value (.func 41), args := #[x], argTypes := tys }, ty, pos, af, g⟩).run Tryd.prog w = .ok (.enter 41 #[.pointer (some ⟨b, 0, none⟩)]) w := by
    have heF : a.eval (.func 41) = .func (.func 41) #[] #[] := rfl
    have e : #[] ++ Array.map a.eval #[x] ++ #[] = #[.pointer (some ⟨b, 0, none⟩)] := by simp [hx1]
    simp only [execOp, resolve, heF, Deferred.ofValue, Sem.run_bind, Sem.run_pure, Result.andThen_ok, invoke, run_callFunc hfn, e]
  unfold Oper.wp
  rw [he]
  have hcl : cells.length = xs.length := by have := hown.1; rw [hlx] at this; simpa using this
  have hcb := lay_bytes hL hcl
  rw [hlx, hcb] at hown
  refine (Tryd.bld_str hbk hown).mono ?_
  rintro e w' ⟨rfl, hg⟩
  have hr1 := hr.gonetok hf'
  have hmine : ∀ b, v.ownBlock = some b → owns t L (.t f) b := fun b hb => ⟨⟨_, _, _, _, hf'⟩, v, hv, hb⟩
  obtain ⟨G', _, hle, hr2⟩ := hr1.newtok true (d := d) (el := 5) (esz := 1) (xs := []) (v1 := .slice none 0 0) (cells := []) (row := v.ownBlock) (by simp [get, Ne.symm hne']; exact hd') (by decide) hg (fun b hb => by
      refine ⟨(owns_lt hr (hmine b hb)).2, fun c hc => ?_, fun H g => hr.hdisj _ _ (hmine b hb) H (by simpa [get] using g), (hmay b hb).2, fun o u e => ?_⟩
      · by_cases e : c = .t f
        · subst e; obtain ⟨⟨m, el, esz, xs, g⟩, _⟩ := hc; simp [get] at g
        · exact e (hr.disj c (.t f) b (owns_cons e hc) (hmine b hb))
      · have := hkn0 b hb o
        rw [this] at e; cases e) (fun b hb => by simp [Value.ownBlock] at hb) (World.ownsRow_nil w' 0 5 1) ⟨fun i e h => by simp at h, fun i e j c h => by simp at h⟩ (fun b hb => by simp [Value.ownBlock] at hb)
  have hr4 := hr2.put d hN (.string ⟨xs.toArray⟩) (.v (.str xs)) (.str _)
  exact hK _ w' G' _ hr4
end
end Go.Proofs.YthoncmadikifnaaDoor.X
