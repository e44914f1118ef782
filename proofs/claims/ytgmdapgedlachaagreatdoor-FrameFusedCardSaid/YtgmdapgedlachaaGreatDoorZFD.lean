/- The program logic's rules: slices over rows that are objects: their elements, append. No condition. -/
import Derived.Test.YtgmdapgedlachaaGreatDoorZFC
import Derived.Test.YtgmdapgedlachaaGreatDoorProg
import Derived.Lib.Bytealg
import Derived.Lib.Strings
import Derived.Lib.ParseIntB
import Derived.Lib.ItoaNum
import Derived.KernelRfl
set_option linter.unusedVariables false
set_option linter.unusedSimpArgs false
namespace Go.Proofs.YtgmdapgedlachaaGreatDoor.X
open Go Go.RowKit
theorem aD.many {P : Program} {N : Nat} {ops : Array Oper} {o : Oper} {l : List Oper} {s : St} {Q : St → Prop} (hg : o.guard = none) (W : St → Prop)
  (ho : ∀ E G L a w, Rel E N G L a w s → ∀ (K : Act → World → Prop) (Q : Exit → Act → World → Prop), (∀ v w' G' L' ws, W ws → Rel E N G' L' (a.put o.dst v) w' (ws ++ s) → K (a.put o.dst v) w') → o.wp P a w K Q)
  (h : ∀ ws, W ws → aD P N ops l (ws ++ s) Q) : aD P N ops (o :: l) s Q := by
 intro E a w ⟨G, L, hr⟩ QQ hQ
 refine wpList_plain hg fun K hK => ?_
 exact ho E G L a w hr K QQ fun v w' G' L' ws hw hr' => hK _ _ (h ws hw E _ _ ⟨G', L', hr'⟩ QQ hQ)
section
variable {P : Program} {N : Nat} {s : St} {d : Nat} {ty : TypeId} {pos : String} {af : Array Edge} {g : Option (Nat × Bool)}
theorem FD {t1 e : TypeId} {x : Operand} {id n c : Nat} (hN : d < N) (h1 : P.underlying t1 = some (.slice e)) (hx : cV x s = some (.os id n c)) :
  aW P N ⟨some d, .call { callee := .builtin .len, args := #[x], argTypes := #[t1] }, ty, pos, af, g⟩ s (rd x) [(.s d, .sv (.v (.int .i64 n)))] :=
 aW.val rfl hN fun E G L a w t hr hR => by
  have hv := aT hr hR hx
  generalize hav : a.eval x = u at hv
  cases hv
  refine ⟨.int .i64 n, ?_, .int _ _⟩
  simp [execOp, resolve, invoke, builtin, hav, Builtin.len_, run_underlying h1, goInt]
theorem bR {t1 : TypeId} {x i : Operand} {id n c esz : Nat} {k : IntKind} {j : Int} (hN : d < N) (ht : ie P t1 = some esz) (hx : cV x s = some (.os id n c)) (hi : cV i s = some (.int k j)) (h0 : 0 ≤ j) (h1 : j < n) :
  aW P N ⟨some d, .indexAddr t1 x i, ty, pos, af, g⟩ s (rd x ++ rd i) [(.s d, .sv (.v (.op id (j.toNat * esz))))] :=
 aW.val rfl hN fun E G L a w t hr hR => by
  have hv := aT hr hR.left hx
  have hn := lb (aT hr hR.right hi)
  obtain ⟨el, inf, hu, hinf, hsize⟩ := vu ht
  generalize hav : a.eval x = u at hv
  cases hv
  rename_i b cap hb hle hz
  refine ⟨.pointer (some ⟨b, j.toNat * esz, none⟩), ?_, V.op id _ b hb⟩
  simp [execOp, hav, hn, Instr.indexAt, asIntOf, run_underlying hu, h0, h1, sizeOf, typeInfo, hinf, hsize, Addr.add_lit]
theorem pH {w : World} (t ty e e0 : TypeId) (i : TypeInfo) (ht : P.underlying t = some (.slice e)) (hi : P.info? e = some i)
  (g sLen sCap : Nat) (cur : Array Value) (hg : w.heap[g]? = some (.cells cur e0 (0, 0)))
  (a : Addr) (m c : Nat) (news : List Value) (hl : news.length = m * i.size) (hnews : ∀ (j : Nat) u, news[j]? = some u → w.cell? (a.add j) = some u) (h1 : ∀ u ∈ news, u.oneCell' = true)
  (hroom : sLen + m ≤ sCap) (hfit : sLen * i.size + news.length ≤ cur.size) :
  (Builtin.append_ #[t, t] ty #[.slice (some ⟨g, 0, none⟩) sLen sCap, .slice (some a) m c]).run P w =
   .ok (.slice (some ⟨g, 0, none⟩) (sLen + m) sCap) (w.setRow g (cur.toList.take (sLen * i.size) ++ news ++ cur.toList.drop (sLen * i.size + news.length)).toArray) := by
 have hf := run_firstCells_some (P := P) w i.size m a m c news hl hnews
 have hst := run_storeCells_at P g (sLen * i.size) e0 news 0 cur w hg (by simpa using hfit) h1
 simp only [Nat.add_zero] at hst
 simp [Builtin.append_, run_underlying ht, sizeOf, typeInfo, hi, Builtin.lenOf, hroom, hf, Addr.add_lit, hst]
def LP {α : Type} (cs : List α) (k : Nat) (l : List α) : List α := cs.take k ++ l ++ cs.drop (k + l.length)
theorem E7 {α : Type} {cs l : List α} {k j : Nat} (h : k + l.length ≤ cs.length) : (LP cs k l)[j]? = if j < k then cs[j]? else if j < k + l.length then l[j - k]? else cs[j]? := by
 unfold LP
 have h1 : (cs.take k).length = k := by rw [List.length_take]; omega
 by_cases hj : j < k
 ·rw [List.append_assoc, List.getElem?_append_left (by omega), List.getElem?_take, if_pos hj, if_pos hj]
 ·rw [if_neg hj, List.append_assoc, List.getElem?_append_right (by omega), h1]
  by_cases h2 : j < k + l.length
  ·rw [if_pos h2, List.getElem?_append_left (by omega)]
  ·rw [if_neg h2, List.getElem?_append_right (by omega), List.getElem?_drop]
   congr 1; omega
theorem oR {z : Array Value} (h : ∀ v ∈ z, v.oneCell' = true) (n : Nat) : ∀ v ∈ Builtin.zeroCells z n, v.oneCell' = true := by
 intro v hv
 simp [Builtin.zeroCells] at hv
 obtain ⟨i, hi, rfl⟩ := hv
 have hpos : 0 < z.size := Nat.pos_of_ne_zero fun e => by rw [e] at hi; simp at hi
 have hlt : i % z.size < z.size := Nat.mod_lt _ hpos
 rw [getElem!_pos z _ hlt]
 exact h _ (Array.getElem_mem hlt)
theorem Hp.B3 {H : Hp} {id i : Nat} : (H.del id).obj i = if i = id then none else H.obj i := rfl
theorem Rel.zw {E : eB} {G G' : Gh} {L : Loc} {a : Act} {w : World} (h : Rel E N G L a w s) {H H' : Hp} (hH : get s .h = some (.hp H)) (hle : G.le G') (hkn : G'.kn = G.kn) (hobn : ∀ id b, G'.ob id = some b → ∃ i, G.ob i = some b) (hok' : dz G' w H') (hft : ∀ b, aa G' H' w b → aa G H w b) :
  Rel E N G' L a w ((.h, .hp H') :: s) := by
 obtain ⟨H0, gH, hok, hmay⟩ := h.heap
 rw [hH] at gH; cases gH
 have hown : ∀ c b, owns ((.h, .hp H') :: s) L c b → owns s L c b := by
  intro c b hc
  cases c <;> simp only [owns, get, reduceCtorEq, if_false] at hc ⊢ <;> exact hc
 refine ⟨h.size, h.defs, h.ge, by rw [hkn]; exact h.kn, by rw [hkn]; exact h.old, fun id b e => ⟨hle.ob _ _ (h.obs id b e).1, (hle.sz _ _ (h.obs id b e).1).trans (h.obs id b e).2⟩, fun id b e => ?_, h.fr, fun n x g => (h.slot n x (by simpa [get] using g)).mono hle, fun j cv g hl => ?_, fun j m el esz xs g => ?_,
  fun c d b hc hd => h.disj c d b (hown _ _ hc) (hown _ _ hd), ⟨H', rfl, hok', fun b hb => hmay b (hft b hb)⟩, fun c b hc H2 g2 e2 => ?_, fun j g => h.nobox j (by simpa [get] using g), fun j g => h.notok j (by simpa [get] using g)⟩
 ·obtain ⟨i, e2⟩ := hobn id b e
  exact h.obn i b e2
 ·have g' : get s (.b j) = some cv := by simpa [get] using g
  exact (h.box j cv g' hl).stay hle (fun id b e => .inl (hobn id b e)) (fun _ _ => rfl) (fun b2 p1 o => by rw [hkn])
 ·have g' : get s (.t j) = some (.tk m el esz xs) := by simpa [get] using g
  exact (h.tok j m el esz xs g').stay hle (fun id b e => .inl (hobn id b e)) (fun _ _ _ _ => rfl) (fun v b2 hv hb2 o => by rw [hkn])
 ·simp [get] at g2
  subst g2
  exact h.hdisj c b (hown _ _ hc) H hH (hft b e2)
theorem Rel.Ou {E : eB} {G : Gh} {L : Loc} {a : Act} {w : World} (h : Rel E N G L a w s) {H : Hp} (hH : get s .h = some (.hp H)) (id : Nat) : Rel E N G L a w ((.h, .hp (H.del id)) :: s) := by
 obtain ⟨H0, gH, hok, hmay⟩ := h.heap
 rw [hH] at gH; cases gH
 obtain ⟨h1, h2, h3⟩ := hok.del id
 exact h.zw hH (Gh.le.refl G) rfl (fun id b e => ⟨id, e⟩) h1 h3
theorem Rel.Ov {E : eB} {G : Gh} {L : Loc} {a : Act} {w : World} (h : Rel E N G L a w s) {H : Hp} (hH : get s .h = some (.hp H)) {id : Nat} {xs ys : List AV} (ho : H.obj id = some ((xs ++ ys).map .v)) : Rel E N G L a w ((.h, .hp (H.set id (xs.map .v))) :: s) := by
 obtain ⟨H0, gH, hok, hmay⟩ := h.heap
 rw [hH] at gH; cases gH
 have hobj : ∀ i hs2, (H.set id (xs.map .v)).obj i = some hs2 → (i = id ∧ hs2 = xs.map .v) ∨ (i ≠ id ∧ H.obj i = some hs2) := by
  intro i hs2 e
  by_cases e2 : i = id
  ·have e3 : (if i = id then some (xs.map Hc.v) else H.obj i) = some hs2 := e
   rw [if_pos e2] at e3; cases e3; exact .inl ⟨e2, rfl⟩
  ·have e3 : (if i = id then some (xs.map Hc.v) else H.obj i) = some hs2 := e
   rw [if_neg e2] at e3; exact .inr ⟨e2, e3⟩
 have hl : ∀ i, (∃ c, (H.set id (xs.map .v)).obj i = some c) → ∃ c, H.obj i = some c := by
  rintro i ⟨c, k⟩
  rcases hobj _ _ k with ⟨rfl, _⟩ | ⟨_, p⟩
  ·exact ⟨_, ho⟩
  ·exact ⟨_, p⟩
 have hhr : ∀ i j b, bw G (H.set id (xs.map .v)) w i j b → bw G H w i j b := by
  rintro i j b ⟨cs2, el, esz, ys2, b0, arr2, t2, fr, q1, q2, q3, q4, q5⟩
  rcases hobj _ _ q1 with ⟨rfl, rfl⟩ | ⟨e1, e2⟩
  ·rw [List.getElem?_map] at q2
   cases hx : xs[j]? with
   | none => rw [hx] at q2; cases q2
   | some y => rw [hx] at q2; cases q2
  ·exact ⟨cs2, el, esz, ys2, b0, arr2, t2, fr, e2, q2, q3, q4, q5⟩
 refine h.zw hH (Gh.le.refl G) rfl (fun id b e => ⟨id, e⟩) ⟨hok.lt, fun i i' b e e' k k' => hok.inj i i' b e e' (hl i k) (hl i' k'), fun i cs e => ?_, fun i j b hr => ?_⟩ (fun b hf => ?_)
 ·rcases hobj _ _ e with ⟨rfl, rfl⟩ | ⟨e1, e2⟩
  ·obtain ⟨blk, arr, el, q1, q2, q3, q4, q5⟩ := hok.obj _ _ ho
   refine ⟨blk, arr, el, q1, q2, ⟨?_, q3.2⟩, fun j x hx => q4 j x ?_, q5⟩
   ·have := q3.1; simp only [List.length_map, List.length_append] at this ⊢; omega
   ·rw [List.map_append, List.getElem?_append_left (List.getElem?_eq_some_iff.1 hx).1]; exact hx
  ·exact hok.obj i cs e2
 ·obtain ⟨q1, q2⟩ := hok.apart i j b (hhr _ _ _ hr)
  exact ⟨q1, fun i' j' hr' => q2 i' j' (hhr _ _ _ hr')⟩
 ·rcases hf with ⟨i, k, e⟩ | ⟨i, j, k⟩
  ·exact .inl ⟨i, hl i k, e⟩
  ·exact .inr ⟨i, j, hhr _ _ _ k⟩
theorem Rel.NF {E : eB} {G : Gh} {L : Loc} {a : Act} {w : World} (h : Rel E N G L a w s) {H : Hp} (hH : get s .h = some (.hp H)) {id blk : Nat} {xs : List AV} (ho : H.obj id = some (xs.map .v)) (hb : G.ob id = some blk) :
  ∃ G', G'.ob H.next = some blk ∧ G'.sz H.next = G.sz id ∧ G.le G' ∧ Rel E N G' L a w ((.h, .hp ((H.del id).new (xs.map .v))) :: s) := by
 obtain ⟨H0, gH, hok, hmay⟩ := h.heap
 rw [hH] at gH; cases gH
 let G' := G.qO H.next blk (G.sz id)
 have hnew : ∀ b, G.ob H.next ≠ some b := fun b e => by have := (hok.lt _ _ e).1; omega
 have hidlt := (hok.lt _ _ hb).1
 have hle : G.le G' := ⟨fun b o v e => e, fun i b e => by
  show (if i = H.next then some blk else G.ob i) = some b
  rw [if_neg (fun (e2 : i = H.next) => hnew b (by rw [← e2]; exact e))]; exact e, fun i b e => by
  show (if i = H.next then G.sz id else G.sz i) = G.sz i
  rw [if_neg (fun (e2 : i = H.next) => hnew b (by rw [← e2]; exact e))]⟩
 have hob : ∀ i b, G'.ob i = some b → (i = H.next ∧ b = blk) ∨ (i ≠ H.next ∧ G.ob i = some b) := by
  intro i b e
  have e3 : (if i = H.next then some blk else G.ob i) = some b := e
  by_cases e2 : i = H.next
  ·rw [if_pos e2] at e3; cases e3; exact .inl ⟨e2, rfl⟩
  ·rw [if_neg e2] at e3; exact .inr ⟨e2, e3⟩
 have hob1 : G'.ob H.next = some blk := by show (if H.next = H.next then some blk else G.ob H.next) = some blk; rw [if_pos rfl]
 have hobj : ∀ i cs, ((H.del id).new (xs.map .v)).obj i = some cs → (i = H.next ∧ cs = xs.map .v) ∨ (i ≠ H.next ∧ i ≠ id ∧ H.obj i = some cs) := by
  intro i cs e
  have e3 : (if i = H.next then some (xs.map Hc.v) else if i = id then none else H.obj i) = some cs := e
  by_cases e1 : i = H.next
  ·rw [if_pos e1] at e3; cases e3; exact .inl ⟨e1, rfl⟩
  ·rw [if_neg e1] at e3
   by_cases e2 : i = id
   ·rw [if_pos e2] at e3; cases e3
   ·rw [if_neg e2] at e3; exact .inr ⟨e1, e2, e3⟩
 have hhr : ∀ i j b, bw G' ((H.del id).new (xs.map .v)) w i j b → bw G H w i j b := by
  rintro i j b ⟨cs2, el, esz, ys2, b0, arr2, t2, fr, q1, q2, q3, q4, q5⟩
  rcases hobj _ _ q1 with ⟨rfl, rfl⟩ | ⟨e1, _, e2⟩
  ·rw [List.getElem?_map] at q2
   cases hx : xs[j]? with
   | none => rw [hx] at q2; cases q2
   | some y => rw [hx] at q2; cases q2
  ·rcases hob _ _ q3 with ⟨e4, _⟩ | ⟨_, e4⟩
   ·exact absurd e4 e1
   ·exact ⟨cs2, el, esz, ys2, b0, arr2, t2, fr, e2, q2, e4, q4, q5⟩
 have hobn : ∀ i b, G'.ob i = some b → ∃ i', G.ob i' = some b := fun i b e => by
  rcases hob i b e with ⟨_, rfl⟩ | ⟨_, e2⟩
  ·exact ⟨id, hb⟩
  ·exact ⟨i, e2⟩
 refine ⟨G', hob1, by show (if H.next = H.next then G.sz id else _) = _; rw [if_pos rfl], hle, h.zw hH hle rfl hobn ⟨fun i b e => ?_, fun i i' b e e' ⟨c, k⟩ ⟨c', k'⟩ => ?_, fun i cs e => ?_, fun i j b hr => ?_⟩ (fun b hf => ?_)⟩
 ·rcases hob i b e with ⟨rfl, rfl⟩ | ⟨_, e2⟩
  ·exact ⟨Nat.lt_succ_self _, (hok.lt _ _ hb).2⟩
  ·exact ⟨Nat.lt_succ_of_lt (hok.lt _ _ e2).1, (hok.lt _ _ e2).2⟩
 ·rcases hobj _ _ k with ⟨rfl, _⟩ | ⟨n1, n2, k1⟩ <;> rcases hobj _ _ k' with ⟨rfl, _⟩ | ⟨m1, m2, k2⟩
  ·rfl
  ·rw [hob1] at e; cases e
   rcases hob _ _ e' with ⟨e4, _⟩ | ⟨_, e4⟩
   ·exact absurd e4 m1
   ·exact absurd (hok.inj _ _ _ e4 hb ⟨_, k2⟩ ⟨_, ho⟩) m2
  ·rw [hob1] at e'; cases e'
   rcases hob _ _ e with ⟨e4, _⟩ | ⟨_, e4⟩
   ·exact absurd e4 n1
   ·exact absurd (hok.inj _ _ _ e4 hb ⟨_, k1⟩ ⟨_, ho⟩) n2
  ·rcases hob _ _ e with ⟨e4, _⟩ | ⟨_, e4⟩
   ·exact absurd e4 n1
   ·rcases hob _ _ e' with ⟨e5, _⟩ | ⟨_, e5⟩
    ·exact absurd e5 m1
    ·exact hok.inj _ _ _ e4 e5 ⟨_, k1⟩ ⟨_, k2⟩
 ·rcases hobj _ _ e with ⟨rfl, rfl⟩ | ⟨e1, _, e2⟩
  ·obtain ⟨b2, arr, el, q1, q2, q3, q4, q5⟩ := hok.obj _ _ ho
   rw [hb] at q1; cases q1
   refine ⟨blk, arr, el, hob1, q2, ⟨q3.1, q3.2.trans (by show _ = (if H.next = H.next then G.sz id else _); rw [if_pos rfl])⟩, fun j x hx => ?_, q5⟩
   have := q4 j x hx
   rw [List.getElem?_map] at hx
   cases hv : xs[j]? with
   | none => rw [hv] at hx; cases hx
   | some y => rw [hv] at hx; cases hx; exact ⟨this.1, V.mono hle this.2⟩
  ·obtain ⟨b2, arr, el, q1, q2, q3, q4, q5⟩ := hok.obj _ _ e2
   refine ⟨b2, arr, el, hle.ob _ _ q1, q2, ⟨q3.1, q3.2.trans (hle.sz _ _ q1).symm⟩, fun j x hx => ?_, q5⟩
   have := q4 j x hx
   cases x with
   | v a => exact ⟨this.1, V.mono hle this.2⟩
   | row el2 esz ys =>
    have hr : fG G w true el2 esz (arr.getD j undef) ys := this
    exact hr.stay hle (fun _ _ => rfl) (fun _ _ _ => rfl)
 ·obtain ⟨q1, q2⟩ := hok.apart i j b (hhr _ _ _ hr)
  refine ⟨fun i' e => ?_, fun i' j' hr' => q2 i' j' (hhr _ _ _ hr')⟩
  obtain ⟨i2, e2⟩ := hobn i' b e
  exact q1 i2 e2
 ·rcases hf with ⟨i, ⟨cs, k⟩, e⟩ | ⟨i, j, k⟩
  ·rcases hobj _ _ k with ⟨rfl, _⟩ | ⟨n1, _, k1⟩
   ·rw [hob1] at e; cases e
    exact .inl ⟨id, ⟨_, ho⟩, hb⟩
   ·rcases hob _ _ e with ⟨e4, _⟩ | ⟨_, e4⟩
    ·exact absurd e4 n1
    ·exact .inl ⟨i, ⟨_, k1⟩, e4⟩
  ·exact .inr ⟨i, j, hhr _ _ _ k⟩
theorem Rel.MM {E : eB} {G : Gh} {L : Loc} {a : Act} {w w1 : World} (hr : Rel E N G L a w s) (hg : w.grownBy w1 none) (hw : w1.heap.size = w.heap.size) {H : Hp} (hH : get s .h = some (.hp H)) (hd : get s (.b d) = none) {arr : Array Value} {el : TypeId} {zs : List AV} (hz : arr.size = zs.length)
  (hc : ∀ (j : Nat) x, zs[j]? = some x → x.flat = true ∧ V G (arr.getD j undef) x) :
  ∃ G' L', G'.ob H.next = some w.heap.size ∧ Rel E N G' L' a (w1.alloc (.cells arr el)) ((.h, .hp (H.new (zs.map .v))) :: (.b d, .gone) :: s) := by
 obtain ⟨hle, hr1⟩ := hr.known hg (Nat.le_refl _) (cells := []) (fun o v e => by simp at e)
 have hok : iM (G.add w.heap.size []) (L.cM d w1.heap.size) (.cells arr el) (.bx (zs.map .v)) := by
  refine ⟨_, _, rfl, by simpa using hz, fun j y e => ?_⟩
  simp only [List.getElem?_map] at e
  cases hx : zs[j]? with
  | none => rw [hx] at e; cases e
  | some x =>
   rw [hx] at e; cases e
   exact ⟨(hc j x hx).1, V.mono hle (hc j x hx).2⟩
 have hr2 := hr1.alloc d hd (.cells arr el) (.bx (zs.map .v)) rfl rfl hok
 obtain ⟨G', hr3⟩ := hr2.qO (k := d) (cs := zs.map .v) (H := H) (by simp [get]) (by simpa [get] using hH)
 have hcs : nA ((.b d, .ob H.next (zs.map .v)) :: (.h, .hp ⟨H.next + 1, H.obj⟩) :: (.b d, .bx (zs.map .v)) :: s) (zs.map .v) = some (zs.map .v) := by
  generalize ((.b d, .ob H.next (zs.map .v)) :: (.h, .hp ⟨H.next + 1, H.obj⟩) :: (.b d, .bx (zs.map .v)) :: s : St) = s0
  clear hr3 hr2 hok hz hc
  induction zs with
  | nil => rfl
  | cons x l ih => simp only [List.map_cons, nA, DE, ih]
 have hro : rowsOf (zs.map .v) = [] := by
  clear hr3 hr2 hok hz hc hcs
  induction zs with
  | nil => rfl
  | cons x l ih => simp only [List.map_cons, rowsOf, ih]
 have hr4 := hr3.cls (k := d) (id := H.next) (hs := zs.map .v) (H := ⟨H.next + 1, H.obj⟩) (by simp [get]) (by simp [get]) hcs (by rw [hro]; exact List.nodup_nil)
 obtain ⟨blk, o, b1, b2, b3, b4, b5, b6⟩ := hr3.box d (.ob H.next (zs.map .v)) (by simp [get]) rfl
 have hb6 : G'.ob H.next = some blk := b6
 have hbl : blk = w.heap.size := by
  have : (L.cM d w1.heap.size).box d = some blk := b1
  simp [Loc.cM] at this
  rw [← this, hw]
 refine ⟨G', _, by rw [hb6, hbl], hr4.ext fun c => ?_⟩
 rw [hro]
 simp only [c7, List.nil_append, get]
 by_cases e1 : aI.h = c
 ·subst e1; simp; rfl
 ·by_cases e2 : aI.b d = c
  ·subst e2; simp
  ·simp [e1, e2]
theorem Jc {arr : Array Value} {k : Nat} {news : List Value} (h : k + news.length ≤ arr.size) (j : Nat) :
  (arr.toList.take k ++ news ++ arr.toList.drop (k + news.length)).toArray.getD j undef = if j < k then arr.getD j undef else if j < k + news.length then news.getD (j - k) undef else arr.getD j undef := by
 have := E7 (cs := arr.toList) (l := news) (k := k) (j := j) (by simpa using h)
 unfold LP at this
 simp only [Array.getD_eq_getD_getElem?, List.getElem?_toArray, this, List.getD_eq_getElem?_getD]
 split
 ·simp
 ·split
  ·rfl
  ·simp
theorem AU {G : Gh} {i : TypeInfo} {z : Value} {el : TypeId} {zs : List AV} (hi : P.info? el = some i) (hzz : i.zero = some z) (hz : cE P el = some zs) : ∀ v ∈ z.cells, v.oneCell' = true := by
 unfold cE at hz
 rw [hi] at hz
 simp only [hzz] at hz
 obtain ⟨q1, q2⟩ := j6 G hz
 intro v hv
 obtain ⟨j, hj, rfl⟩ := Array.mem_iff_getElem.1 hv
 have hj2 : j < zs.length := by rw [← q1]; simpa using hj
 obtain ⟨q3, q4⟩ := q2 j _ (List.getElem?_eq_getElem hj2)
 have := q4.fX q3
 simpa [List.getD_eq_getElem?_getD, List.getElem?_eq_getElem (show j < z.cells.toList.length by simpa using hj)] using this
theorem Hp.JJ {H : Hp} {id : Nat} {cs : List Hc} (h : id ≠ H.next) : (H.new cs).del id = (H.del id).new cs := by
 simp only [Hp.new, Hp.set, Hp.del]
 congr 1
 funext k
 by_cases h1 : k = H.next
 ·subst h1; simp [Ne.symm h]
 ·simp [h1]
theorem Rel.BW {E : eB} {G : Gh} {L : Loc} {a : Act} {w : World} (h : Rel E N G L a w s) {d : Nat} (hd : get s (.b d) = none) : Rel E N G L a w ((.b d, .gone) :: s) := by
 have hown : ∀ c b, owns ((.b d, .gone) :: s) L c b → owns s L c b := by
  intro c b hc
  by_cases e : c = .b d
  ·subst e
   obtain ⟨⟨cv, g, hl⟩, _⟩ := hc
   simp [get] at g; subst g; cases hl
  ·exact dM e hc
 refine ⟨h.size, h.defs, h.ge, h.kn, h.old, h.obs, h.obn, h.fr, fun n x g => h.slot n x (by simpa [get] using g), fun j cv g hl => ?_, fun j m el esz xs g => h.tok j m el esz xs (by simpa [get] using g), fun c e b hc he => h.disj c e b (hown _ _ hc) (hown _ _ he), by simpa [get] using h.heap, fun c b hc H g => h.hdisj c b (hown _ _ hc) H (by simpa [get] using g), fun j g => ?_, fun j g => h.notok j (by simpa [get] using g)⟩
 ·by_cases e : j = d
  ·subst e; simp [get] at g; subst g; cases hl
  ·exact h.box j cv (by simpa [get, Ne.symm e] using g) hl
 ·by_cases e : j = d
  ·subst e; simp [get] at g
  ·exact h.nobox j (by simpa [get, Ne.symm e] using g)
theorem Rel.vo {E : eB} {G : Gh} {L : Loc} {a : Act} {w w1 : World} (hr : Rel E N G L a w s) (hg : w.grownBy w1 none) (hw : w1.heap.size = w.heap.size) {H : Hp} (hH : get s .h = some (.hp H)) (hd : get s (.b d) = none) {arr : Array Value} {el : TypeId} {zs : List AV} (hz : zs.length ≤ arr.size)
  (hc : ∀ (j : Nat) x, zs[j]? = some x → x.flat = true ∧ V G (arr.getD j undef) x) (hone : ∀ j, zs.length ≤ j → j < arr.size → (arr.getD j undef).oneCell' = true) :
  ∃ G' L', G'.ob H.next = some w.heap.size ∧ G'.sz H.next = arr.size ∧ Rel E N G' L' a (w1.alloc (.cells arr el)) ((.h, .hp (H.new (zs.map .v))) :: (.b d, .gone) :: s) := by
 obtain ⟨G', L', h1, h2⟩ := hr.MM hg hw hH hd (arr := arr) (el := el) (zs := zs ++ List.replicate (arr.size - zs.length) .junk) (by simp; omega) (fun j x e => by
  by_cases hj : j < zs.length
  ·rw [List.getElem?_append_left hj] at e; exact hc j x e
  ·rw [List.getElem?_append_right (by omega)] at e
   have hv : x = .junk := List.eq_of_mem_replicate (List.mem_of_getElem? e)
   subst hv
   have := (List.getElem?_eq_some_iff.1 e).1
   rw [List.length_replicate] at this
   exact ⟨rfl, V.junk _ (hone j (by omega) (by omega))⟩)
 refine ⟨G', L', h1, ?_, ?_⟩
 ·obtain ⟨H0, gH, hok, _⟩ := h2.heap
  simp [get] at gH; subst gH
  obtain ⟨blk, arr2, el2, q1, q2, q3, _⟩ := hok.obj H.next _ (Hp.dd _ _)
  rw [h1] at q1; cases q1
  have : (w1.alloc (.cells arr el)).heap[w.heap.size]? = some (.cells arr el (0, 0)) := by rw [show (w1.alloc (.cells arr el)).heap = w1.heap.push (.cells arr el (0, 0)) from rfl, ← hw, Array.getElem?_push_size]
  rw [this] at q2; cases q2
  exact q3.2.symm
 ·have h3 := h2.Ov (H := H.new ((zs ++ List.replicate (arr.size - zs.length) AV.junk).map .v)) (id := H.next) (xs := zs) (ys := List.replicate (arr.size - zs.length) AV.junk) (by simp [get]) (Hp.dd _ _)
  rw [Hp.JI] at h3
  refine h3.ext fun c => ?_
  simp only [get]
  split
  ·rfl
  ·rfl
theorem qc {w : World} {t ty e : Nat} {i : TypeInfo} (ht : P.underlying t = some (.slice e)) (hi : P.info? e = some i) (b n cap : Nat) (hn : n ≤ cap) (A : Option Addr) (c : Nat) :
  (Builtin.append_ #[t, t] ty #[.slice (some ⟨b, 0, none⟩) n cap, .slice A 0 c]).run P w = .ok (.slice (some ⟨b, 0, none⟩) n cap) w := by
 have hfc : ∀ (sz : Nat), (Builtin.firstCells sz 0 (.slice A 0 c)).run P w = .ok #[] w := by
  intro sz
  cases A <;> simp [Builtin.firstCells, loadCells, loadCellsFrom]
 simp [Builtin.append_, run_underlying ht, sizeOf, typeInfo, hi, Builtin.lenOf, hfc, hn, storeCells]
def Src (G : Gh) (w : World) (v : Value) (esz : Nat) (ys : List AV) : Prop :=
 (ys = [] ∧ ∃ A c, v = .slice A 0 c) ∨ ∃ ad c news, v = .slice (some ad) ys.length c ∧ news.length = ys.length * esz ∧ (∀ (j : Nat) u, news[j]? = some u → w.cell? (ad.add j) = some u) ∧ (∀ u ∈ news, u.oneCell' = true) ∧ Lay G esz ys news
theorem xZ {t1 el esz by_ : Nat} {x y : Operand} {id n : Nat} {xs ys zs : List AV} {H : Hp} (hN : d < N) (ht : se P t1 = some (el, esz, by_)) (hz : cE P el = some zs) (hx : cV x s = some (.os id n esz)) (hH : get s .h = some (.hp H)) (ho : H.obj id = some (xs.map .v)) (hl : xs.length = n * esz)
  (Ry : List aI) (hes : ∀ e ∈ ys, e.cells.length = esz) (hsrc : ∀ E G L a w t, Rel E N G L a w t → Reads Ry s t → 0 < esz → Src G w (a.eval y) esz ys) (hd : get s (.b d) = none) (hb : (n + ys.length) * by_ ≤ 140737488355328) (h63 : n + ys.length ≤ 9223372036854775807) :
  aW P N ⟨some d, .call { callee := .builtin .append, args := #[x, y], argTypes := #[t1, t1] }, ty, pos, af, g⟩ s (rd x ++ (Ry ++ [.h, .b d]))
   [(.s d, .sv (.v (.os H.next (n + ys.length) esz))), (.h, .hp ((H.del id).new ((xs ++ ys.flatMap AV.cells).map .v))), (.b d, .gone)] := by
 intro t hR E G L a w hr K QQ hK
 have hH' : get t .h = some (.hp H) := by rw [hR .h (by simp)]; exact hH
 have hd' : get t (.b d) = none := by rw [hR (.b d) (by simp)]; exact hd
 obtain ⟨i, z, hu, hi, hzz, hzs, hsz, hby, hpos⟩ := nM ht
 subst hsz
 subst hby
 have hv := aT hr hR.left hx
 have hVy := hsrc E G L a w t hr hR.right.left hpos
 generalize hav : a.eval x = u at hv
 cases hv
 rename_i blk cap hob hnc hcz
 obtain ⟨H0, gH, hokH, hmay⟩ := hr.heap
 rw [hH'] at gH; cases gH
 obtain ⟨blk0, arr, el1, p1, p2, p3, p4, p5⟩ := hokH.obj id _ ho
 rw [hob] at p1; cases p1
 rw [List.length_map, hl] at p3
 have hne : id ≠ H.next := by have := (hokH.lt _ _ hob).1; omega
 have hxa : xs.length ≤ arr.size := by rw [hl]; exact p3.1
 have hcell : ∀ (j : Nat) v, (xs)[j]? = some v → v.flat = true ∧ V G (arr.getD j undef) v := fun j v e => by
  have := p4 j (.v v) (by rw [List.getElem?_map, e]; rfl)
  exact this
 rcases hVy with ⟨e, A, c, hay⟩ | ⟨ad, c2, news, hay, hnl, hnews, hone, hLy⟩
 ·subst e
  have hrun := qc (P := P) (w := w) (ty := ty) hu hi blk n cap hnc A c
  unfold Oper.wp
  have he : (execOp a.eval ⟨some d, .call { callee := .builtin .append, args := #[x, y], argTypes := #[t1, t1] }, ty, pos, af, g⟩).run P w = .ok (.value (.slice (some ⟨blk, 0, none⟩) n cap)) w := by
   simp only [execOp, resolve, invoke, builtin, Sem.run_bind, Sem.run_pure, Result.andThen_ok, List.map_toArray, List.map_cons, List.map_nil, hav, hay, hrun]
  rw [he]
  obtain ⟨G', q1, q2, q3, q4⟩ := (hr.BW hd').NF (H := H) (by simpa [get] using hH') ho hob
  refine hK _ _ G' L (((q4.put d hN _ (.v (.os H.next n i.size)) (V.os H.next _ _ _ _ q1 hnc (by rw [q2]; exact hcz)))).ext fun c => ?_)
  simp [get]
 ·have hfl : (ys.flatMap AV.cells).length = ys.length * i.size := dC hes
  have hnews2 : ∀ (j : Nat) v, (ys.flatMap AV.cells)[j]? = some v → v.flat = true ∧ V G (news.getD j undef) v := fun j v e => Lay.flat hLy hpos j v e
  unfold Oper.wp
  by_cases hroom : n + ys.length ≤ cap
  ·have hfit : n * i.size + news.length ≤ arr.size := by
    rw [hnl, ← Nat.add_mul, p3.2]; exact Nat.le_trans (Nat.mul_le_mul_right _ hroom) hcz
   have hrun := pH (P := P) (w := w) t1 ty el el1 i hu hi blk n cap arr p2 ad ys.length c2 news hnl hnews hone hroom hfit
   have he : (execOp a.eval ⟨some d, .call { callee := .builtin .append, args := #[x, y], argTypes := #[t1, t1] }, ty, pos, af, g⟩).run P w = .ok (.value (.slice (some ⟨blk, 0, none⟩) (n + ys.length) cap)) (w.setRow blk (arr.toList.take (n * i.size) ++ news ++ arr.toList.drop (n * i.size + news.length)).toArray) := by
    simp only [execOp, resolve, invoke, builtin, Sem.run_bind, Sem.run_pure, Result.andThen_ok, List.map_toArray, List.map_cons, List.map_nil, hav, hay, hrun]
   rw [he]
   have hr2 := hr.nr (cs' := (xs ++ ys.flatMap AV.cells).map .v) (arr' := (arr.toList.take (n * i.size) ++ news ++ arr.toList.drop (n * i.size + news.length)).toArray) (w' := w.setRow blk _) hH' ho hob p2 rfl rfl rfl (size_setRow w blk _) (fun j hj => setRow_other w blk j _ hj) (setRow_heap w blk arr _ el1 (0, 0) p2)
    ⟨by simp; omega, by simp only [List.length_map, List.length_append, hl, hfl, List.size_toArray, List.length_take, List.length_drop, Array.length_toList]; omega⟩
    (fun j y e => by
     rw [List.getElem?_map] at e
     cases hg : (xs ++ ys.flatMap AV.cells)[j]? with
     | none => rw [hg] at e; cases e
     | some v =>
      rw [hg] at e; cases e
      show v.flat = true ∧ V G _ v
      rw [Jc hfit, hnl]
      by_cases hj : j < n * i.size
      ·rw [if_pos hj]
       rw [List.getElem?_append_left (by omega)] at hg
       exact hcell j v hg
      ·rw [if_neg hj]
       rw [List.getElem?_append_right (by omega), hl] at hg
       have := (List.getElem?_eq_some_iff.1 hg).1
       rw [if_pos (by omega)]
       exact hnews2 _ v hg)
    (fun j el esz ys2 e => by
     rw [List.getElem?_map] at e
     cases hg : (xs ++ ys.flatMap AV.cells)[j]? with
     | none => rw [hg] at e; cases e
     | some v => rw [hg] at e; cases e)
   obtain ⟨G', q1, q2, q3, q4⟩ := (hr2.BW (d := d) (by simpa [get] using hd')).NF (H := H.set id ((xs ++ ys.flatMap AV.cells).map .v)) (id := id) (by simp [get]) Hp.bN hob
   have hdd : (H.set id ((xs ++ ys.flatMap AV.cells).map .v)).del id = H.del id := by
    simp only [Hp.set, Hp.del]
    congr 1
    funext k
    by_cases h1 : k = id
    ·simp [h1]
    ·simp [h1]
   rw [hdd] at q4
   refine hK _ _ G' L (((q4.put d hN _ (.v (.os H.next (n + ys.length) i.size)) (V.os H.next _ _ _ _ q1 hroom (by have q2' : G'.sz H.next = G.sz id := q2; rw [q2']; exact hcz)))).ext fun c => ?_)
   simp only [List.cons_append, List.nil_append, get]
   split
   ·rfl
   ·split
    ·rfl
    ·rfl
  ·have hlo : (arr.toList.take (n * i.size)).length = n * i.size := by
    rw [List.length_take, Array.length_toList]; omega
   have hrun := run_append_grow (P := P) (w := w) t1 ty el i z hu hi hzz ⟨blk, 0, none⟩ n cap (arr.toList.take (n * i.size)) hlo (fun j v e => by
    rw [List.getElem?_take] at e
    split at e
    ·rw [Addr.add_lit, Nat.zero_add, cell_of_row w blk j arr el1 (0, 0) p2]
     simpa using e
    ·cases e) ad ys.length c2 news hnl hnews (by omega) (by omega) (growslice_fits (by omega) hb)
   have he : (execOp a.eval ⟨some d, .call { callee := .builtin .append, args := #[x, y], argTypes := #[t1, t1] }, ty, pos, af, g⟩).run P w = .ok (.value (.slice (some ⟨w.heap.size, 0, none⟩) (n + ys.length) (grownCap w (n + ys.length) cap el))) (w.drew.alloc (.cells ((arr.toList.take (n * i.size)).toArray ++ news.toArray ++ Builtin.zeroCells z.cells (grownCap w (n + ys.length) cap el - (n + ys.length))) el)) := by
    simp only [execOp, resolve, invoke, builtin, Sem.run_bind, Sem.run_pure, Result.andThen_ok, List.map_toArray, List.map_cons, List.map_nil, hav, hay, hrun]
   rw [he]
   have hge := grownCap_ge w (n + ys.length) cap el
   have hzone := AU (G := G) hi hzz hz
   have hsz : ((arr.toList.take (n * i.size)).toArray ++ news.toArray ++ Builtin.zeroCells z.cells (grownCap w (n + ys.length) cap el - (n + ys.length))).size = grownCap w (n + ys.length) cap el * i.size := by
    simp only [Array.size_append, List.size_toArray, size_zeroCells, hzs, hlo, hnl]
    rw [← Nat.add_mul, ← Nat.add_mul]
    congr 1; omega
   have hlt2 : n * i.size + ys.length * i.size ≤ grownCap w (n + ys.length) cap el * i.size := by rw [← Nat.add_mul]; exact Nat.mul_le_mul_right _ hge
   obtain ⟨G', L', hob', hsz', hr2⟩ := hr.vo (w1 := w.drew) ⟨rfl, rfl, rfl, Nat.le_refl _, fun _ _ _ => rfl⟩ rfl hH' hd' (el := el) (arr := (arr.toList.take (n * i.size)).toArray ++ news.toArray ++ Builtin.zeroCells z.cells (grownCap w (n + ys.length) cap el - (n + ys.length))) (zs := xs ++ ys.flatMap AV.cells) (by rw [hsz, List.length_append, hl, hfl]; exact hlt2) (fun j v e => by
    by_cases h1 : j < n * i.size
    ·rw [List.getElem?_append_left (by omega)] at e
     have := hcell j v e
     refine ⟨this.1, ?_⟩
     rw [Array.getD_eq_getD_getElem?, Array.append_assoc, Array.getElem?_append_left (by simp only [List.size_toArray, hlo]; exact h1)]
     rw [Array.getD_eq_getD_getElem?] at this
     simpa [List.getElem?_take, h1] using this.2
    ·rw [List.getElem?_append_right (by omega), hl] at e
     have h2 := (List.getElem?_eq_some_iff.1 e).1
     have := hnews2 _ v e
     refine ⟨this.1, ?_⟩
     rw [Array.getD_eq_getD_getElem?, Array.append_assoc, Array.getElem?_append_right (by simp only [List.size_toArray, hlo]; omega), Array.getElem?_append_left (by simp only [List.size_toArray, hlo, hnl]; omega)]
     simp only [List.size_toArray, hlo, List.getElem?_toArray]
     rw [← List.getD_eq_getElem?_getD]
     exact this.2) (fun j h1 h2 => by
    rw [List.length_append, hl, hfl] at h1
    rw [hsz] at h2
    have hlt : j - (n * i.size + ys.length * i.size) < (Builtin.zeroCells z.cells (grownCap w (n + ys.length) cap el - (n + ys.length))).size := by
     rw [size_zeroCells, hzs, Nat.sub_mul, Nat.add_mul]; omega
    rw [Array.getD_eq_getD_getElem?, Array.getElem?_append_right (by simp only [Array.size_append, List.size_toArray, hlo, hnl]; omega)]
    simp only [Array.size_append, List.size_toArray, hlo, hnl]
    rw [Array.getElem?_eq_getElem hlt]
    exact oR hzone _ _ (Array.getElem_mem hlt))
   have hr3 := hr2.Ou (H := H.new ((xs ++ ys.flatMap AV.cells).map .v)) (by simp [get]) id
   rw [Hp.JJ hne] at hr3
   refine hK _ _ G' L' (((hr3.put d hN _ (.v (.os H.next (n + ys.length) i.size)) (V.os H.next _ _ _ _ hob' hge (by rw [hsz', hsz]; exact Nat.le_refl _)))).ext fun c => ?_)
   simp only [List.cons_append, List.nil_append, get]
   split
   ·rfl
   ·split
    ·rfl
    ·rfl
theorem Iy {t1 el esz by_ : Nat} {x y : Operand} {id n : Nat} {xs ys zs : List AV} {H : Hp} (hN : d < N) (ht : se P t1 = some (el, esz, by_)) (hz : cE P el = some zs) (hx : cV x s = some (.os id n esz)) (hH : get s .h = some (.hp H)) (ho : H.obj id = some (xs.map .v)) (hl : xs.length = n * esz)
  (hy : cV y s = some (.sl ys)) (hok : cg esz ys = true) (hd : get s (.b d) = none) (hb : (n + ys.length) * by_ ≤ 140737488355328) (h63 : n + ys.length ≤ 9223372036854775807) :
  aW P N ⟨some d, .call { callee := .builtin .append, args := #[x, y], argTypes := #[t1, t1] }, ty, pos, af, g⟩ s (rd x ++ (rd y ++ [.h, .b d]))
   [(.s d, .sv (.v (.os H.next (n + ys.length) esz))), (.h, .hp ((H.del id).new ((xs ++ ys.flatMap AV.cells).map .v))), (.b d, .gone)] :=
 xZ hN ht hz hx hH ho hl (rd y) (fun e he => (jF hok e he).1) (fun E G L a w t hr hR hp => pr hr.kn (aT hr hR hy) hok hp) hd hb h63
theorem FN {t1 el esz by_ : Nat} {x y : Operand} {id n id2 n2 : Nat} {xs ys zs : List AV} {H : Hp} (hN : d < N) (ht : se P t1 = some (el, esz, by_)) (hz : cE P el = some zs) (hx : cV x s = some (.os id n esz)) (hH : get s .h = some (.hp H)) (ho : H.obj id = some (xs.map .v)) (hl : xs.length = n * esz)
  (hy : cV y s = some (.os id2 n2 esz)) (ho2 : H.obj id2 = some ((ys.flatMap AV.cells).map .v)) (hes : ∀ e ∈ ys, e.cells.length = esz) (hn2 : ys.length = n2) (hd : get s (.b d) = none) (hb : (n + ys.length) * by_ ≤ 140737488355328) (h63 : n + ys.length ≤ 9223372036854775807) :
  aW P N ⟨some d, .call { callee := .builtin .append, args := #[x, y], argTypes := #[t1, t1] }, ty, pos, af, g⟩ s (rd x ++ ((rd y ++ [.h]) ++ [.h, .b d]))
   [(.s d, .sv (.v (.os H.next (n + ys.length) esz))), (.h, .hp ((H.del id).new ((xs ++ ys.flatMap AV.cells).map .v))), (.b d, .gone)] := by
 refine xZ hN ht hz hx hH ho hl (rd y ++ [.h]) hes (fun E G L a w t hr hR hp => ?_) hd hb h63
 have hv := aT hr hR.left hy
 generalize a.eval y = u at hv
 cases hv
 rename_i blk cap hob hnc hcz
 obtain ⟨H0, gH, hokH, hmay⟩ := hr.heap
 rw [hR .h (by simp), hH] at gH; cases gH
 obtain ⟨blk0, arr, el1, p1, p2, p3, p4, p5⟩ := hokH.obj id2 _ ho2
 rw [hob] at p1; cases p1
 have hfl : (ys.flatMap AV.cells).length = ys.length * esz := dC hes
 rw [List.length_map, hfl] at p3
 have hcell : ∀ (j : Nat) v, (ys.flatMap AV.cells)[j]? = some v → v.flat = true ∧ V G (arr.getD j undef) v := fun j v e => p4 j (.v v) (by rw [List.getElem?_map, e]; rfl)
 by_cases h0 : ys = []
 ·subst h0
  exact .inl ⟨rfl, _, _, by rw [← hn2]; rfl⟩
 ·refine .inr ⟨⟨blk, 0, none⟩, cap, arr.toList.take (ys.length * esz), by rw [hn2], by rw [List.length_take, Array.length_toList]; exact Nat.min_eq_left p3.1, fun j v e => ?_, fun v hv => ?_, fun i e hi => hes e (List.mem_of_getElem? hi), fun i e j c hi hj => ?_⟩
  ·rw [List.getElem?_take] at e
   split at e
   ·rw [Addr.add_lit, Nat.zero_add, cell_of_row w blk j arr el1 (0, 0) p2]
    simpa using e
   ·cases e
  ·obtain ⟨j, hj⟩ := List.mem_iff_getElem?.1 hv
   have hj2 : j < ys.length * esz := by
    have h1 := (List.getElem?_eq_some_iff.1 hj).1
    rw [List.length_take] at h1
    exact Nat.lt_of_lt_of_le h1 (Nat.min_le_left _ _)
   have hlt : j < (ys.flatMap AV.cells).length := by rw [hfl]; exact hj2
   obtain ⟨q1, q2⟩ := hcell j _ (List.getElem?_eq_getElem hlt)
   have := q2.fX q1
   rw [List.getElem?_take, if_pos hj2, Array.getElem?_toList] at hj
   rw [Array.getD_eq_getD_getElem?, hj] at this
   exact this
  ·have hlt := (List.getElem?_eq_some_iff.1 hi).1
   have hec := hes e (List.mem_of_getElem? hi)
   have hjl : j < esz := by rw [← hec]; exact (List.getElem?_eq_some_iff.1 hj).1
   have hg := jZ hes i j e hi hjl
   rw [hj] at hg
   obtain ⟨q1, q2⟩ := hcell _ _ hg
   refine ⟨q1, ?_⟩
   have hidx : i * esz + j < ys.length * esz := by
    have := Nat.mul_le_mul_right esz (Nat.succ_le_of_lt hlt)
    rw [Nat.succ_mul] at this; omega
   rw [List.getD_eq_getElem?_getD, List.getElem?_take, if_pos hidx, Array.getElem?_toList, ← Array.getD_eq_getD_getElem?]
   exact q2
theorem Iz {t1 el esz by_ : Nat} {x y : Operand} {ys zs : List AV} {H : Hp} (hN : d < N) (ht : se P t1 = some (el, esz, by_)) (hz : cE P el = some zs) (hx : cV x s = some .nsl) (hH : get s .h = some (.hp H))
  (hy : cV y s = some (.sl ys)) (hok : cg esz ys = true) (h0 : ys ≠ []) (hd : get s (.b d) = none) (hb : ys.length * by_ ≤ 140737488355328) (h63 : ys.length ≤ 9223372036854775807) :
  aW P N ⟨some d, .call { callee := .builtin .append, args := #[x, y], argTypes := #[t1, t1] }, ty, pos, af, g⟩ s (rd x ++ (rd y ++ [.h, .b d]))
   [(.s d, .sv (.v (.os H.next ys.length esz))), (.h, .hp (H.new ((ys.flatMap AV.cells).map .v))), (.b d, .gone)] := by
 intro t hR E G L a w hr K QQ hK
 have hH' : get t .h = some (.hp H) := by rw [hR .h (by simp)]; exact hH
 have hd' : get t (.b d) = none := by rw [hR (.b d) (by simp)]; exact hd
 obtain ⟨i, z, hu, hi, hzz, hzs, hsz, hby, hpos⟩ := nM ht
 subst hsz
 subst hby
 have hv := aT hr hR.left hx
 have hVy := aT hr hR.right.left hy
 generalize hav : a.eval x = u at hv
 cases hv
 have hm : 0 < ys.length := by cases ys with | nil => exact absurd rfl h0 | cons a l => simp
 rcases pr hr.kn hVy hok hpos with ⟨e, _⟩ | ⟨ad, c2, news, hay, hnl, hnews, hone, hLy⟩
 ·exact absurd e h0
 ·have hfl : (ys.flatMap AV.cells).length = ys.length * i.size := dC fun e he => (jF hok e he).1
  have hnews2 : ∀ (j : Nat) v, (ys.flatMap AV.cells)[j]? = some v → v.flat = true ∧ V G (news.getD j undef) v := fun j v e => Lay.flat hLy hpos j v e
  unfold Oper.wp
  have hrun := run_append_nil (P := P) w t1 ty el i z hu hi hzz ad ys.length c2 news hnl hnews hm (by omega) (by omega)
  have he : (execOp a.eval ⟨some d, .call { callee := .builtin .append, args := #[x, y], argTypes := #[t1, t1] }, ty, pos, af, g⟩).run P w = .ok (.value (.slice (some ⟨w.heap.size, 0, none⟩) ys.length (grownCap w ys.length 0 el))) (w.drew.alloc (.cells (news.toArray ++ Builtin.zeroCells z.cells (grownCap w ys.length 0 el - ys.length)) el)) := by
   simp only [execOp, resolve, invoke, builtin, Sem.run_bind, Sem.run_pure, Result.andThen_ok, List.map_toArray, List.map_cons, List.map_nil, hav, hay, hrun]
  rw [he]
  have hge := grownCap_ge w ys.length 0 el
  have hzone := AU (G := G) hi hzz hz
  have hsz : (news.toArray ++ Builtin.zeroCells z.cells (grownCap w ys.length 0 el - ys.length)).size = grownCap w ys.length 0 el * i.size := by
   simp only [Array.size_append, List.size_toArray, size_zeroCells, hzs, hnl]
   rw [← Nat.add_mul]
   congr 1; omega
  have hlt2 : ys.length * i.size ≤ grownCap w ys.length 0 el * i.size := Nat.mul_le_mul_right _ hge
  obtain ⟨G', L', hob', hsz', hr2⟩ := hr.vo (w1 := w.drew) ⟨rfl, rfl, rfl, Nat.le_refl _, fun _ _ _ => rfl⟩ rfl hH' hd' (el := el) (arr := news.toArray ++ Builtin.zeroCells z.cells (grownCap w ys.length 0 el - ys.length)) (zs := ys.flatMap AV.cells) (by rw [hsz, hfl]; exact hlt2) (fun j v e => by
   have h2 := (List.getElem?_eq_some_iff.1 e).1
   have := hnews2 _ v e
   refine ⟨this.1, ?_⟩
   rw [Array.getD_eq_getD_getElem?, Array.getElem?_append_left (by simp only [List.size_toArray, hnl]; omega)]
   simp only [List.getElem?_toArray]
   rw [← List.getD_eq_getElem?_getD]
   exact this.2) (fun j h1 h2 => by
   rw [hfl] at h1
   rw [hsz] at h2
   have hlt : j - ys.length * i.size < (Builtin.zeroCells z.cells (grownCap w ys.length 0 el - ys.length)).size := by
    rw [size_zeroCells, hzs, Nat.sub_mul]; omega
   rw [Array.getD_eq_getD_getElem?, Array.getElem?_append_right (by simp only [List.size_toArray, hnl]; omega)]
   simp only [List.size_toArray, hnl]
   rw [Array.getElem?_eq_getElem hlt]
   exact oR hzone _ _ (Array.getElem_mem hlt))
  exact hK _ _ G' L' (hr2.put d hN _ (.v (.os H.next ys.length i.size)) (V.os H.next _ _ _ _ hob' hge (by rw [hsz', hsz]; exact Nat.le_refl _)))
theorem FA {t1 el esz by_ n : Nat} {ps : List (Nat × Operand)} {«as» zs : List AV} {H : Hp} (hN : d < N) (ht : se P t1 = some (el, esz, by_)) (hz : cE P el = some zs) (hq : ld ps s = some (eT 0 «as»)) (hn : «as».length = n) (hok : cg esz «as» = true) (hlen : «as».length * esz ≤ 16777216) (hH : get s .h = some (.hp H)) (hd : get s (.b d) = none) :
  aW P N ⟨some d, .buildSlice t1 n ps.toArray, ty, pos, af, g⟩ s (nO (ps.map (·.2)) ++ [.h, .b d]) [(.s d, .sv (.v (.os H.next n esz))), (.h, .hp (H.new ((«as».flatMap AV.cells).map .v))), (.b d, .gone)] := by
 subst hn
 intro t hR E G L a w hr K Q hK
 obtain ⟨arr, hrun, hsz, hL⟩ := vR hr ht hz hR.left hq hok hlen
 obtain ⟨_, _, _, _, _, _, _, _, hpos⟩ := nM ht
 have hfl : («as».flatMap AV.cells).length = «as».length * esz := dC fun e he => (jF hok e he).1
 obtain ⟨G', L', hob, hsz', hr2⟩ := hr.vo (d := d) (w1 := w) ⟨rfl, rfl, rfl, Nat.le_refl _, fun _ _ _ => rfl⟩ rfl (show get t .h = some (.hp H) by rw [hR .h (by simp)]; exact hH) (show get t (.b d) = none by rw [hR (.b d) (by simp)]; exact hd) (arr := arr) (el := el) (zs := «as».flatMap AV.cells) (by rw [hsz, hfl]; exact Nat.le_refl _) (fun j x e => by
  have := Lay.flat hL hpos j x e
  refine ⟨this.1, ?_⟩
  rw [Array.getD_eq_getD_getElem?, ← Array.getElem?_toList, ← List.getD_eq_getElem?_getD]
  exact this.2) (fun j h1 h2 => by rw [hfl] at h1; rw [hsz] at h2; omega)
 unfold Oper.wp
 have he : (execOp a.eval ⟨some d, .buildSlice t1 «as».length ps.toArray, ty, pos, af, g⟩).run P w = .ok (.value (.slice (some ⟨w.heap.size, 0, none⟩) «as».length «as».length)) (w.alloc (.cells arr el)) := by
  simp only [execOp, Sem.run_bind, hrun, Result.andThen_ok, Sem.run_pure]
 rw [he]
 exact hK _ _ G' L' (hr2.put d hN _ (.v (.os H.next «as».length esz)) (V.os H.next _ _ _ _ hob (Nat.le_refl _) (by rw [hsz', hsz]; exact Nat.le_refl _)))
end
theorem Rel.Ni {E : eB} {N : Nat} {G : Gh} {L : Loc} {a : Act} {w : World} {s : St} (h : Rel E N G L a w s) {H : Hp} {id blk : Nat} {xs : List AV} (hH : get s .h = some (.hp H)) (ho : H.obj id = some (xs.map .v)) (hb : G.ob id = some blk) :
  ∃ G', G.le G' ∧ Rel E N G' L a w ((.h, .hp (H.del id)) :: s) ∧ ∀ (j : Nat) x, xs[j]? = some x → ∃ v, G'.kn blk j = some v ∧ x.flat = true ∧ V G' v x := by
 obtain ⟨H0, gH, hok, hmay⟩ := h.heap
 rw [hH] at gH; cases gH
 obtain ⟨blk0, arr, el, p1, hh, hsz, hc, hno⟩ := hok.obj id _ ho
 rw [hb] at p1; cases p1
 have hmine : aa G H w blk := .inl ⟨id, ⟨_, ho⟩, hb⟩
 let G' := G.add blk arr.toList
 have hle : G.le G' := Gh.tY (fun o v e => by rw [hno o] at e; cases e)
 have hkn2 : ∀ c j, c ≠ blk → G'.kn c j = G.kn c j := fun c j e => by simp [G', Gh.add, e]
 obtain ⟨d1, d2, d3⟩ := hok.del id
 have hfb : ∀ c, aa G (H.del id) w c → c ≠ blk := by
  rintro c (⟨i, ⟨hs, q1⟩, q2⟩ | ⟨i, j, q1⟩) rfl
  ·have e3 : (if i = id then none else H.obj i) = some hs := q1
   by_cases ei : i = id
   ·rw [if_pos ei] at e3; cases e3
   ·rw [if_neg ei] at e3
    exact ei (hok.inj i id _ q2 hb ⟨hs, e3⟩ ⟨_, ho⟩)
  ·exact (d1.apart i j c q1).1 id hb
 have hown : ∀ c b, owns ((.h, .hp (H.del id)) :: s) L c b → owns s L c b := by
  intro c b hc
  cases c <;> simp only [owns, get, reduceCtorEq, if_false] at hc ⊢ <;> exact hc
 have hne : ∀ c b, owns s L c b → b ≠ blk := fun c b hc e => h.hdisj c b hc H hH (e ▸ hmine)
 have hst := d1.stay (w' := w) hle rfl (fun c hc o => (hkn2 c o (hfb c hc)).trans ((d1.aa hc).2 o)) (fun c hc => rfl) (Nat.le_refl _)
 refine ⟨G', hle, ⟨h.size, h.defs, h.ge, ?_, ?_, h.obs, h.obn, h.fr, ?_, ?_, ?_, fun c d b hc hd => h.disj c d b (hown _ _ hc) (hown _ _ hd), ⟨H.del id, rfl, hst.1, fun b hb2 => hmay b (d3 b ((hst.2 b).1 hb2))⟩, fun c b hc H2 g2 e2 => ?_, ?_, ?_⟩, ?_⟩
 ·intro b j v e
  by_cases eb : b = blk
  ·subst eb
   rw [pq] at e
   rw [cell_of_row w b j arr el (0, 0) hh]
   simpa using e
  ·rw [hkn2 b j eb] at e; exact h.kn b j v e
 ·intro b j hlt hm
  rw [hkn2 b j (fun e => by
   subst e
   rcases hmay b hmine with e | e
   ·omega
   ·exact hm e)]
  exact h.old b j hlt hm
 ·intro n x g
  exact (h.slot n x (by simpa [get] using g)).mono hle
 ·intro j cv g hl
  have g' : get s (.b j) = some cv := by simpa [get] using g
  exact (h.box j cv g' hl).stay hle (fun _ _ e => .inl ⟨_, e⟩) (fun _ _ => rfl) (fun b2 p1 o => hkn2 b2 o (hne (.b j) b2 ⟨⟨cv, g', hl⟩, p1⟩))
 ·intro j m el' esz' ys g
  have g' : get s (.t j) = some (.tk m el' esz' ys) := by simpa [get] using g
  exact (h.tok j m el' esz' ys g').stay hle (fun _ _ e => .inl ⟨_, e⟩) (fun _ _ _ _ => rfl) (fun v b2 hv hb2 o => hkn2 b2 o (hne (.t j) b2 ⟨⟨_, _, _, _, g'⟩, v, hv, hb2⟩))
 ·simp [get] at g2
  subst g2
  exact h.hdisj c b (hown _ _ hc) H hH (d3 b ((hst.2 b).1 e2))
 ·intro j g; exact h.nobox j (by simpa [get] using g)
 ·intro j g; exact h.notok j (by simpa [get] using g)
 ·intro j x e
  have := hc j (.v x) (by rw [List.getElem?_map, e]; rfl)
  have hlt : j < arr.size := by have h1 := (List.getElem?_eq_some_iff.1 e).1; have h2 := hsz.1; rw [List.length_map] at h2; omega
  refine ⟨arr.getD j undef, ?_, this.1, V.mono hle this.2⟩
  rw [pq, Array.getElem?_toList, Array.getD_eq_getD_getElem?, Array.getElem?_eq_getElem hlt]; rfl
theorem Bk {G G' : Gh} {id n c esz : Nat} {v : Value} {ys : List AV} (hv : V G v (.os id n c)) {blk : Nat} (hob : G.ob id = some blk) {xs : List AV} (hkn : ∀ (j : Nat) x, xs[j]? = some x → ∃ v, G'.kn blk j = some v ∧ x.flat = true ∧ V G' v x)
  (hes : ∀ e ∈ ys, e.cells.length = esz) (hx : ys.flatMap AV.cells = xs.take (ys.length * esz)) (hn : n ≤ ys.length) : V G' v (.sl (ys.take n)) := by
 cases hv
 rename_i b cap hb hc hz
 rw [hob] at hb; cases hb
 have key : ∀ (i : Nat) (e : AV) (j : Nat) (c : AV), (ys.take n)[i]? = some e → e.cells[j]? = some c → xs[i * esz + j]? = some c := by
  intro i e j c' h1 h2
  rw [List.getElem?_take] at h1
  split at h1
  ·rename_i hi
   have he := hes e (List.mem_of_getElem? h1)
   have hj : j < esz := by rw [← he]; exact (List.getElem?_eq_some_iff.1 h2).1
   have h3 := jZ hes i j e h1 hj
   rw [h2, hx, List.getElem?_take] at h3
   split at h3
   ·exact h3
   ·cases h3
  ·cases h1
 have hlen : (ys.take n).length = n := by rw [List.length_take]; omega
 have := V.slN (G := G') blk 0 cap esz (ys.take n) (fun i j => (G'.kn blk (i * esz + j)).getD undef) (by rw [hlen]; exact hc) (fun i e h => hes e (List.mem_of_mem_take (List.mem_of_getElem? h)))
  (fun i e j c' h1 h2 => by
   obtain ⟨v, q1, q2, q3⟩ := hkn _ _ (key i e j c' h1 h2)
   rw [Nat.zero_add, q1]; rfl)
  (fun i e j c' h1 h2 => by
   obtain ⟨v, q1, q2, q3⟩ := hkn _ _ (key i e j c' h1 h2)
   exact q2)
  (fun i e j c' h1 h2 => by
   obtain ⟨v, q1, q2, q3⟩ := hkn _ _ (key i e j c' h1 h2)
   rw [q1]; exact q3)
 rwa [hlen] at this
theorem V.NW {G : Gh} {v : Value} {id n c : Nat} (h : V G v (.os id n c)) : ∃ blk, G.ob id = some blk := by
 cases h
 exact ⟨_, by assumption⟩
theorem Kept.M1 {s : St} {Q : St → Prop} (A j : Nat) {id n c esz : Nat} {H : Hp} {cs : List Hc} {xs ys : List AV} (hH : get s .h = some (.hp H)) (hA : H.obj A = some cs) (hj : cs[j]? = some (.v (.os id n c))) (ho : H.obj id = some (xs.map .v)) (hne : A ≠ id)
  (hes : ∀ e ∈ ys, e.cells.length = esz) (hx : ys.flatMap AV.cells = xs.take (ys.length * esz)) (hn : n ≤ ys.length) (h : Kept ((.h, .hp ((H.del id).set A (cs.set j (.v (.sl (ys.take n)))))) :: (.h, .hp (H.del id)) :: s) Q) : Kept s Q := fun E N a w ⟨G, L, hr⟩ => by
 obtain ⟨H0, gH, hok, hmay⟩ := hr.heap
 rw [hH] at gH; cases gH
 obtain ⟨blkA, arr, el, a1, a2, a3, a4, a5⟩ := hok.obj A cs hA
 have hv : V G (arr.getD j undef) (.os id n c) := (a4 j _ hj).2
 obtain ⟨blk, hob⟩ := hv.NW
 obtain ⟨G', hle, hr', hkn⟩ := hr.Ni hH ho hob
 have hA' : (H.del id).obj A = some cs := by
  show (if A = id then none else H.obj A) = some cs
  rw [if_neg hne]; exact hA
 obtain ⟨H1, gH1, hok1, _⟩ := hr'.heap
 simp [get] at gH1; subst gH1
 obtain ⟨b2, arr2, el2, q1, q2, q3, q4, q5⟩ := hok1.obj A cs hA'
 rw [hle.ob _ _ a1] at q1; cases q1
 rw [a2] at q2; cases q2
 have hlt : j < cs.length := (List.getElem?_eq_some_iff.1 hj).1
 refine h E N a w ⟨G', L, hr'.nr (w' := w) (arr' := arr) (by simp [get]) hA' (hle.ob _ _ a1) a2 rfl rfl rfl rfl (fun _ _ => rfl) a2 ⟨rfl, by simpa using a3.1⟩ (fun i x e => ?_) (fun i el esz zs e => ?_)⟩
 ·by_cases hi : i = j
  ·subst hi
   rw [List.getElem?_set_self hlt] at e; cases e
   exact ⟨rfl, Bk hv hob hkn hes hx hn⟩
  ·rw [List.getElem?_set_ne (by omega)] at e
   exact q4 i x e
 ·by_cases hi : i = j
  ·subst hi
   rw [List.getElem?_set_self hlt] at e; cases e
  ·rw [List.getElem?_set_ne (by omega)] at e
   exact ⟨e, rfl⟩
def iL (P : Program) (f : FuncId) (args : List AV) (H : Hp) (Post : AV → Hp → Prop) : Prop :=
 ∀ G w cargs, GE ⟨G, w, aa G H w, []⟩ → fx G w → dz G w H → VL G cargs args → Calls P f cargs w fun e w' =>
  ∃ v G' r H', Post r H' ∧ e = .returned v ∧ V G' v r ∧ nf (aa G H w) G G' w ∧ fx G' w' ∧ dz G' w' H' ∧ Fr (aa G H w) w w' ∧ ∀ b, aa G' H' w' b → w.heap.size ≤ b ∨ aa G H w b
theorem cB.Hq {P : Program} {f : FuncId} {args : List AV} {H H' : Hp} {r : AV} {Post : AV → Hp → Prop} (h : cB P f args H r H') (hp : Post r H') : iL P f args H Post := fun G w cargs hg hk hH hV =>
 (h G w cargs hg hk hH hV).mono fun e w' ⟨v, G', he, h1, rest⟩ => ⟨v, G', r, H', hp, he, h1, rest⟩
theorem iL.ah {P : Program} {f : FuncId} {fn : Func} {c : Code} {N : Nat} {args : List AV} {H : Hp} {Post : AV → Hp → Prop} (hf : P.funcs[f]? = some fn) (hb : fn.body = some c) (hN : fn.ntmps = N) (hle : args.length ≤ N)
  (h : aK P N c ((.h, .hp H) :: fF args 0) fun e s' => (e = .normal ∨ e = .ret) ∧ ∃ r H', Post r H' ∧ aM P fn s' r ∧ get s' .h = some (.hp H')) : iL P f args H Post := by
 intro G w cargs hg hk hH hV
 refine calls_of_wp hf hb ?_
 have h0 := uf hN hle hg hk hH hV
 refine wp_mono (h ⟨G, w, aa G H w, []⟩ _ w h0) ?_
 rintro e a' w' ⟨s', ⟨G', L', hr⟩, he, r, H', hP, hres, hh⟩
 obtain ⟨v, hv, hV'⟩ := hres _ _ _ _ _ _ hr
 obtain ⟨H2, g, hok, hmay⟩ := hr.heap
 rw [hh] at g; cases g
 have hpost : ∃ v2 G' r H', Post r H' ∧ Ending.returned v = .returned v2 ∧ V G' v2 r ∧ nf (aa G H w) G G' w ∧ fx G' w' ∧ dz G' w' H' ∧ Fr (aa G H w) w w' ∧ ∀ b, aa G' H' w' b → w.heap.size ≤ b ∨ aa G H w b :=
  ⟨v, G', r, H', hP, rfl, hV', ⟨hr.old, hr.obs, hr.obn⟩, hr.kn, hok, hr.fr, hmay⟩
 rcases he with rfl | rfl
 ·exact ⟨hr.defs, v, hv, hpost⟩
 ·exact ⟨hr.defs, v, hv, hpost⟩
section
variable {P : Program} {N : Nat} {s : St} {d : Nat} {ty : TypeId} {pos : String} {af : Array Edge} {g : Option (Nat × Bool)}
theorem aD.B8 {ops : Array Oper} {l : List Oper} {Q : St → Prop} {f : FuncId} {xs : Array Operand} {tys : Array TypeId} {«as» : List AV} {H : Hp} {Post : AV → Hp → Prop} (hN : d < N) (hf : gj P f = true) (hH : get s .h = some (.hp H)) (ha : kY xs.toList s = some «as») (hp : iL P f «as» H Post)
  (h : ∀ r H', Post r H' → aD P N ops l ((.s d, .sv (.v r)) :: (.h, .hp H') :: s) Q) : aD P N ops (⟨some d, .call { callee := .value (.func f), args := xs, argTypes := tys }, ty, pos, af, none⟩ :: l) s Q := by
 refine aD.many rfl (fun ws => ∃ r H', Post r H' ∧ ws = [(.s d, .sv (.v r)), (.h, .hp H')]) (fun E G L a w hr K QQ hK => ?_) (fun ws ⟨r, H', h1, h2⟩ => by subst h2; exact h r H' h1)
 obtain ⟨cargs, he, hV⟩ := j3 (ty := ty) (pos := pos) (af := af) (g := none) hf ha (dst := some d) E G L a w s hr (fun _ _ => rfl)
 obtain ⟨H2, hH2, hok, hmay⟩ := hr.heap
 rw [hH] at hH2; cases hH2
 unfold Oper.wp
 rw [he]
 refine (hp G w cargs (hr.vx hH) hr.kn hok hV).mono ?_
 rintro e w' ⟨v, G', r, H', hP, rfl, hv, hx, hkn, hok', hf', hft⟩
 exact hK v w' G' L _ ⟨r, H', hP, rfl⟩ ((hr.called hH hx hkn hok' hf' hft).put d hN v (.v r) hv)
end
set_option maxRecDepth 100000
open Go
def PK : TT := (.node (.node (.node (.node (.node (.node .nil ⟨2, some (false, 1), some [.int .i64 0], none, none, [], 4, some .i64⟩ .nil) ⟨3, some (false, 1), some [.int .i64 0], none, none, [], 4, some .i64⟩ (.node .nil ⟨4, some (false, 1), some [.bool false], none, none, [], 3, none⟩ .nil)) ⟨5, some (false, 1), some [.int .u8 0], none, none, [], 4, some .u8⟩ (.node (.node .nil ⟨9, some (false, 1), some [.str []], none, none, [], 2, none⟩ .nil) ⟨21, some (false, 1), some [.int .i32 0], none, none, [], 4, some .i32⟩ .nil)) ⟨22, some (false, 1), some [.sl []], none, some (109, 2, 40), [], 1, none⟩ (.node (.node (.node .nil ⟨23, some (false, 1), some [.sl []], none, some (73, 3, 64), [], 1, none⟩ .nil) ⟨25, some (true, 2), some [.sl [], .sl []], some [(0, 1), (1, 1)], none, [some 0, some 1], 4, none⟩ .nil) ⟨26, some (false, 1), some [.sl []], none, some (102, 12, 168), [], 1, none⟩ (.node (.node .nil ⟨28, some (true, 3), some [.sl [], .sl [], .sl []], some [(0, 2), (2, 1)], none, [some 0, some 2], 4, none⟩ .nil) ⟨29, some (false, 1), some [.sl []], none, some (78, 2, 32), [], 1, none⟩ .nil))) ⟨30, some (false, 1), some [.sl []], none, some (130, 4, 40), [], 1, none⟩ (.node (.node (.node (.node .nil ⟨32, some (true, 2), some [.sl [], .sl []], some [(0, 1), (1, 1)], none, [some 0, some 1], 4, none⟩ .nil) ⟨35, some (false, 1), some [.sl []], none, some (62, 7, 128), [], 1, none⟩ .nil) ⟨37, some (true, 1), some [.sl []], some [(0, 1)], none, [some 0], 4, none⟩ (.node (.node .nil ⟨54, some (false, 1), some [.sl []], none, some (32, 2, 48), [], 1, none⟩ .nil) ⟨58, some (false, 1), some [.sl []], none, some (117, 9, 88), [], 1, none⟩ .nil)) ⟨59, some (false, 1), some [.sl []], none, some (86, 13, 144), [], 1, none⟩ (.node (.node (.node .nil ⟨60, some (false, 1), some [.sl []], none, some (3, 1, 8), [], 1, none⟩ .nil) ⟨62, some (true, 7), some [.str [], .sl [], .sl [], .sl [], .int .i64 0, .sl [], .bool false], some [(0, 1), (1, 1), (2, 1), (3, 1), (4, 1), (5, 1), (6, 1)], none, [some 0, some 1, some 2, some 3, some 4, some 5, some 6], 4, none⟩ .nil) ⟨64, some (false, 1), some [.sl []], none, some (25, 2, 48), [], 1, none⟩ (.node (.node .nil ⟨71, some (false, 1), some [.sl []], none, some (88, 7, 72), [], 1, none⟩ .nil) ⟨73, some (true, 3), some [.str [], .sl [], .sl []], some [(0, 1), (1, 1), (2, 1)], none, [some 0, some 1, some 2], 4, none⟩ .nil)))) ⟨76, some (false, 1), some [.sl []], none, some (81, 3, 48), [], 1, none⟩ (.node (.node (.node (.node (.node .nil ⟨78, some (true, 2), some [.int .i64 0, .sl []], some [(0, 1), (1, 1)], none, [some 0, some 1], 4, none⟩ .nil) ⟨79, some (false, 1), some [.int .u64 0], none, none, [], 4, some .u64⟩ .nil) ⟨81, some (true, 3), some [.int .u64 0, .str [], .sl []], some [(0, 1), (1, 1), (2, 1)], none, [some 0, some 1, some 2], 4, none⟩ (.node (.node .nil ⟨86, some (true, 13), some [.int .i64 0, .int .i64 0, .int .i64 0, .int .i64 0, .int .i64 0, .int .i64 0, .int .i64 0, .int .u64 0, .int .i64 0, .sl [], .int .u64 0, .str [], .sl []], some [(0, 1), (1, 1), (2, 1), (3, 1), (4, 1), (5, 1), (6, 1), (7, 1), (8, 1), (9, 1), (10, 3)], none, [some 0, some 1, some 2, some 3, some 4, some 5, some 6, some 7, some 8, some 9, some 10], 4, none⟩ .nil) ⟨88, some (true, 7), some [.str [], .int .i64 0, .int .i64 0, .str [], .bool false, .bool false, .str []], some [(0, 1), (1, 1), (2, 1), (3, 1), (4, 1), (5, 1), (6, 1)], none, [some 0, some 1, some 2, some 3, some 4, some 5, some 6], 4, none⟩ .nil)) ⟨89, some (false, 1), some [.nilp], none, none, [], 4, none⟩ (.node (.node (.node .nil ⟨92, some (false, 1), some [.sl []], none, some (95, 1, 24), [], 1, none⟩ .nil) ⟨94, some (true, 4), some [.int .i64 0, .sl [], .sl [], .bool false], some [(0, 1), (1, 1), (2, 1), (3, 1)], none, [some 0, some 1, some 2, some 3], 4, none⟩ .nil) ⟨95, some (false, 1), some [.sl []], none, some (97, 3, 32), [], 1, none⟩ (.node (.node .nil ⟨97, some (true, 3), some [.int .u64 0, .str [], .nilp], some [(0, 1), (1, 1), (2, 1)], none, [some 0, some 1, some 2], 4, none⟩ .nil) ⟨100, some (false, 1), some [.sl []], none, some (9, 1, 16), [], 1, none⟩ .nil))) ⟨102, some (true, 12), some [.int .i64 0, .str [], .str [], .str [], .str [], .int .i64 0, .int .i64 0, .int .i64 0, .sl [], .int .u64 0, .str [], .sl []], some [(0, 1), (1, 1), (2, 1), (3, 1), (4, 1), (5, 1), (6, 1), (7, 1), (8, 1), (9, 3)], none, [some 0, some 1, some 2, some 3, some 4, some 5, some 6, some 7, some 8, some 9], 4, none⟩ (.node (.node (.node (.node .nil ⟨107, some (false, 1), some [.sl []], none, some (111, 2, 24), [], 1, none⟩ .nil) ⟨109, some (true, 2), some [.str [], .sl []], some [(0, 1), (1, 1)], none, [some 0, some 1], 4, none⟩ .nil) ⟨111, some (true, 2), some [.str [], .int .i64 0], some [(0, 1), (1, 1)], none, [some 0, some 1], 4, none⟩ (.node (.node .nil ⟨117, some (true, 9), some [.str [], .int .i64 0, .int .i64 0, .str [], .bool false, .bool false, .str [], .int .i64 0, .int .i64 0], some [(0, 7), (7, 1), (8, 1)], none, [some 0, some 7, some 8], 4, none⟩ .nil) ⟨130, some (true, 4), some [.int .i64 0, .int .i64 0, .int .u64 0, .str []], some [(0, 1), (1, 1), (2, 1), (3, 1)], none, [some 0, some 1, some 2, some 3], 4, none⟩ .nil)) ⟨135, some (true, 2), some [.sl [], .bool false], some [(0, 1), (1, 1)], none, [some 0, some 1], 4, none⟩ (.node (.node (.node .nil ⟨199, some (true, 2), some [.int .i64 0, .int .u64 0], some [(0, 1), (1, 1)], none, [some 0, some 1], 4, none⟩ .nil) ⟨223, some (false, 1), some [.int .u64 0], none, none, [], 4, some .u64⟩ .nil) ⟨255, some (false, 1), some [.int .u32 0], none, none, [], 4, some .u32⟩ (.node (.node .nil ⟨281, some (true, 16), some [.int .i64 0, .int .i64 0, .int .i64 0, .int .i64 0, .int .i64 0, .int .i64 0, .int .i64 0, .int .i64 0, .int .i64 0, .int .i64 0, .int .i64 0, .int .i64 0, .int .i64 0, .int .i64 0, .int .i64 0, .int .i64 0], none, none, [], 4, none⟩ .nil) ⟨284, some (false, 1), none, none, none, [], 4, none⟩ .nil)))))
theorem II : PK.ok Tryz.prog := by unfold TT.ok; kernel_rfl
def FL : List Nat := [2, 7, 9, 11, 13, 14, 17, 18, 20, 21, 22, 25, 26, 27, 28, 31, 32, 33, 35, 36, 37, 38, 39, 40, 41, 42, 43, 44, 45, 46, 47, 48, 49, 52, 53, 54, 55, 57, 58, 59, 60, 61, 62, 63, 64, 65, 66, 67, 68, 69, 70, 71, 72, 73, 74, 75, 76, 77, 78, 79, 80, 81, 82, 83, 84, 85, 86, 87, 88, 89, 90, 91, 94, 95, 96, 97, 98, 100, 102, 105, 106, 107, 108, 109, 110, 111, 112, 113, 114, 115, 116, 117, 118, 119, 120, 121, 122, 123, 124, 125, 126, 128, 129, 130, 131, 132, 133, 134, 135, 136, 144, 147, 148, 149, 150, 151, 152, 156, 157, 158, 159, 160, 161, 162, 163, 164, 165, 167, 168, 169, 172, 173, 174, 192, 193, 194, 195, 196, 197, 198, 201, 202, 203, 213, 214, 215, 216, 217, 220, 221, 222, 223, 224, 225, 226]
theorem PL : FL.all (gj Tryz.prog) = true := by kernel_rfl
theorem Fn {f : Nat} (h : FL.any (Nat.beq f) = true) : gj Tryz.prog f = true :=
 let ⟨_, h1, h2⟩ := List.any_eq_true.1 h; Nat.eq_of_beq_eq_true h2 ▸ List.all_eq_true.1 PL _ h1
theorem Fits.told {E : eB} {N : Nat} {s : St} {a : Act} {w : World} {d : Nat} {b v : Bool} (h : Fits E N s a w) (hc : get s (.s d) = some (.sv (.v (.bool b)))) (e : b = v) : Fits E N ((.s d, .sv (.v (.bool v))) :: s) a w := by
 obtain ⟨G, L, hr⟩ := h
 refine ⟨G, L, hr.ext fun c => ?_⟩
 simp only [get]
 split
 ·rename_i hx; subst hx; rw [hc, e]
 ·rfl
theorem B4 {b : Bool} {A B : Prop} (h : cond b A B) : (b = true ∧ A) ∨ (b = false ∧ B) := by cases b <;> first | exact .inl ⟨rfl, h⟩ | exact .inr ⟨rfl, h⟩
structure aB (P : Program) (I : TT) (N : Nat) (ops : Array Oper) (l : List Oper) (s : St) (K : Nat → St → Prop) : Prop where
 h : I.ok P → P.follows .mixedOrders = true → aD P N ops l s fun s' => ∃ m, K m s'
structure aF (P : Program) (I : TT) (N : Nat) (ops : Array Oper) (A : List (List Nat)) (acc : List (List aI × St)) (l : List Oper) (s : St) (K : Nat → St → Prop) : Prop where
 h : I.ok P → P.follows .mixedOrders = true → aY P N ops A (fun s' => ∃ m, K m s') acc l s
structure aG (P : Program) (I : TT) (N : Nat) (c : Code) (s : St) (K : Nat → Exit → St → Prop) : Prop where
 h : I.ok P → P.follows .mixedOrders = true → aK P N c s fun e s' => ∃ m, K m e s'
inductive Gd where
 | go
 | off
 | ask (d : Nat) (c : Bool)
 | no
def DI (N : Nat) (ops : Array Oper) (o : Oper) (s : St) : Gd :=
 match o.guard with
 | none => .go
 | some _ => match gL ops o with
  | none => .no
  | some (d, b) => match get s (.s d) with
   | some (.sv (.v (.bool c))) => .ask d c
   | some (.sv (.v (.tup []))) => .off
   | _ => .no
def EC (P : Program) (I : TT) (N : Nat) (ops : Array Oper) (o : Oper) (l : List Oper) (n : Nat) (s : St) (K : Nat → St → Prop) (rec : Nat → St → (Nat → St → Prop) → Prop) : Prop :=
 match DI N ops o s with
 | .ask d c => cond c
  (match lW I N ops o ((.s d, .sv (.v (.bool true))) :: s) with
   | some (_, [a]) => rec n (a :: (.s d, .sv (.v (.bool true))) :: s) K
   | some (_, [a, b]) => rec n (a :: b :: (.s d, .sv (.v (.bool true))) :: s) K
   | _ => aB P I N ops (o :: l) ((.s d, .sv (.v (.bool true))) :: s) K)
  (match lW I N ops o ((.s d, .sv (.v (.bool false))) :: s) with
   | some (_, [a]) => rec n (a :: (.s d, .sv (.v (.bool false))) :: s) K
   | some (_, [a, b]) => rec n (a :: b :: (.s d, .sv (.v (.bool false))) :: s) K
   | _ => aB P I N ops (o :: l) ((.s d, .sv (.v (.bool false))) :: s) K)
 | .no => aB P I N ops (o :: l) s K
 | _ => match lW I N ops o s with
  | some (_, [a]) => rec n (a :: s) K
  | some (_, [a, b]) => rec n (a :: b :: s) K
  | _ => aB P I N ops (o :: l) s K
noncomputable def vw (P : Program) (I : TT) (N : Nat) (ops : Array Oper) (l : List Oper) : Nat → St → (Nat → St → Prop) → Prop :=
 List.rec (motive := fun _ => Nat → St → (Nat → St → Prop) → Prop) (fun n s K => K n s) (fun o l ih n s K => Nat.casesOn (motive := fun _ => Prop) n (aB P I N ops (o :: l) s K) fun n => EC P I N ops o l n s K ih) l
theorem ki {N : Nat} {ops : Array Oper} {o : Oper} {s : St} {d : Nat} {c : Bool} (h : DI N ops o s = .ask d c) : get s (.s d) = some (.sv (.v (.bool c))) := by
 unfold DI at h
 split at h
 ·cases h
 ·split at h
  ·cases h
  ·split at h
   ·rename_i e; cases h; exact e
   ·cases h
   ·cases h
section
variable {P : Program} {I : TT} {N : Nat} {ops : Array Oper} {l : List Oper} {o : Oper} {s : St}
theorem aD.nT {Q : St → Prop} {s1 : St} (hs : ∀ E a w, Fits E N s a w → Fits E N s1 a w) (h : aD P N ops l s1 Q) : aD P N ops l s Q := fun E a w hf => h E a w (hs E a w hf)
theorem aK.nT {c : Code} {Q : Exit → St → Prop} {s1 : St} (hs : ∀ E a w, Fits E N s a w → Fits E N s1 a w) (h : aK P N c s1 Q) : aK P N c s Q := fun E a w hf => h E a w (hs E a w hf)
theorem lS (hI : I.ok P) (hm : P.follows .mixedOrders = true) : ∀ {l : List Oper} {n : Nat} {s : St} {K : Nat → St → Prop}, vw P I N ops l n s K → aD P N ops l s fun s' => ∃ m, K m s'
 | [], n, s, K, h => aD.nil ⟨n, h⟩
 | o :: l, 0, s, K, h => aB.h h hI hm
 | o :: l, n + 1, s, K, h => by
  have step : ∀ {s : St}, (match lW I N ops o s with
   | some (_, [a]) => vw P I N ops l n (a :: s) K
   | some (_, [a, b]) => vw P I N ops l n (a :: b :: s) K
   | _ => aB P I N ops (o :: l) s K) → aD P N ops (o :: l) s fun s' => ∃ m, K m s' := fun {s} h => by
   split at h
   ·rename_i R a e; exact aD.step (iC hI e) (lS hI hm h)
   ·rename_i R a b e; exact aD.step (iC hI e) (lS hI hm h)
   ·exact h.h hI hm
  have h : EC P I N ops o l n s K (vw P I N ops l) := h
  unfold EC at h
  split at h
  ·rename_i d c e
   rcases B4 h with ⟨e2, h⟩ | ⟨e2, h⟩
   ·exact aD.nT (fun E a w hf => hf.told (ki e) e2) (step h)
   ·exact aD.nT (fun E a w hf => hf.told (ki e) e2) (step h)
  ·exact h.h hI hm
  ·exact step h
end
def EE (P : Program) (I : TT) (N : Nat) (ops : Array Oper) (A : List (List Nat)) (o : Oper) (l : List Oper) (n : Nat) (s : St) (acc : List (List aI × St)) (K : Nat → St → Prop) (rec : Nat → St → List (List aI × St) → (Nat → St → Prop) → Prop) : Prop :=
 match DI N ops o s with
 | .ask d c => cond c
  (match lW I N ops o ((.s d, .sv (.v (.bool true))) :: s) with
   | some (R, [a]) => rec n (a :: (.s d, .sv (.v (.bool true))) :: s) (acc ++ [(R, [a])]) K
   | some (R, [a, b]) => rec n (a :: b :: (.s d, .sv (.v (.bool true))) :: s) (acc ++ [(R, [a, b])]) K
   | _ => aF P I N ops A acc (o :: l) ((.s d, .sv (.v (.bool true))) :: s) K)
  (match lW I N ops o ((.s d, .sv (.v (.bool false))) :: s) with
   | some (R, [a]) => rec n (a :: (.s d, .sv (.v (.bool false))) :: s) (acc ++ [(R, [a])]) K
   | some (R, [a, b]) => rec n (a :: b :: (.s d, .sv (.v (.bool false))) :: s) (acc ++ [(R, [a, b])]) K
   | _ => aF P I N ops A acc (o :: l) ((.s d, .sv (.v (.bool false))) :: s) K)
 | .no => aF P I N ops A acc (o :: l) s K
 | _ => match lW I N ops o s with
  | some (R, [a]) => rec n (a :: s) (acc ++ [(R, [a])]) K
  | some (R, [a, b]) => rec n (a :: b :: s) (acc ++ [(R, [a, b])]) K
  | _ => aF P I N ops A acc (o :: l) s K
noncomputable def BX (P : Program) (I : TT) (N : Nat) (ops : Array Oper) (A : List (List Nat)) (l : List Oper) : Nat → St → List (List aI × St) → (Nat → St → Prop) → Prop :=
 List.rec (motive := fun _ => Nat → St → List (List aI × St) → (Nat → St → Prop) → Prop) (fun n s acc K => gE 0 acc A = true ∧ K n s) (fun o l ih n s acc K => Nat.casesOn (motive := fun _ => Prop) n (aF P I N ops A acc (o :: l) s K) fun n => EE P I N ops A o l n s acc K ih) l
theorem mO {P : Program} {I : TT} {N : Nat} {ops : Array Oper} {A : List (List Nat)} (hI : I.ok P) (hm : P.follows .mixedOrders = true) : ∀ {l : List Oper} {n : Nat} {s : St} {acc : List (List aI × St)} {K : Nat → St → Prop}, BX P I N ops A l n s acc K → aY P N ops A (fun s' => ∃ m, K m s') acc l s
 | [], n, s, acc, K, h => aY.nil h.1 (Kept.now ⟨n, h.2⟩)
 | o :: l, 0, s, acc, K, h => aF.h h hI hm
 | o :: l, n + 1, s, acc, K, h => by
  have step : ∀ {s : St}, (match lW I N ops o s with
   | some (R, [a]) => BX P I N ops A l n (a :: s) (acc ++ [(R, [a])]) K
   | some (R, [a, b]) => BX P I N ops A l n (a :: b :: s) (acc ++ [(R, [a, b])]) K
   | _ => aF P I N ops A acc (o :: l) s K) → aY P N ops A (fun s' => ∃ m, K m s') acc (o :: l) s := fun {s} h => by
   split at h
   ·rename_i R a e; exact aY.cons (iC hI e) (mO hI hm h)
   ·rename_i R a b e; exact aY.cons (iC hI e) (mO hI hm h)
   ·exact h.h hI hm
  have h : EE P I N ops A o l n s acc K (BX P I N ops A l) := h
  unfold EE at h
  split at h
  ·rename_i d c e
   rcases B4 h with ⟨e2, h⟩ | ⟨e2, h⟩
   ·exact aY.tell (ki e) (fun _ => step h) (fun e3 => by rw [e2] at e3; cases e3)
   ·exact aY.tell (ki e) (fun e3 => by rw [e2] at e3; cases e3) (fun _ => step h)
  ·exact h.h hI hm
  ·exact step h
abbrev Dd := Nat → Exit → St → Prop
def O5 (rec : Nat → St → Dd → Prop) (K : Dd) : Dd := fun m e s' => match e with | .normal => rec m s' K | e => K m e s'
def Ki (K : Dd) : Dd := fun m e s' => match e with | .goto _ => False | e => K m e s'
def Mh (id : Nat) (K : Dd) : Dd := fun m e s' => match e with | .exit id' => bif Nat.beq id' id then K m .normal s' else K m (.exit id') s' | e => K m e s'
def O6 (P : Program) (I : TT) (N : Nat) (ops : Array Oper) (dr : Bool) (n : Nat) (s : St) (K : Dd) : Prop := match dr with
 | false => vw P I N ops ops.toList n s fun m s' => K m .normal s'
 | true => fU 0 (ops.toList.map dD) = true ∧ BX P I N ops (qi [] (ops.toList.map dD)) ops.toList n s [] fun m s' => K m .normal s'
def G9 (P : Program) (I : TT) (N : Nat) (x : Operand) (c d : Code) (n : Nat) (s : St) (K : Dd) (r1 r2 : Nat → St → Dd → Prop) : Prop := match x with
 | .tmp t => match get s (.s t) with
  | some (.sv (.v (.bool b))) => cond b (r1 n ((.s t, .sv (.v (.bool true))) :: s) K) (r2 n ((.s t, .sv (.v (.bool false))) :: s) K)
  | _ => aG P I N (.cond x c d) s K
 | _ => aG P I N (.cond x c d) s K
noncomputable def zx (P : Program) (I : TT) (N : Nat) (c : Code) : Nat → St → Dd → Prop :=
 Code.rec (motive := fun _ => Nat → St → Dd → Prop)
  (fun n s K => Nat.casesOn (motive := fun _ => Prop) n (aG P I N .skip s K) fun n => K n .normal s)
  (fun id ops dr n s K => Nat.casesOn (motive := fun _ => Prop) n (aG P I N (.region id ops dr) s K) fun n => O6 P I N ops dr n s K)
  (fun c d r1 r2 n s K => Nat.casesOn (motive := fun _ => Prop) n (aG P I N (.seq c d) s K) fun n => r1 n s (O5 r2 K))
  (fun x c d r1 r2 n s K => Nat.casesOn (motive := fun _ => Prop) n (aG P I N (.cond x c d) s K) fun n => G9 P I N x c d n s K r1 r2)
  (fun id c r n s K => Nat.casesOn (motive := fun _ => Prop) n (aG P I N (.block id c) s K) fun n => r n s (Mh id K))
  (fun c _ _ s K => aG P I N (.loop c) s K)
  (fun f ps c d _ _ _ s K => aG P I N (.rangeFunc f ps c d) s K)
  (fun id n s K => Nat.casesOn (motive := fun _ => Prop) n (aG P I N (.exit id) s K) fun n => K n (.exit id) s)
  (fun c r n s K => Nat.casesOn (motive := fun _ => Prop) n (aG P I N (.scope c) s K) fun n => r n s (Ki K))
  (fun l n s K => Nat.casesOn (motive := fun _ => Prop) n (aG P I N (.label l) s K) fun n => K n .normal s)
  (fun l _ s K => aG P I N (.goto l) s K)
  (fun n s K => Nat.casesOn (motive := fun _ => Prop) n (aG P I N .ret s K) fun n => K n .ret s)
  (fun w _ s K => aG P I N (.refuse w) s K) c
theorem wF (ops : Array Oper) : ops.toList.toArray = ops := by simp
theorem n9 {P : Program} {I : TT} {N : Nat} (hI : I.ok P) (hm : P.follows .mixedOrders = true) : ∀ (c : Code) {n : Nat} {s : St} {K : Nat → Exit → St → Prop}, zx P I N c n s K → aK P N c s fun e s' => ∃ m, K m e s' := by
 have stop : ∀ {c : Code} {s : St} {K : Nat → Exit → St → Prop}, aG P I N c s K → aK P N c s fun e s' => ∃ m, K m e s' := fun h => h.h hI hm
 intro c
 induction c with
 | skip => intro n s K h; cases n with | zero => exact stop h | succ n => exact aK.skip ⟨n, h⟩
 | ret => intro n s K h; cases n with | zero => exact stop h | succ n => exact aK.ret ⟨n, h⟩
 | exit id => intro n s K h; cases n with | zero => exact stop h | succ n => exact aK.exit ⟨n, h⟩
 | label id => intro n s K h; cases n with | zero => exact stop h | succ n => exact aK.label ⟨n, h⟩
 | goto id => intro n s K h; cases n <;> exact stop h
 | refuse w => intro n s K h; cases n <;> exact stop h
 | loop c ih => intro n s K h; cases n <;> exact stop h
 | rangeFunc f ps c d ih1 ih2 => intro n s K h; cases n <;> exact stop h
 | region id ops dr =>
  intro n s K h
  cases n with
  | zero => exact stop h
  | succ n =>
   cases dr with
   | false =>
    have := lS hI hm (show vw P I N ops ops.toList n s fun m s' => K m .normal s' from h)
    have h2 := aK.region (P := P) (N := N) (id := id) (l := ops.toList) (s := s) (Q := fun e s' => ∃ m, K m e s') (by rw [wF]; exact this)
    rwa [wF] at h2
   | true =>
    have h : fU 0 (ops.toList.map dD) = true ∧ BX P I N ops (qi [] (ops.toList.map dD)) ops.toList n s [] fun m s' => K m .normal s' := h
    have := mO hI hm h.2
    have h2 := aK.drawn (P := P) (N := N) (id := id) (l := ops.toList) (s := s) (Q := fun e s' => ∃ m, K m e s') hm h.1 (by rw [wF]; exact this)
    rwa [wF] at h2
 | seq c d ih1 ih2 =>
  intro n s K h
  cases n with
  | zero => exact stop h
  | succ n =>
   refine aK.seq ((ih1 h).mono ?_)
   rintro e s' ⟨m, h⟩
   cases e with
   | normal => exact ih2 (show zx P I N d m s' K from h)
   | _ => exact ⟨m, h⟩
 | cond x c d ih1 ih2 =>
  intro n s K h
  cases n with
  | zero => cases x <;> exact stop h
  | succ n =>
   cases x with
   | tmp t =>
    have h : G9 P I N (.tmp t) c d n s K (zx P I N c) (zx P I N d) := h
    simp only [G9] at h
    split at h
    ·rename_i b hc
     refine aK.cond hc (fun e => ?_) (fun e => ?_)
     ·rcases B4 h with ⟨_, h⟩ | ⟨e2, _⟩
      ·exact aK.nT (fun E a w hf => hf.told hc e) (ih1 h)
      ·rw [e] at e2; cases e2
     ·rcases B4 h with ⟨e2, _⟩ | ⟨_, h⟩
      ·rw [e] at e2; cases e2
      ·exact aK.nT (fun E a w hf => hf.told hc e) (ih2 h)
    ·exact stop h
   | _ => exact stop h
 | block id c ih =>
  intro n s K h
  cases n with
  | zero => exact stop h
  | succ n =>
   refine aK.blk ((ih h).mono ?_)
   rintro e s' ⟨m, h⟩
   cases e with
   | exit id' =>
    have h : bif Nat.beq id' id then K m .normal s' else K m (.exit id') s' := h
    simp only at h ⊢
    cases e2 : Nat.beq id' id with
    | true => rw [e2] at h; exact ⟨m, h⟩
    | false => rw [e2] at h; exact ⟨m, h⟩
   | _ => exact ⟨m, h⟩
 | scope c ih =>
  intro n s K h
  cases n with
  | zero => exact stop h
  | succ n =>
   refine aK.scope ((ih h).mono ?_)
   rintro e s' ⟨m, h⟩
   cases e with
   | goto l => exact h
   | _ => exact ⟨m, h⟩
section
variable {P : Program} {I : TT} {N : Nat} {ops : Array Oper} {l : List Oper} {o : Oper} {s : St} {K : Nat → St → Prop} {KC : Nat → Exit → St → Prop} {R : List aI} {A : List (List Nat)} {acc : List (List aI × St)} {c : Code} {Q : Exit → St → Prop}
theorem aK.gn (n : Nat) (hI : I.ok P) (hm : P.follows .mixedOrders = true) (h : zx P I N c n s fun _ => Q) : aK P N c s Q := (n9 hI hm c h).mono fun _ _ ⟨_, h⟩ => h
theorem aK.go (hI : I.ok P) (hm : P.follows .mixedOrders = true) (h : zx P I N c 999 s fun _ => Q) : aK P N c s Q := aK.gn 999 hI hm h
theorem aC {b : Bool} {A B : Prop} (h1 : b = true → A) (h2 : b = false → B) : cond b A B := by cases b <;> first | exact h1 rfl | exact h2 rfl
theorem xz {b : Bool} {A B : Prop} (h : b = true) (h1 : A) : cond b A B := by subst h; exact h1
def ij (N : Nat) (ops : Array Oper) (o : Oper) (s : St) : Option (List aI) :=
 match o.guard with
 | none => some []
 | some _ => match gL ops o with
  | none => none
  | some (d, b) => match get s (.s d) with
   | some (.sv (.v (.bool c))) => bif Nat.blt d N && (c == b) then some [.s d] else none
   | _ => none
theorem kh {g : List aI} {ws : St} (hg : ij N ops o s = some g) (ho : aW P N o s R ws) : bq P N ops o s (g ++ R) ws := by
 unfold ij at hg
 split at hg
 ·rename_i h; cases hg; exact bq.free h ho
 ·split at hg
  ·cases hg
  ·rename_i d b h
   split at hg
   ·rename_i c hc
    cases e : (Nat.blt d N && (c == b)) with
    | false => rw [e] at hg; cases hg
    | true =>
     rw [e] at hg; cases hg
     simp only [Bool.and_eq_true, beq_iff_eq] at e
     exact bq.on (eI.1 e.1) h (by rw [hc, e.2]) ho
   ·cases hg
theorem aB.n1 (n : Nat) {x : aI} {v : CV} {g : List aI} (hg : ij N ops o s = some g) (ho : aW P N o s R [(x, v)]) (h : vw P I N ops l n ((x, v) :: s) K) : aB P I N ops (o :: l) s K := ⟨fun hI hm => aD.step (kh hg ho) (lS hI hm h)⟩
theorem aB.n2 (n : Nat) {x y : aI} {v u : CV} {g : List aI} (hg : ij N ops o s = some g) (ho : aW P N o s R [(x, v), (y, u)]) (h : vw P I N ops l n ((x, v) :: (y, u) :: s) K) : aB P I N ops (o :: l) s K := ⟨fun hI hm => aD.step (kh hg ho) (lS hI hm h)⟩
theorem aB.n3 (n : Nat) {x y z : aI} {v u t : CV} {g : List aI} (hg : ij N ops o s = some g) (ho : aW P N o s R [(x, v), (y, u), (z, t)]) (h : vw P I N ops l n ((x, v) :: (y, u) :: (z, t) :: s) K) : aB P I N ops (o :: l) s K := ⟨fun hI hm => aD.step (kh hg ho) (lS hI hm h)⟩
theorem aF.n1 (n : Nat) {x : aI} {v : CV} {g : List aI} (hg : ij N ops o s = some g) (ho : aW P N o s R [(x, v)]) (h : BX P I N ops A l n ((x, v) :: s) (acc ++ [(g ++ R, [(x, v)])]) K) : aF P I N ops A acc (o :: l) s K := ⟨fun hI hm => aY.cons (kh hg ho) (mO hI hm h)⟩
theorem aF.n2 (n : Nat) {x y : aI} {v u : CV} {g : List aI} (hg : ij N ops o s = some g) (ho : aW P N o s R [(x, v), (y, u)]) (h : BX P I N ops A l n ((x, v) :: (y, u) :: s) (acc ++ [(g ++ R, [(x, v), (y, u)])]) K) : aF P I N ops A acc (o :: l) s K := ⟨fun hI hm => aY.cons (kh hg ho) (mO hI hm h)⟩
theorem aB.d1 {x : aI} {v : CV} {g : List aI} (hg : ij N ops o s = some g) (ho : aW P N o s R [(x, v)]) (h : vw P I N ops l 999 ((x, v) :: s) K) : aB P I N ops (o :: l) s K := aB.n1 999 hg ho h
theorem aB.d2 {x y : aI} {v u : CV} {g : List aI} (hg : ij N ops o s = some g) (ho : aW P N o s R [(x, v), (y, u)]) (h : vw P I N ops l 999 ((x, v) :: (y, u) :: s) K) : aB P I N ops (o :: l) s K := aB.n2 999 hg ho h
theorem aB.d3 {x y z : aI} {v u t : CV} {g : List aI} (hg : ij N ops o s = some g) (ho : aW P N o s R [(x, v), (y, u), (z, t)]) (h : vw P I N ops l 999 ((x, v) :: (y, u) :: (z, t) :: s) K) : aB P I N ops (o :: l) s K := aB.n3 999 hg ho h
theorem aF.d1 {x : aI} {v : CV} {g : List aI} (hg : ij N ops o s = some g) (ho : aW P N o s R [(x, v)]) (h : BX P I N ops A l 999 ((x, v) :: s) (acc ++ [(g ++ R, [(x, v)])]) K) : aF P I N ops A acc (o :: l) s K := aF.n1 999 hg ho h
theorem aF.d2 {x y : aI} {v u : CV} {g : List aI} (hg : ij N ops o s = some g) (ho : aW P N o s R [(x, v), (y, u)]) (h : BX P I N ops A l 999 ((x, v) :: (y, u) :: s) (acc ++ [(g ++ R, [(x, v), (y, u)])]) K) : aF P I N ops A acc (o :: l) s K := aF.n2 999 hg ho h
theorem aF.n3 (n : Nat) {x y z : aI} {v u t : CV} {g : List aI} (hg : ij N ops o s = some g) (ho : aW P N o s R [(x, v), (y, u), (z, t)]) (h : BX P I N ops A l n ((x, v) :: (y, u) :: (z, t) :: s) (acc ++ [(g ++ R, [(x, v), (y, u), (z, t)])]) K) : aF P I N ops A acc (o :: l) s K := ⟨fun hI hm => aY.cons (kh hg ho) (mO hI hm h)⟩
theorem aF.d3 {x y z : aI} {v u t : CV} {g : List aI} (hg : ij N ops o s = some g) (ho : aW P N o s R [(x, v), (y, u), (z, t)]) (h : BX P I N ops A l 999 ((x, v) :: (y, u) :: (z, t) :: s) (acc ++ [(g ++ R, [(x, v), (y, u), (z, t)])]) K) : aF P I N ops A acc (o :: l) s K := aF.n3 999 hg ho h
theorem aG.ci (n m : Nat) {t : Nat} {d : Code} {b : Bool} (hc : get s (.s t) = some (.sv (.v (.bool b)))) (h1 : b = true → zx P I N c n ((.s t, .sv (.v (.bool true))) :: s) KC) (h2 : b = false → zx P I N d m ((.s t, .sv (.v (.bool false))) :: s) KC) : aG P I N (.cond (.tmp t) c d) s KC :=
 ⟨fun hI hm => aK.cond hc (fun e => aK.nT (fun E a w hf => hf.told hc e) (n9 hI hm c (h1 e))) (fun e => aK.nT (fun E a w hf => hf.told hc e) (n9 hI hm d (h2 e)))⟩
theorem aB.ti (n m : Nat) {d : Nat} {b : Bool} (hc : DI N ops o s = .ask d b) (h1 : b = true → vw P I N ops (o :: l) n ((.s d, .sv (.v (.bool true))) :: s) K) (h2 : b = false → vw P I N ops (o :: l) m ((.s d, .sv (.v (.bool false))) :: s) K) : aB P I N ops (o :: l) s K :=
 ⟨fun hI hm => aD.tell (ki hc) (fun e => lS hI hm (h1 e)) (fun e => lS hI hm (h2 e))⟩
theorem aF.ti (n m : Nat) {d : Nat} {b : Bool} (hc : DI N ops o s = .ask d b) (h1 : b = true → BX P I N ops A (o :: l) n ((.s d, .sv (.v (.bool true))) :: s) acc K) (h2 : b = false → BX P I N ops A (o :: l) m ((.s d, .sv (.v (.bool false))) :: s) acc K) : aF P I N ops A acc (o :: l) s K :=
 ⟨fun hI hm => aY.tell (ki hc) (fun e => mO hI hm (h1 e)) (fun e => mO hI hm (h2 e))⟩
structure oz (cs : List aI) (s : St) (Q : St → Prop) : Prop where
 h : Kept s Q
theorem aG.lp (n : Nat) (cs : List aI) {α : Type} (upd : α → St) {r rest : St} (I' : α → Prop) (m : α → Nat) (a0 : α) (hk : X.az cs s cs = some r) (hs : r = upd a0 ++ rest) (h0 : I' a0)
  (hb : ∀ a, I' a → zx P I N c n (upd a ++ rest) fun k e s' => match e with | .normal => oz cs s' fun s2 => ∃ b, m b < m a ∧ I' b ∧ s2 = upd b ++ rest | e => KC k e s') (hh : aI.h ∈ cs := by decide) : aG P I N (.loop c) s KC :=
 ⟨fun hI hm => aK.cy (Kept.az cs hk hh (Kept.now (aK.k7 upd rest I' m a0 hs h0 fun a ha => aK.kept ((n9 hI hm c (hb a ha)).mono fun e s' ⟨k, h⟩ => by
  cases e with
  | normal => exact h.h
  | _ => exact Kept.now ⟨k, h⟩))))⟩
theorem aG.lq (cs : List aI) {α : Type} (upd : α → St) {r rest : St} (I' : α → Prop) (m : α → Nat) (a0 : α) (hk : X.az cs s cs = some r) (hs : r = upd a0 ++ rest) (h0 : I' a0)
  (hb : ∀ a, I' a → zx P I N c 999 (upd a ++ rest) fun k e s' => match e with | .normal => oz cs s' fun s2 => ∃ b, m b < m a ∧ I' b ∧ s2 = upd b ++ rest | e => KC k e s') (hh : aI.h ∈ cs := by decide) : aG P I N (.loop c) s KC := aG.lp 999 cs upd I' m a0 hk hs h0 hb hh
theorem aG.jn (n m : Nat) {d : Code} (cs : List aI) {α : Type} (upd : α → St) (F : α → Prop) {rest : St} (hr : X.az cs s cs = some rest)
  (h1 : zx P I N c n s fun k e s' => match e with | .normal => oz cs s' fun s2 => ∃ a, F a ∧ s2 = upd a ++ rest | e => KC k e s')
  (h2 : ∀ a, F a → zx P I N d m (upd a ++ rest) KC) : aG P I N (.seq c d) s KC :=
 ⟨fun hI hm => aK.BT cs upd F hr (aK.kept ((n9 hI hm c h1).mono fun e s' ⟨k, h⟩ => by
  cases e with
  | normal => exact h.h
  | _ => exact Kept.now ⟨k, h⟩)) fun a ha => n9 hI hm d (h2 a ha)⟩
theorem aB.cq (n : Nat) {ty : TypeId} {pos : String} {af : Array Edge} {d : Nat} {f : FuncId} {xs : Array Operand} {tys : Array TypeId} {«as» : List AV} {H : Hp} {Post : AV → Hp → Prop} (hN : d < N) (hf : gj P f = true) (hH : get s .h = some (.hp H)) (ha : kY xs.toList s = some «as») (hp : iL P f «as» H Post)
  (h : ∀ r H', Post r H' → vw P I N ops l n ((.s d, .sv (.v r)) :: (.h, .hp H') :: s) K) : aB P I N ops (⟨some d, .call { callee := .value (.func f), args := xs, argTypes := tys }, ty, pos, af, none⟩ :: l) s K :=
 ⟨fun hI hm => aD.B8 hN hf hH ha hp fun r H' hP => lS hI hm (h r H' hP)⟩
theorem aG.r (n : Nat) (h : zx P I N c n s KC) : aG P I N c s KC := ⟨fun hI hm => n9 hI hm c h⟩
theorem aG.kept (h : Kept s fun s' => aG P I N c s' KC) : aG P I N c s KC := ⟨fun hI hm => aK.cy fun E N' a w hf => let ⟨s', h1, h2⟩ := h E N' a w hf; ⟨s', h1, h2.h hI hm⟩⟩
end
set_option linter.unusedSectionVars false
section
variable {P : Program} {I : TT} {N : Nat} {ops : Array Oper} {l : List Oper} {o : Oper} {s : St} {K : Nat → St → Prop} {fn : Func} {H : Hp} {t : Nat}
theorem cD {a r : AV} (h1 : fn.results = [ResultVar.tmp t].toArray) (h2 : cV (.tmp t) s = some a) (hh : get s .h = some (.hp H)) (e : a = r) : (Exit.ret = .normal ∨ Exit.ret = .ret) ∧ aM P fn s r ∧ get s .h = some (.hp H) := ⟨.inr rfl, (aM.r1 h1 (.tmp h2 .nil)).cast e, hh⟩
theorem aN {b c : Bool} (h1 : fn.results = [ResultVar.tmp t].toArray) (h2 : cV (.tmp t) s = some (.bool b)) (hh : get s .h = some (.hp H)) (e : b = c) : (Exit.ret = .normal ∨ Exit.ret = .ret) ∧ aM P fn s (.bool c) ∧ get s .h = some (.hp H) := cD h1 h2 hh (congrArg _ e)
theorem cC {k : IntKind} {b c : Int} (h1 : fn.results = [ResultVar.tmp t].toArray) (h2 : cV (.tmp t) s = some (.int k b)) (hh : get s .h = some (.hp H)) (e : b = c) : (Exit.ret = .normal ∨ Exit.ret = .ret) ∧ aM P fn s (.int k c) ∧ get s .h = some (.hp H) := cD h1 h2 hh (congrArg _ e)
def DH (N : Nat) (ops : Array Oper) (o : Oper) (s : St) (d : Nat) : Bool := match ij N ops o s with | some _ => Nat.blt d N | none => false
theorem BY {d : Nat} (h : DH N ops o s d = true) : d < N ∧ ∃ g, ij N ops o s = some g := by
 unfold DH at h
 split at h
 ·rename_i g e; exact ⟨eI.1 h, g, e⟩
 ·cases h
variable {d : Nat} {ty : TypeId} {pos : String} {af : Array Edge} {gd : Option (Nat × Bool)}
theorem aB.jn (n : Nat) {f : FuncId} {xs : Array Operand} {tys : Array TypeId} {«as» : List AV} {r : AV} (hg : DH N ops ⟨some d, .call { callee := .value (.func f), args := xs, argTypes := tys }, ty, pos, af, gd⟩ s d = true) (hf : gj P f = true) (ha : kY xs.toList s = some «as») (hp : Pure P f «as» r) (h : vw P I N ops l n ((.s d, .sv (.v r)) :: s) K) :
  aB P I N ops (⟨some d, .call { callee := .value (.func f), args := xs, argTypes := tys }, ty, pos, af, gd⟩ :: l) s K :=
 let ⟨h1, g, h2⟩ := BY hg; aB.n1 n h2 (aX h1 hf ha hp) h
theorem aB.jc {f : FuncId} {xs : Array Operand} {tys : Array TypeId} {«as» : List AV} {r : AV} (hg : DH N ops ⟨some d, .call { callee := .value (.func f), args := xs, argTypes := tys }, ty, pos, af, gd⟩ s d = true) (hf : gj P f = true) (ha : kY xs.toList s = some «as») (hp : Pure P f «as» r) (h : vw P I N ops l 999 ((.s d, .sv (.v r)) :: s) K) :
  aB P I N ops (⟨some d, .call { callee := .value (.func f), args := xs, argTypes := tys }, ty, pos, af, gd⟩ :: l) s K := aB.jn 999 hg hf ha hp h
theorem bP {t1 : TypeId} {x i : Operand} {esz : Nat} {k : IntKind} {n : Nat} {xs : List AV} {e : AV} (hN : d < N) (ht : ie P t1 = some esz) (hx : cV x s = some (.sl xs)) (hi : cV i s = some (.int k (n : Int)))
  (he : xs[((n : Nat) : Int).toNat]? = some e) (hsz : e.cells.length = esz) : aW P N ⟨some d, .indexAddr t1 x i, ty, pos, af, gd⟩ s (rd x ++ rd i) [(.s d, .sv (.v (.kp e.cells)))] := ak hN ht hx hi (Int.natCast_nonneg _) he hsz
theorem aB.im (m : Nat) {t1 : TypeId} {x i : Operand} {esz : Nat} {k : IntKind} {n : Nat} {xs : List AV} {e : AV} (hg : DH N ops ⟨some d, .indexAddr t1 x i, ty, pos, af, gd⟩ s d = true) (ht : ie P t1 = some esz) (hx : cV x s = some (.sl xs)) (hi : cV i s = some (.int k (n : Int)))
  (he : xs[((n : Nat) : Int).toNat]? = some e) (hsz : e.cells.length = esz) (h : vw P I N ops l m ((.s d, .sv (.v (.kp e.cells))) :: s) K) : aB P I N ops (⟨some d, .indexAddr t1 x i, ty, pos, af, gd⟩ :: l) s K :=
 let ⟨h1, g, h2⟩ := BY hg; aB.n1 m h2 (bP h1 ht hx hi he hsz) h
theorem aB.ii {t1 : TypeId} {x i : Operand} {esz : Nat} {k : IntKind} {n : Nat} {xs : List AV} {e : AV} (hg : DH N ops ⟨some d, .indexAddr t1 x i, ty, pos, af, gd⟩ s d = true) (ht : ie P t1 = some esz) (hx : cV x s = some (.sl xs)) (hi : cV i s = some (.int k (n : Int)))
  (he : xs[((n : Nat) : Int).toNat]? = some e) (hsz : e.cells.length = esz) (h : vw P I N ops l 999 ((.s d, .sv (.v (.kp e.cells))) :: s) K) : aB P I N ops (⟨some d, .indexAddr t1 x i, ty, pos, af, gd⟩ :: l) s K := aB.im 999 hg ht hx hi he hsz h
theorem aj {t1 el esz by_ : Nat} {x y : Operand} {k : Nat} {xs ys : List AV} (hN : d < N) (ht : se P t1 = some (el, esz, by_)) (hx : gS x s = some (.ow k xs)) (hk : get s (.t k) = some (.tk false el esz xs)) (hy : cV y s = some (.sl ys)) (hok : cg esz ys = true) (hd : get s (.t d) = none)
  (hb : (xs.length + ys.length) * by_ ≤ 140737488355328) (h1 : Nat.ble 1 by_ = true) :
  aW P N ⟨some d, .call { callee := .builtin .append, args := #[x, y], argTypes := #[t1, t1] }, ty, pos, af, gd⟩ s (rd x ++ (rd y ++ [.t k, .t d])) [(.s d, .sv (.ow d (xs ++ ys))), (.t d, .tk false el esz (xs ++ ys)), (.t k, .gone)] :=
 jS hN ht hx hk hy hok hd hb (by
  have h1 := eI.1 h1
  have : (xs.length + ys.length) * 1 ≤ (xs.length + ys.length) * by_ := Nat.mul_le_mul_left _ h1
  omega)
theorem Pure.gn (n : Nat) {f : FuncId} {c : Code} {args : List AV} {r : AV} (hI : I.ok P) (hm : P.follows .mixedOrders = true) (hf : P.funcs[f]? = some fn) (hb : fn.body = some c) (hle : Nat.ble args.length fn.ntmps = true)
  (h : ∀ H, zx P I fn.ntmps c n ((.h, .hp H) :: fF args 0) fun _ e s' => (e = .normal ∨ e = .ret) ∧ aM P fn s' r ∧ get s' .h = some (.hp H)) : Pure P f args r := .ah hf hb rfl (eI.1 hle) fun H => .gn n hI hm (h H)
theorem Pure.go {f : FuncId} {c : Code} {args : List AV} {r : AV} (hI : I.ok P) (hm : P.follows .mixedOrders = true) (hf : P.funcs[f]? = some fn) (hb : fn.body = some c) (hle : Nat.ble args.length fn.ntmps = true)
  (h : ∀ H, zx P I fn.ntmps c 999 ((.h, .hp H) :: fF args 0) fun _ e s' => (e = .normal ∨ e = .ret) ∧ aM P fn s' r ∧ get s' .h = some (.hp H)) : Pure P f args r := Pure.gn 999 hI hm hf hb hle h
theorem LL : (∀ (α : Type) (a b : List α), (a ++ b).length = a.length + b.length) ∧ (∀ (α β : Type) (f : α → β) (a : List α), (a.map f).length = a.length) ∧ (∀ (α : Type) (n : Nat) (a : List α), (a.take n).length = min n a.length) ∧ (∀ (α : Type) (n : Nat) (a : List α), (a.drop n).length = a.length - n) ∧ (∀ (α : Type) (x : α) (a : List α), (x :: a).length = a.length + 1) ∧ (∀ (α : Type), ([] : List α).length = 0) :=
 ⟨fun _ _ _ => List.length_append, fun _ _ _ _ => List.length_map _, fun _ _ _ => List.length_take, fun _ _ _ => List.length_drop, fun _ _ _ => List.length_cons, fun _ => List.length_nil⟩
def N7 (cs : List aI) (s : St) : Option St := bif cs.any fun c => match c with | .h => true | _ => false then X.az cs s cs else none
theorem p8 {cs : List aI} {s r : St} (h : N7 cs s = some r) : aI.h ∈ cs ∧ X.az cs s cs = some r := by
 unfold N7 at h
 cases e : cs.any fun c => match c with | .h => true | _ => false with
 | false => rw [e] at h; cases h
 | true =>
  rw [e] at h
  obtain ⟨c, h1, h2⟩ := List.any_eq_true.1 e
  cases c <;> first | exact ⟨h1, h⟩ | cases h2
theorem oz.b0 {cs : List aI} {r : St} {Q : St → Prop} (hk : N7 cs s = some r) (h : Q r) : oz cs s Q := ⟨Kept.az cs (p8 hk).2 (p8 hk).1 (Kept.now h)⟩
theorem oz.bc (ds : List aI) {cs : List aI} {r : St} {Q : St → Prop} (hk : N7 ds s = some r) (h : Q r) : oz cs s Q := ⟨Kept.az ds (p8 hk).2 (p8 hk).1 (Kept.now h)⟩
theorem oz.b1 {cs : List aI} {r : St} {Q : St → Prop} (n : Nat) {k : IntKind} {v v' : Int} (h0 : get s (.s n) = some (.sv (.v (.int k v)))) (e : v = v') (hk : N7 cs ((.s n, .sv (.v (.int k v'))) :: s) = some r) (h : Q r) : oz cs s Q := ⟨Kept.c6 n h0 e (Kept.az cs (p8 hk).2 (p8 hk).1 (Kept.now h))⟩
end
abbrev aw := List UInt8
def eJ (n : Int) : AV := .int .i64 n
structure ae where
 name : aw
 num : Int
 ty : Int
 ref : aw
 rep : Bool
 loose : Bool
 one : aw
 deriving DecidableEq, Inhabited
def ae.cells (f : ae) : List AV := [.str f.name, .int .i64 f.num, .int .i64 f.ty, .str f.ref, .bool f.rep, .bool f.loose, .str f.one]
def ae.av (f : ae) : AV := .agg f.cells
structure aU where
 name : aw
 fields : List ae
 ai : List Int
 deriving DecidableEq, Inhabited
def aU.cells (m : aU) : List AV := [.str m.name, .sl (m.fields.map ae.av), .sl (m.ai.map eJ)]
def aU.av (m : aU) : AV := .agg m.cells
structure ks where
 name : aw
 num : Int
 deriving DecidableEq, Inhabited
def ks.cells (v : ks) : List AV := [.str v.name, .int .i64 v.num]
def ks.av (v : ks) : AV := .agg v.cells
structure eQ where
 name : aw
 values : List ks
 deriving DecidableEq, Inhabited
def eQ.cells (e : eQ) : List AV := [.str e.name, .sl (e.values.map ks.av)]
def eQ.av (e : eQ) : AV := .agg e.cells
structure aL where
 enums : List eQ
 msgs : List aU
 deriving DecidableEq, Inhabited
def aL.cells (s : aL) : List AV := [.sl (s.enums.map eQ.av), .sl (s.msgs.map aU.av)]
def aL.av (s : aL) : AV := .agg s.cells
structure Rw where
 num : Int
 wire : Int
 n : Nat
 s : aw
 deriving DecidableEq, Inhabited
def Rw.cells (r : Rw) : List AV := [.int .i64 r.num, .int .i64 r.wire, .int .u64 (r.n : Int), .str r.s]
def Rw.av (r : Rw) : AV := .agg r.cells
mutual
inductive bF where
 | mk (n : Nat) (s : aw) (m : List Tree)
inductive Slot where
 | mk (num : Int) (ag : List bF)
inductive Tree where
 | mk (aO : List Slot) (rest : List Rw)
end
instance : Inhabited Tree := ⟨.mk [] []⟩
instance : Inhabited bF := ⟨.mk 0 [] []⟩
instance : Inhabited Slot := ⟨.mk 0 []⟩
def bF.n : bF → Nat | .mk n _ _ => n
def bF.s : bF → aw | .mk _ s _ => s
def bF.m : bF → List Tree | .mk _ _ m => m
def Slot.num : Slot → Int | .mk n _ => n
def Slot.ag : Slot → List bF | .mk _ v => v
def Tree.aO : Tree → List Slot | .mk s _ => s
def Tree.rest : Tree → List Rw | .mk _ r => r
mutual
def bF.av : bF → AV
 | .mk n s m => .agg [.int .u64 (n : Int), .str s, .sl (ir m)]
def Slot.av : Slot → AV
 | .mk n vs => .agg [.int .i64 n, .sl (kx vs)]
def Tree.av : Tree → AV
 | .mk ss r => .agg [.sl (ji ss), .sl (r.map Rw.av)]
def ir : List Tree → List AV
 | [] => []
 | t :: l => t.av :: ir l
def kx : List bF → List AV
 | [] => []
 | v :: l => v.av :: kx l
def ji : List Slot → List AV
 | [] => []
 | s :: l => s.av :: ji l
end
theorem w8 (l : List Tree) : ir l = l.map Tree.av := by induction l with | nil => simp [ir] | cons t l ih => simp [ir, ih]
theorem yi (l : List bF) : kx l = l.map bF.av := by induction l with | nil => simp [kx] | cons t l ih => simp [kx, ih]
theorem we (l : List Slot) : ji l = l.map Slot.av := by induction l with | nil => simp [ji] | cons t l ih => simp [ji, ih]
def bF.cells (v : bF) : List AV := [.int .u64 (v.n : Int), .str v.s, .sl (v.m.map Tree.av)]
def Slot.cells (x : Slot) : List AV := [.int .i64 x.num, .sl (x.ag.map bF.av)]
def Tree.cells (t : Tree) : List AV := [.sl (t.aO.map Slot.av), .sl (t.rest.map Rw.av)]
theorem bF.bC (v : bF) : v.av = .agg v.cells := by cases v; simp [bF.av, bF.cells, bF.n, bF.s, bF.m, w8]
theorem Slot.bC (v : Slot) : v.av = .agg v.cells := by cases v; simp [Slot.av, Slot.cells, Slot.num, Slot.ag, yi]
theorem Tree.bC (v : Tree) : v.av = .agg v.cells := by cases v; simp [Tree.av, Tree.cells, Tree.aO, Tree.rest, we]
structure aS where
 kind : Int
 msg : aw
 field : aw
 dest : aw
 also : aw
 num : Int
 other : Int
 ty : Int
 names : List aw
 dv : bF
 deriving Inhabited
def aS.cells (x : aS) : List AV := [.int .i64 x.kind, .str x.msg, .str x.field, .str x.dest, .str x.also, .int .i64 x.num, .int .i64 x.other, .int .i64 x.ty, .sl (x.names.map .str), .int .u64 (x.dv.n : Int), .str x.dv.s, .sl (x.dv.m.map Tree.av)]
def aS.av (x : aS) : AV := .agg x.cells
theorem dS {α : Type} {f : α → AV} {c : α → List AV} {xs : List α} {i : Nat} (he : ∀ x, f x = .agg (c x)) (h : i < xs.length) : (xs.map f)[((i : Nat) : Int).toNat]? = some (.agg (c xs[i])) := by
 simp [h, he]
theorem KJ {α : Type} {f : α → AV} {c : α → List AV} {xs : List α} {i : Nat} {j : Int} (he : ∀ x, f x = .agg (c x)) (hj : j = (i : Int)) (h : i < xs.length) : (xs.map f)[j.toNat]? = some (.agg (c xs[i])) := by
 subst hj; simp [h, he]
structure Tk where
 k : Nat
 s : List UInt8
 n : Nat
 neg : Bool
 pos : Nat
 deriving DecidableEq
open Go Go.RowKit Go.Proofs
theorem mixed : Tryz.prog.follows .mixedOrders = true := by kernel_rfl
def bI {α : Type} (p : α → Bool) : List α → Nat → Int
 | [], _ => -1
 | a :: l, i => if p a then i else bI p l (i + 1)
theorem bo {α : Type} {p : α → Bool} {l : List α} {i : Nat} (h : i < l.length) : bI p (l.drop i) i = if p l[i] then (i : Int) else bI p (l.drop (i + 1)) (i + 1) := by
 rw [List.drop_eq_getElem_cons h]; rfl
theorem dT {α : Type} {p : α → Bool} {l : List α} {i : Nat} (h : l.length ≤ i) : bI p (l.drop i) i = -1 := by
 rw [List.drop_of_length_le h]; rfl
theorem iK {α : Type} {p : α → Bool} {l : List α} {i : Nat} (h : i < l.length) : (l.drop i).all p = (p l[i] && (l.drop (i + 1)).all p) := by
 rw [List.drop_eq_getElem_cons h]; rfl
theorem lV {α : Type} {p : α → Bool} {l : List α} {i : Nat} (h : l.length ≤ i) : (l.drop i).all p = true := by
 rw [List.drop_of_length_le h]; rfl
theorem bz {α : Type} {p : α → Bool} {l : List α} {i : Nat} (h : i < l.length) : (l.drop i).any p = (p l[i] || (l.drop (i + 1)).any p) := by
 rw [List.drop_eq_getElem_cons h]; rfl
theorem cZ {α : Type} {p : α → Bool} {l : List α} {i : Nat} (h : l.length ≤ i) : (l.drop i).any p = false := by
 rw [List.drop_of_length_le h]; rfl
theorem e8 {α : Type} {l : List α} {i : Nat} {f : α → AV} {acc : List AV} (h : i < l.length) (ha : acc = (l.take i).map f) : acc ++ [f l[i]] = (l.take (i + 1)).map f := by
 rw [ha, List.take_succ_eq_append_getElem h, List.map_append]; rfl
theorem Bx {α : Type} {l : List α} {i : Nat} {f : α → AV} {acc l0 : List AV} (h : i < l.length) (ha : acc = l0 ++ (l.take i).map f) : acc ++ [f l[i]] = l0 ++ (l.take (i + 1)).map f := by
 rw [ha, List.take_succ_eq_append_getElem h, List.map_append, List.append_assoc]; rfl
theorem iE {α : Type} {l : List α} {i : Nat} (h : l.length ≤ i) : l.take i = l := List.take_of_length_le h
theorem Pure.at {P : Program} {f : FuncId} {a a' : List AV} {r : AV} (h : Pure P f a r) (e : a' = a) : Pure P f a' r := e ▸ h
theorem u3 {α : Type} (f : α → aw) (l : List α) : cg 1 (l.map fun x => AV.str (f x)) = true := by
 simp [cg, AV.cells, AV.flat]
theorem dN {α : Type} (k : IntKind) (f : α → Int) (l : List α) : cg 1 (l.map fun x => AV.int k (f x)) = true := by
 simp [cg, AV.cells, AV.flat]
theorem ba {α : Type} {n : Nat} (f : α → List AV) (hn : ∀ x, (f x).length = n) (l : List α) : cg n (l.map fun x => AV.agg (f x)) = true := by
 simp [cg, AV.cells, hn]
theorem On {α : Type} {f : α → AV} {xs : List α} {c : List AV} {i : Nat} (h : c = xs.map f) (hi : i < xs.length) : c[((i : Nat) : Int).toNat]? = some (f xs[i]) := by
 subst h; exact ca hi
theorem N9 {α : Type} {f : α → AV} {xs : List α} {c : List AV} {i : Nat} {j : Int} (hj : j = (i : Int)) (h : c = xs.map f) (hi : i < xs.length) : c[j.toNat]? = some (f xs[i]) := by
 subst h; subst hj; exact ca hi
theorem headD_map {α β : Type} {f : α → β} {l : List α} {d : β} (h : 0 < l.length) : (l.map f).headD d = f l[0] := by
 cases l with
 | nil => simp at h
 | cons a l => rfl
theorem Ct {α β : Type} {f : α → β} {l : List α} {d : β} (h : 0 < l.length) : (l.map f).getLastD d = f (l[l.length - 1]'(by omega)) := by
 rw [List.getLastD_eq_getLast?, List.getLast?_map, List.getLast?_eq_getElem?, List.getElem?_eq_getElem (by omega)]; rfl
theorem DD {α : Type} {l : List α} {d : α} (h : 0 < l.length) : l.headD d = l[0] := by
 cases l with
 | nil => simp at h
 | cons a l => rfl
theorem Cu {α : Type} {l : List α} {d : α} (h : 0 < l.length) : l.getLastD d = l[l.length - 1]'(by omega) := by
 rw [List.getLastD_eq_getLast?, List.getLast?_eq_getElem?, List.getElem?_eq_getElem (by omega)]; rfl
theorem ym {α : Type} (l : List α) : (l.take (0 + 1)).drop 1 = [] := by cases l <;> simp
theorem yl {α : Type} {l : List α} {i : Nat} (h0 : 0 < i) (h : i < l.length) : (l.take (i + 1)).drop 1 = (l.take i).drop 1 ++ [l[i]] := by
 rw [List.take_succ_eq_append_getElem h, List.drop_append_of_le_length (by rw [List.length_take]; omega)]
def letter (c : UInt8) : Bool := (decide (97 ≤ c.toNat) && decide (c.toNat ≤ 122)) || (decide (65 ≤ c.toNat) && decide (c.toNat ≤ 90))
def yb (c : UInt8) : Bool := letter c || (decide (48 ≤ c.toNat) && decide (c.toNat ≤ 57)) || decide (c.toNat = 95)
def pB : List aw := [[101, 110, 117, 109], [109, 101, 115, 115, 97, 103, 101], [111, 110, 101, 111, 102], [114, 101, 112, 101, 97, 116, 101, 100], [114, 101, 115, 101, 114, 118, 101, 100], [108, 111, 111, 115, 101], [105, 110, 116, 51, 50], [105, 110, 116, 54, 52], [117, 105, 110, 116, 51, 50], [117, 105, 110, 116, 54, 52], [115, 105, 110, 116, 51, 50], [115, 105, 110, 116, 54, 52], [98, 111, 111, 108], [102, 105, 120, 101, 100, 51, 50], [102, 105, 120, 101, 100, 54, 52], [115, 102, 105, 120, 101, 100, 51, 50], [115, 102, 105, 120, 101, 100, 54, 52], [115, 116, 114, 105, 110, 103], [98, 121, 116, 101, 115], [114, 101, 110, 97, 109, 101], [114, 101, 110, 117, 109, 98, 101, 114], [114, 101, 116, 121, 112, 101], [115, 112, 108, 105, 116], [106, 111, 105, 110], [119, 114, 97, 112], [117, 110, 119, 114, 97, 112], [97, 100, 100], [100, 114, 111, 112], [116, 111], [105, 110, 116, 111], [97, 115], [111, 102], [100, 101, 102, 97, 117, 108, 116], [116, 114, 117, 101], [102, 97, 108, 115, 101]]
def aq (s : aw) : Bool := decide (1 ≤ s.length) && decide (s.length ≤ 12) && letter (s.headD 0) && s.all yb && pB.all (fun w => !(w == s))
def gG (l : List aw) : List aw → Nat → Bool
 | [], _ => true
 | a :: r, i => !((l.take i).any fun b => a == b) && gG l r (i + 1)
def once (l : List aw) : Bool := gG l l 0
def lz : List aw → Bool
 | a :: b :: l => !(!mw a b) && lz (b :: l)
 | _ => true
def fp : List Int → Bool
 | a :: b :: l => decide (a < b) && fp (b :: l)
 | _ => true
theorem tp {l : List aw} {i : Nat} (h : i < l.length) : gG l (l.drop i) i = (!((l.take i).any fun b => l[i] == b) && gG l (l.drop (i + 1)) (i + 1)) := by
 rw [List.drop_eq_getElem_cons h]; rfl
theorem vk {l : List aw} {i : Nat} (h : l.length ≤ i) : gG l (l.drop i) i = true := by
 rw [List.drop_of_length_le h]; rfl
theorem zF {l : List Int} {i : Nat} (h0 : 0 < i) (h : i < l.length) : fp (l.drop (i - 1)) = (decide (l[i - 1] < l[i]) && fp (l.drop (i + 1 - 1))) := by
 obtain ⟨k, rfl⟩ : ∃ k, i = k + 1 := ⟨i - 1, by omega⟩
 simp only [Nat.add_sub_cancel]
 rw [List.drop_eq_getElem_cons (show k < l.length by omega), List.drop_eq_getElem_cons h]
 rfl
theorem CI {l : List Int} {i : Nat} (h0 : 0 < i) (h : l.length ≤ i) : fp (l.drop (i - 1)) = true := by
 obtain ⟨k, rfl⟩ : ∃ k, i = k + 1 := ⟨i - 1, by omega⟩
 simp only [Nat.add_sub_cancel]
 by_cases hk : k < l.length
 ·rw [List.drop_eq_getElem_cons hk, List.drop_of_length_le h]; rfl
 ·rw [List.drop_of_length_le (by omega)]; rfl
theorem zG {l : List aw} {i : Nat} (h0 : 0 < i) (h : i < l.length) : lz (l.drop (i - 1)) = (!(!mw l[i - 1] l[i]) && lz (l.drop (i + 1 - 1))) := by
 obtain ⟨k, rfl⟩ : ∃ k, i = k + 1 := ⟨i - 1, by omega⟩
 simp only [Nat.add_sub_cancel]
 rw [List.drop_eq_getElem_cons (show k < l.length by omega), List.drop_eq_getElem_cons h]
 rfl
theorem CJ {l : List aw} {i : Nat} (h0 : 0 < i) (h : l.length ≤ i) : lz (l.drop (i - 1)) = true := by
 obtain ⟨k, rfl⟩ : ∃ k, i = k + 1 := ⟨i - 1, by omega⟩
 simp only [Nat.add_sub_cancel]
 by_cases hk : k < l.length
 ·rw [List.drop_eq_getElem_cons hk, List.drop_of_length_le h]; rfl
 ·rw [List.drop_of_length_le (by omega)]; rfl
def qg (n : Int) : Bool := decide (1 ≤ n) && decide (n ≤ 536870911) && (decide (n < 19000) || decide (19999 < n))
def jh (n w : Int) : Bool := decide (1 ≤ n) && decide (n ≤ 536870911) && (decide (w = 0) || decide (w = 1) || decide (w = 2) || decide (w = 5))
def c8 (t : Int) : Bool := (decide (1 ≤ t) && decide (t ≤ 6)) || (decide (8 ≤ t) && decide (t ≤ 11))
def pS (t : Int) : Bool := c8 t || decide (t = 7) || decide (t = 14)
def ed (t : Int) : Bool := decide (t = 1) || decide (t = 2) || decide (t = 5) || decide (t = 6) || decide (t = 10) || decide (t = 11) || decide (t = 14)
def iX (t : Int) : Bool := decide (t = 2) || decide (t = 4) || decide (t = 6) || decide (t = 9) || decide (t = 11)
def ae.iN (f : ae) : Int :=
 if !aq f.name || (!(f.one == []) && !aq f.one) then 2
 else if (f.ty = 14 ∨ f.ty = 15) ∧ aq f.ref = false then 2
 else if ¬ (f.ty = 14 ∨ f.ty = 15) ∧ (f.ref == []) = false then 2
 else if !qg f.num || decide (f.ty < 1) || decide (15 < f.ty) || (f.rep && !(f.one == [])) then 1
 else if f.loose && (!f.rep || !pS f.ty) then 1
 else 0
def aL.many (s : aL) : Bool := decide (3 < s.enums.length) || decide (6 < s.msgs.length) || s.enums.any (fun e => decide (8 < e.values.length)) || s.msgs.any (fun m => decide (10 < m.fields.length) || decide (8 < m.ai.length))
def aL.none (s : aL) : Bool := decide (s.msgs.length = 0) || s.enums.any (fun e => decide (e.values.length = 0))
def aL.text (s : aL) : Bool := s.enums.any (fun e => !aq e.name || e.values.any (fun v => !aq v.name)) || s.msgs.any (fun m => !aq m.name)
def dO : List ae → Int
 | [] => 0
 | f :: l => if f.iN = 0 then dO l else f.iN
def ff : List aU → Int
 | [] => 0
 | m :: l => if dO m.fields = 0 then ff l else dO m.fields
theorem tK {l : List ae} {i : Nat} (h : i < l.length) : dO (l.drop i) = if l[i].iN = 0 then dO (l.drop (i + 1)) else l[i].iN := by
 rw [List.drop_eq_getElem_cons h]; rfl
theorem tu {l : List ae} {i : Nat} (h : l.length ≤ i) : dO (l.drop i) = 0 := by
 rw [List.drop_of_length_le h]; rfl
theorem wA {l : List aU} {i : Nat} (h : i < l.length) : ff (l.drop i) = if dO l[i].fields = 0 then ff (l.drop (i + 1)) else dO l[i].fields := by
 rw [List.drop_eq_getElem_cons h]; rfl
theorem yC {l : List aU} {i : Nat} (h : l.length ≤ i) : ff (l.drop i) = 0 := by
 rw [List.drop_of_length_le h]; rfl
def aU.jf (m : aU) : Bool := !once (m.fields.map (·.name)) || m.fields.any (fun f => !(f.one == []) && !once (m.fields.map (·.name) ++ [f.one]))
def aL.jf (s : aL) : Bool := s.enums.any (fun e => !once (e.values.map (·.name))) || s.msgs.any aU.jf || !once (s.enums.map (·.name) ++ s.msgs.map (·.name))
def eQ.order (e : eQ) : Bool := !fp (e.values.map (·.num)) || !decide ((e.values.map (·.num)).headD 0 = 0) || decide (1048576 < (e.values.map (·.num)).getLastD 0)
def aU.order (m : aU) : Bool := !fp (m.fields.map (·.num)) || !fp m.ai || (!(m.ai == []) && (decide (m.ai.headD 0 < 1) || decide (536870911 < m.ai.getLastD 0)))
def aL.order (s : aL) : Bool := s.enums.any eQ.order || !lz (s.enums.map (·.name)) || s.msgs.any aU.order || !lz ((s.msgs.drop 1).map (·.name))
def aL.ai (s : aL) : Bool := s.msgs.any fun m => m.fields.any fun f => m.ai.any (· == f.num)
def aL.bL (s : aL) (name : aw) : Int := bI (fun m : aU => m.name == name) s.msgs 0
def aL.fL (s : aL) (name : aw) : Int := bI (fun m : eQ => m.name == name) s.enums 0
def aL.refs (s : aL) : Bool := s.msgs.any fun m => m.fields.any fun f => (decide (f.ty = 14) && decide (s.fL f.ref < 0)) || (decide (f.ty = 15) && decide (s.bL f.ref < 0))
def aL.iN (s : aL) : Int :=
 if s.many then 4 else if s.none then 5 else if s.text then 2 else if ff s.msgs ≠ 0 then ff s.msgs else if s.jf then 6 else if s.order then 1 else if s.ai then 6 else if s.refs then 5 else 0
structure aL.eK (s : aL) : Prop where
 e : s.enums.length ≤ 9223372036854775807
 m : s.msgs.length ≤ 9223372036854775807
structure aL.sm (s : aL) : Prop where
 e : s.enums.length ≤ 3
 m : s.msgs.length ≤ 6
 v : ∀ x ∈ s.enums, x.values.length ≤ 8
 f : ∀ x ∈ s.msgs, x.fields.length ≤ 10
 b : ∀ x ∈ s.msgs, x.ai.length ≤ 8
theorem aL.sm.vi {s : aL} (h : s.sm) {i : Nat} (hi : i < s.enums.length) : s.enums[i].values.length ≤ 8 := h.v _ (List.getElem_mem hi)
theorem aL.sm.fi {s : aL} (h : s.sm) {i : Nat} (hi : i < s.msgs.length) : s.msgs[i].fields.length ≤ 10 := h.f _ (List.getElem_mem hi)
theorem aL.sm.bi {s : aL} (h : s.sm) {i : Nat} (hi : i < s.msgs.length) : s.msgs[i].ai.length ≤ 8 := h.b _ (List.getElem_mem hi)
theorem aL.Js {s : aL} (h : s.many = false) : s.sm := by
 simp only [aL.many, Bool.or_eq_false_iff, List.any_eq_false, decide_eq_false_iff_not, Bool.or_eq_true, decide_eq_true_eq, not_or] at h
 obtain ⟨⟨⟨h1, h2⟩, h3⟩, h4⟩ := h
 exact ⟨by omega, by omega, fun x hx => by have := h3 x hx; omega, fun x hx => by have := h4 x hx; omega, fun x hx => by have := h4 x hx; omega⟩
theorem aL.BK {s : aL} (h : s.none = false) : 0 < s.msgs.length ∧ ∀ x ∈ s.enums, 0 < x.values.length := by
 simp only [aL.none, Bool.or_eq_false_iff, List.any_eq_false, decide_eq_false_iff_not, decide_eq_true_eq] at h
 exact ⟨by omega, fun x hx => by have := h.2 x hx; omega⟩
theorem eQ.pN {e : eQ} (h : 0 < e.values.length) : e.order = (!fp (e.values.map (·.num)) || !decide (e.values[0].num = 0) || decide (1048576 < (e.values[e.values.length - 1]'(by omega)).num)) := by
 unfold eQ.order; rw [headD_map h, Ct h]
theorem aU.pN {m : aU} (h : 0 < m.ai.length) : m.order = (!fp (m.fields.map (·.num)) || !fp m.ai || (decide (m.ai[0] < 1) || decide (536870911 < m.ai[m.ai.length - 1]'(by omega)))) := by
 unfold aU.order; rw [DD h, Cu h]
 have : (m.ai == []) = false := by cases hb : m.ai with | nil => rw [hb] at h; simp at h | cons a l => rfl
 rw [this]; simp
theorem aU.C8 {m : aU} (h : m.ai.length ≤ 0) : m.order = (!fp (m.fields.map (·.num)) || !fp m.ai) := by
 unfold aU.order
 have : m.ai = [] := List.length_eq_zero_iff.1 (by omega)
 rw [this]; simp
inductive Tree.Sub : Tree → Tree → Prop where
 | refl (t : Tree) : Sub t t
 | step {t t1 t2 : Tree} {v : bF} {x : Slot} (h1 : t1 ∈ v.m) (h2 : v ∈ x.ag) (h3 : x ∈ t2.aO) (h : Sub t t1) : Sub t t2
def Tree.eO (Q : Tree → Prop) (t : Tree) : Prop := ∀ u, Tree.Sub u t → Q u
theorem Tree.eO.here {Q : Tree → Prop} {t : Tree} (h : t.eO Q) : Q t := h t (.refl t)
theorem Tree.eO.sub {Q : Tree → Prop} {t t1 : Tree} {v : bF} {x : Slot} (h : t.eO Q) (h1 : t1 ∈ v.m) (h2 : v ∈ x.ag) (h3 : x ∈ t.aO) : t1.eO Q := fun u hu => h u (.step h1 h2 h3 hu)
theorem Tree.eO.mk {Q : Tree → Prop} {t : Tree} (h : Q t) (hs : ∀ x ∈ t.aO, ∀ v ∈ x.ag, ∀ u ∈ v.m, u.eO Q) : t.eO Q := by
 intro u hu
 cases hu with
 | refl => exact h
 | step h1 h2 h3 hh => exact hs _ h3 _ h2 _ h1 u hh
theorem Tree.sub_lt {t t1 : Tree} {v : bF} {x : Slot} (h1 : t1 ∈ v.m) (h2 : v ∈ x.ag) (h3 : x ∈ t.aO) : SizeOf.sizeOf t1 < SizeOf.sizeOf t := by
 cases t with
 | mk ss r =>
  cases x with
  | mk n vs =>
   cases v with
   | mk k s m =>
    have a1 : SizeOf.sizeOf t1 < SizeOf.sizeOf m := List.sizeOf_lt_of_mem h1
    have a2 : SizeOf.sizeOf (bF.mk k s m) < SizeOf.sizeOf vs := List.sizeOf_lt_of_mem h2
    have a3 : SizeOf.sizeOf (Slot.mk n vs) < SizeOf.sizeOf ss := List.sizeOf_lt_of_mem h3
    simp only [bF.mk.sizeOf_spec, Slot.mk.sizeOf_spec, Tree.mk.sizeOf_spec] at *
    omega
theorem Tree.ind {Q : Tree → Prop} (h : ∀ t, (∀ x ∈ t.aO, ∀ v ∈ x.ag, ∀ u ∈ v.m, Q u) → Q t) : ∀ t, Q t := by
 have key : ∀ (n : Nat) t, SizeOf.sizeOf t < n → Q t := by
  intro n
  induction n with
  | zero => intro t ht; omega
  | succ n ih => intro t ht; exact h t fun x hx v hv u hu => ih u (by have := Tree.sub_lt hu hv hx; omega)
 exact fun t => key _ t (Nat.lt_succ_self _)
structure Tree.PA (t : Tree) : Prop where
 s : t.aO.length ≤ 9223372036854775807
 r : t.rest.length ≤ 9223372036854775807
 v : ∀ x ∈ t.aO, x.ag.length ≤ 9223372036854775807
 m : ∀ x ∈ t.aO, ∀ v ∈ x.ag, v.m.length ≤ 9223372036854775807
 vs : ∀ x ∈ t.aO, ∀ v ∈ x.ag, v.s.length ≤ 9223372036854775807
 vn : ∀ x ∈ t.aO, ∀ v ∈ x.ag, v.n < 18446744073709551616
 rs : ∀ r ∈ t.rest, r.s.length ≤ 9223372036854775807
 rn : ∀ r ∈ t.rest, r.n < 18446744073709551616
def Tree.eK (t : Tree) : Prop := t.eO Tree.PA
noncomputable def Dc {α : Type} (a b : α) : Bool := @decide (a = b) (Classical.propDecidable _)
theorem bM {α : Type} {a b : α} : Dc a b = true ↔ a = b := by unfold Dc; simp
theorem bK {α : Type} {a b : α} : Dc a b = false ↔ ¬ a = b := by unfold Dc; simp
theorem GY {α : Type} (a : α) : Dc a a = true := bM.2 rfl
theorem Tree.ext {a b : Tree} (h1 : a.aO = b.aO) (h2 : a.rest = b.rest) : a = b := by cases a; cases b; simp [Tree.aO, Tree.rest] at *; exact ⟨h1, h2⟩
theorem Slot.ext {a b : Slot} (h1 : a.num = b.num) (h2 : a.ag = b.ag) : a = b := by cases a; cases b; simp [Slot.num, Slot.ag] at *; exact ⟨h1, h2⟩
theorem bF.ext {a b : bF} (h1 : a.n = b.n) (h2 : a.s = b.s) (h3 : a.m = b.m) : a = b := by cases a; cases b; simp [bF.n, bF.s, bF.m] at *; exact ⟨h1, h2, h3⟩
theorem iu {α : Type} {a b : List α} {i : Nat} (ha : i < a.length) (hb : i < b.length) (h : a.take i = b.take i) (e : a[i] = b[i]) : a.take (i + 1) = b.take (i + 1) := by
 rw [List.take_succ_eq_append_getElem ha, List.take_succ_eq_append_getElem hb, h, e]
theorem jg {α : Type} {a b : List α} {i : Nat} (hl : a.length = b.length) (hi : a.length ≤ i) (h : a.take i = b.take i) : a = b := by
 rwa [List.take_of_length_le hi, List.take_of_length_le (by omega)] at h
theorem BL {α : Type} {a b : List α} {i : Nat} (ha : i < a.length) (hb : i < b.length) (e : ¬ a[i] = b[i]) : ¬ a = b := by
 rintro rfl; exact e rfl
abbrev dc (n : Int) : Int := IntKind.i64.wrap n
def jq : List Rw → Int → Int
 | [], n => n
 | x :: l, n => if 0 ≤ n then jq l (dc (n - dc ((x.s.length : Int).tdiv 20))) else n
mutual
def Tree.left : Tree → Int → Int → Int
 | .mk ss r, n, d => if d ≤ 0 then -1 else jW ss (jq r (dc (dc (n - (r.length : Int)) - (ss.length : Int)))) d
def Slot.left : Slot → Int → Int → Int
 | .mk _ vs, n, d => ic vs (dc (n - (vs.length : Int))) d
def bF.left : bF → Int → Int → Int
 | .mk _ s m, n, d => ig m (dc (n - dc ((s.length : Int).tdiv 20))) d
def jW : List Slot → Int → Int → Int
 | [], n, _ => n
 | x :: l, n, d => if 0 ≤ n then jW l (x.left n d) d else n
def ic : List bF → Int → Int → Int
 | [], n, _ => n
 | x :: l, n, d => if 0 ≤ n then ic l (x.left n d) d else n
def ig : List Tree → Int → Int → Int
 | [], n, _ => n
 | x :: l, n, d => if 0 ≤ n then ig l (x.left (dc (n - 1)) (dc (d - 1))) d else n
end
theorem Tree.left_eq (t : Tree) (n d : Int) : t.left n d = if d ≤ 0 then -1 else jW t.aO (jq t.rest (dc (dc (n - (t.rest.length : Int)) - (t.aO.length : Int)))) d := by
 cases t; simp [Tree.left, Tree.aO, Tree.rest]
theorem Slot.left_eq (x : Slot) (n d : Int) : x.left n d = ic x.ag (dc (n - (x.ag.length : Int))) d := by
 cases x; simp [Slot.left, Slot.ag]
theorem bF.left_eq (x : bF) (n d : Int) : x.left n d = ig x.m (dc (n - dc ((x.s.length : Int).tdiv 20))) d := by
 cases x; simp [bF.left, bF.s, bF.m]
theorem zm {l : List Rw} {i : Nat} {n : Int} (h : i < l.length) : jq (l.drop i) n = if 0 ≤ n then jq (l.drop (i + 1)) (dc (n - dc ((l[i].s.length : Int).tdiv 20))) else n := by
 rw [List.drop_eq_getElem_cons h]; rfl
theorem zl {l : List Slot} {i : Nat} {n d : Int} (h : i < l.length) : jW (l.drop i) n d = if 0 ≤ n then jW (l.drop (i + 1)) (l[i].left n d) d else n := by
 rw [List.drop_eq_getElem_cons h]; simp [jW]
theorem zj {l : List bF} {i : Nat} {n d : Int} (h : i < l.length) : ic (l.drop i) n d = if 0 ≤ n then ic (l.drop (i + 1)) (l[i].left n d) d else n := by
 rw [List.drop_eq_getElem_cons h]; simp [ic]
theorem zk {l : List Tree} {i : Nat} {n d : Int} (h : i < l.length) : ig (l.drop i) n d = if 0 ≤ n then ig (l.drop (i + 1)) (l[i].left (dc (n - 1)) (dc (d - 1))) d else n := by
 rw [List.drop_eq_getElem_cons h]; simp [ig]
theorem Cs {l : List Rw} {i : Nat} {n : Int} (h : l.length ≤ i) : jq (l.drop i) n = n := by rw [List.drop_of_length_le h]; rfl
theorem Cr {l : List Slot} {i : Nat} {n d : Int} (h : l.length ≤ i) : jW (l.drop i) n d = n := by rw [List.drop_of_length_le h]; simp [jW]
theorem Cp {l : List bF} {i : Nat} {n d : Int} (h : l.length ≤ i) : ic (l.drop i) n d = n := by rw [List.drop_of_length_le h]; simp [ic]
theorem Cq {l : List Tree} {i : Nat} {n d : Int} (h : l.length ≤ i) : ig (l.drop i) n d = n := by rw [List.drop_of_length_le h]; simp [ig]
theorem ka {l : List Rw} {n : Int} (h : ¬ 0 ≤ n) : jq l n = n := by cases l <;> simp [jq]; omega
theorem p7 {l : List Slot} {n d : Int} (h : ¬ 0 ≤ n) : jW l n d = n := by cases l <;> simp [jW]; omega
theorem pY {l : List bF} {n d : Int} (h : ¬ 0 ≤ n) : ic l n d = n := by cases l <;> simp [ic]; omega
theorem pZ {l : List Tree} {n d : Int} (h : ¬ 0 ≤ n) : ig l n d = n := by cases l <;> simp [ig]; omega
def qX (t : Int) : Int :=
 if t = 1 ∨ t = 5 ∨ t = 10 then 7 else if t = 2 ∨ t = 6 ∨ t = 11 then 15 else if t = 3 ∨ t = 8 then 3 else if t = 4 ∨ t = 9 then 11 else if t = 7 then 2 else if t = 14 then 6 else 0
theorem iD (t : Int) : (t < 1 ∨ 15 < t) ∨ t = 1 ∨ t = 2 ∨ t = 3 ∨ t = 4 ∨ t = 5 ∨ t = 6 ∨ t = 7 ∨ t = 8 ∨ t = 9 ∨ t = 10 ∨ t = 11 ∨ t = 12 ∨ t = 13 ∨ t = 14 ∨ t = 15 := by omega
theorem gg {t : Int} (h : t < 1 ∨ 15 < t) : qX t = 0 := by unfold qX; split <;> first | omega | (split <;> first | omega | (split <;> first | omega | (split <;> first | omega | (split <;> first | omega | (split <;> first | omega | rfl)))))
theorem Fp (t : Int) : (!(ju .and .i64 (qX t) 2 == 0)) = pS t := by
 rcases iD t with h | h
 ·rw [gg h, show ju .and .i64 0 2 = 0 by decide]
  have : pS t = false := by unfold pS c8; simp; omega
  rw [this]; rfl
 ·rcases h with rfl | rfl | rfl | rfl | rfl | rfl | rfl | rfl | rfl | rfl | rfl | rfl | rfl | rfl | rfl <;> decide
theorem zp (t : Int) : (!(ju .and .i64 (qX t) 1 == 0)) = c8 t := by
 rcases iD t with h | h
 ·rw [gg h, show ju .and .i64 0 1 = 0 by decide]
  have : c8 t = false := by unfold c8; simp; omega
  rw [this]; rfl
 ·rcases h with rfl | rfl | rfl | rfl | rfl | rfl | rfl | rfl | rfl | rfl | rfl | rfl | rfl | rfl | rfl <;> decide
theorem Cw (t : Int) : (!(ju .and .i64 (qX t) 4 == 0)) = ed t := by
 rcases iD t with h | h
 ·rw [gg h, show ju .and .i64 0 4 = 0 by decide]
  have : ed t = false := by unfold ed; simp; omega
  rw [this]; rfl
 ·rcases h with rfl | rfl | rfl | rfl | rfl | rfl | rfl | rfl | rfl | rfl | rfl | rfl | rfl | rfl | rfl <;> decide
theorem Cv (t : Int) : (!(ju .and .i64 (qX t) 8 == 0)) = iX t := by
 rcases iD t with h | h
 ·rw [gg h, show ju .and .i64 0 8 = 0 by decide]
  have : iX t = false := by unfold iX; simp; omega
  rw [this]; rfl
 ·rcases h with rfl | rfl | rfl | rfl | rfl | rfl | rfl | rfl | rfl | rfl | rfl | rfl | rfl | rfl | rfl <;> decide
theorem Cx {t : Int} (h0 : 0 ≤ t) (h1 : t < 16) : ([.int .i64 0, .int .i64 7, .int .i64 15, .int .i64 3, .int .i64 11, .int .i64 7, .int .i64 15, .int .i64 2, .int .i64 3, .int .i64 11, .int .i64 7, .int .i64 15, .int .i64 0, .int .i64 0, .int .i64 6, .int .i64 0] : List AV)[t.toNat]? = some (.int .i64 (qX t)) := by
 have : t = 0 ∨ t = 1 ∨ t = 2 ∨ t = 3 ∨ t = 4 ∨ t = 5 ∨ t = 6 ∨ t = 7 ∨ t = 8 ∨ t = 9 ∨ t = 10 ∨ t = 11 ∨ t = 12 ∨ t = 13 ∨ t = 14 ∨ t = 15 := by omega
 rcases this with rfl | rfl | rfl | rfl | rfl | rfl | rfl | rfl | rfl | rfl | rfl | rfl | rfl | rfl | rfl | rfl <;> rfl
def HF (n : Nat) : Int := IntKind.i64.wrap (n : Int)
def j1 (z : Int) : Bool := decide (-2147483648 ≤ z) && decide (z ≤ 2147483647)
theorem DO (z : Int) : (IntKind.i64.wrap (IntKind.i32.wrap z) == z) = j1 z := by
 have h : IntKind.i64.wrap (IntKind.i32.wrap z) = IntKind.i32.wrap z := by simp only [IntKind.wrap, IntKind.bits, IntKind.signed]; simp; omega
 rw [h]
 simp only [IntKind.wrap, IntKind.bits, IntKind.signed, j1]
 rw [Bool.eq_iff_iff]
 simp
 omega
def je (t : Int) (n : Nat) : Bool :=
 if t < 1 ∨ 15 < t then false else if iX t then true else if ed t then j1 (HF n) else if t = 3 ∨ t = 8 then decide (n < 4294967296) else if t = 7 then decide (n < 2) else decide (n = 0)
def H5 : List aw := [[], [105, 110, 116, 51, 50], [105, 110, 116, 54, 52], [117, 105, 110, 116, 51, 50], [117, 105, 110, 116, 54, 52], [115, 105, 110, 116, 51, 50], [115, 105, 110, 116, 54, 52], [98, 111, 111, 108], [102, 105, 120, 101, 100, 51, 50], [102, 105, 120, 101, 100, 54, 52], [115, 102, 105, 120, 101, 100, 51, 50], [115, 102, 105, 120, 101, 100, 54, 52], [115, 116, 114, 105, 110, 103], [98, 121, 116, 101, 115], [], []]
def uw (t : Int) : aw := if t < 0 ∨ 16 ≤ t then [] else H5.getD t.toNat []
def PQ (t : Int) (n : Nat) (neg : Bool) : Option Nat :=
 if c8 t = false then none
 else if neg = true ∧ 0 < n then (if ed t = false ∨ 9223372036854775808 < n then none else if je t (18446744073709551616 - n) then some (18446744073709551616 - n) else none)
 else if ed t = true ∧ 9223372036854775808 ≤ n then none else if je t n then some n else none
section
variable (L : List Tk)
end
theorem gC (n : Int) : Pure Tryz.prog 158 [.int .i64 n] (.bool (qg n)) := by
 refine Pure.go II mixed Tryz.func158 rfl rfl fun H => (aC (fun hg1 => ?_) (fun hg1 => ?_))
 ·refine aC (fun hg2 => ?_) (fun hg2 => ?_)
  ·refine aC (fun hg3 => ?_) (fun hg3 => ?_)
   ·exact aN rfl rfl rfl (by grind [qg])
   ·exact aN rfl rfl rfl (by grind [qg])
  ·exact aN rfl rfl rfl (by grind [qg])
 ·exact aN rfl rfl rfl (by grind [qg])
theorem rp (n : Int) : Pure Tryz.prog 115 [.int .i64 n] (.bool (c8 n)) := by
 refine Pure.go II mixed Tryz.func115 rfl rfl fun H => (aC (fun hg1 => ?_) (fun hg1 => ?_))
 ·refine aC (fun hg2 => ?_) (fun hg2 => ?_)
  ·exact aN rfl rfl rfl (by grind [c8])
  ·refine aC (fun hg3 => ?_) (fun hg3 => ?_)
   ·exact aN rfl rfl rfl (by grind [c8])
   ·exact aN rfl rfl rfl (by grind [c8])
 ·refine aC (fun hg4 => ?_) (fun hg4 => ?_)
  ·exact aN rfl rfl rfl (by grind [c8])
  ·exact aN rfl rfl rfl (by grind [c8])
theorem qn (n : Int) : Pure Tryz.prog 168 [.int .i64 n] (.bool (ed n)) := by
 refine Pure.go II mixed Tryz.func168 rfl rfl fun H => (aC (fun hg1 => ?_) (fun hg1 => ?_))
 ·exact aN rfl rfl rfl (by grind [ed])
 ·refine aC (fun hg2 => ?_) (fun hg2 => ?_)
  ·exact aN rfl rfl rfl (by grind [ed])
  ·refine aC (fun hg3 => ?_) (fun hg3 => ?_)
   ·exact aN rfl rfl rfl (by grind [ed])
   ·refine aC (fun hg4 => ?_) (fun hg4 => ?_)
    ·exact aN rfl rfl rfl (by grind [ed])
    ·refine aC (fun hg5 => ?_) (fun hg5 => ?_)
     ·exact aN rfl rfl rfl (by grind [ed])
     ·refine aC (fun hg6 => ?_) (fun hg6 => ?_)
      ·exact aN rfl rfl rfl (by grind [ed])
      ·exact aN rfl rfl rfl (by grind [ed])
theorem qm (n : Int) : Pure Tryz.prog 167 [.int .i64 n] (.bool (iX n)) := by
 refine Pure.go II mixed Tryz.func167 rfl rfl fun H => (aC (fun hg1 => ?_) (fun hg1 => ?_))
 ·exact aN rfl rfl rfl (by grind [iX])
 ·refine aC (fun hg2 => ?_) (fun hg2 => ?_)
  ·exact aN rfl rfl rfl (by grind [iX])
  ·refine aC (fun hg3 => ?_) (fun hg3 => ?_)
   ·exact aN rfl rfl rfl (by grind [iX])
   ·refine aC (fun hg4 => ?_) (fun hg4 => ?_)
    ·exact aN rfl rfl rfl (by grind [iX])
    ·exact aN rfl rfl rfl (by grind [iX])
theorem E0 (n : Int) : Pure Tryz.prog 134 [.int .i64 n] (.bool (pS n)) := by
 refine Pure.go II mixed Tryz.func134 rfl rfl fun H => (aB.jc rfl (Fn rfl) rfl (rp _) (aC (fun hg1 => ?_) (fun hg1 => ?_)))
 ·exact aN rfl rfl rfl (by grind [pS])
 ·refine aC (fun hg2 => ?_) (fun hg2 => ?_)
  ·exact aN rfl rfl rfl (by grind [pS])
  ·exact aN rfl rfl rfl (by grind [pS])
theorem IA (n w : Int) : Pure Tryz.prog 91 [.int .i64 n, .int .i64 w] (.bool (jh n w)) := by
 refine Pure.go II mixed Tryz.func91 rfl rfl fun H => (aC (fun hg1 => ?_) (fun hg1 => ?_))
 ·refine aC (fun hg2 => ?_) (fun hg2 => ?_)
  ·refine aC (fun hg3 => ?_) (fun hg3 => ?_)
   ·exact aN rfl rfl rfl (by grind [jh])
   ·refine aC (fun hg4 => ?_) (fun hg4 => ?_)
    ·exact aN rfl rfl rfl (by grind [jh])
    ·refine aC (fun hg5 => ?_) (fun hg5 => ?_)
     ·exact aN rfl rfl rfl (by grind [jh])
     ·exact aN rfl rfl rfl (by grind [jh])
  ·exact aN rfl rfl rfl (by grind [jh])
 ·exact aN rfl rfl rfl (by grind [jh])
theorem xA (c : UInt8) : Pure Tryz.prog 156 [.int .u8 (c.toNat : Int)] (.bool (letter c)) := by
 refine Pure.go II mixed Tryz.func156 rfl rfl fun H => (aC (fun hg1 => ?_) (fun hg1 => ?_))
 ·refine aC (fun hg2 => ?_) (fun hg2 => ?_)
  ·exact aN rfl rfl rfl (by grind [letter])
  ·refine aC (fun hg3 => ?_) (fun hg3 => ?_)
   ·exact aN rfl rfl rfl (by grind [letter])
   ·exact aN rfl rfl rfl (by grind [letter])
 ·refine aC (fun hg4 => ?_) (fun hg4 => ?_)
  ·exact aN rfl rfl rfl (by grind [letter])
  ·exact aN rfl rfl rfl (by grind [letter])
theorem Hw : Pure Tryz.prog 157 [] (.sl (pB.map .str)) := by
 exact Pure.ah Tryz.func157 rfl rfl (Nat.zero_le _) fun H => (aK.go II mixed ⟨.inr rfl, (aM.r1 rfl (.tmp rfl .nil)).cast rfl, rfl⟩)
theorem cY : ie Tryz.prog 100 = some 1 := by kernel_rfl
theorem dw : ie Tryz.prog 22 = some 2 := by kernel_rfl
theorem bW : ie Tryz.prog 23 = some 3 := by kernel_rfl
theorem c9 : ie Tryz.prog 60 = some 1 := by kernel_rfl
theorem fC : Tryz.prog.underlying 9 = some TypeDesc.string := Tryz.underlying9
theorem du (s : aw) : Pure Tryz.prog 105 [.str s] (.bool (aq s)) := by
 refine Pure.go II mixed Tryz.func105 rfl rfl fun H => (aC (fun hg1 => ?_) (fun hg1 => ?_))
 ·exact aN rfl rfl rfl (by grind [aq, yb])
 ·refine aC (fun hg2 => ?_) (fun hg2 => ?_)
  ·exact aN rfl rfl rfl (by grind [aq, yb])
  ·refine aB.d1 rfl (eF (aH rfl) fC rfl rfl (by decide) (show s[0]? = some (s.headD 0) by cases s with | nil => simp at hg2 hg1 | cons a l => rfl)) (aB.jc rfl (Fn rfl) rfl (xA _) (aC (fun hc3 => ?_) (fun hc3 => ?_)))
   ·exact aN rfl rfl rfl (by grind [aq, yb])
   ·refine aG.lq [.s 3, .h, .s 0] (fun (i : Nat) => [(.s 3, .sv (.v (.int .i64 (i : Int))))]) (fun (i : Nat) => (s.drop i).all yb = s.all yb) (fun (i : Nat) => s.length - i) 0 rfl rfl (by simp) ?_
    rintro i hI
    refine aC (fun hc4 => ?_) (fun hc4 => ?_)
    ·have hi := P4 hc4
     have hS := iK (p := yb) hi
     have hL : s.length ≤ 12 := by have := of_decide_eq_false hg2; omega
     refine aB.d1 rfl (eF (aH rfl) fC rfl rfl (Int.natCast_nonneg _) (N8 hi)) (aB.jc rfl (Fn rfl) rfl (xA _) (aC (fun hg5 => ?_) (fun hg5 => ?_)))
     ·refine aB.d1 rfl (eF (aH rfl) fC rfl rfl (Int.natCast_nonneg _) (N8 hi)) (aC (fun hg6 => ?_) (fun hg6 => ?_))
      ·refine aB.d1 rfl (eF (aH rfl) fC rfl rfl (Int.natCast_nonneg _) (N8 hi)) (aC (fun hc7 => ?_) (fun hc7 => ?_))
       ·exact aN rfl rfl rfl (by grind [aq, yb])
       ·exact .b1 3 rfl (inc (by omega)) rfl ⟨i + 1, by omega, by grind [yb], rfl⟩
      ·refine aB.d1 rfl (eF (aH rfl) fC rfl rfl (Int.natCast_nonneg _) (N8 hi)) (aC (fun hg8 => ?_) (fun hg8 => ?_))
       ·refine aB.d1 rfl (eF (aH rfl) fC rfl rfl (Int.natCast_nonneg _) (N8 hi)) (aC (fun hc9 => ?_) (fun hc9 => ?_))
        ·exact aN rfl rfl rfl (by grind [aq, yb])
        ·exact .b1 3 rfl (inc (by omega)) rfl ⟨i + 1, by omega, by grind [yb], rfl⟩
       ·exact .b1 3 rfl (inc (by omega)) rfl ⟨i + 1, by omega, by grind [yb], rfl⟩
     ·exact .b1 3 rfl (inc (by omega)) rfl ⟨i + 1, by omega, by grind [yb], rfl⟩
    ·have hi := P6 hc4
     have hS := lV (p := yb) hi
     refine aB.jc rfl (Fn rfl) rfl Hw (aG.lq [.s 5, .h, .s 0, .s 4] (fun (j : Nat) => [(.s 5, .sv (.v (.int .i64 (j : Int))))]) (fun (j : Nat) => (pB.drop j).all (fun w => !(w == s)) = pB.all (fun w => !(w == s))) (fun (j : Nat) => pB.length - j) 0 rfl rfl (by simp) ?_)
     rintro j hJ
     refine aC (fun hc10 => ?_) (fun hc10 => ?_)
     ·have hj := cz hc10
      have hT := iK (p := fun w => !(w == s)) hj
      have hW : pB.length = 35 := rfl
      refine aB.ii rfl cY rfl rfl (ca hj) rfl (aC (fun hc11 => ?_) (fun hc11 => ?_))
      ·exact aN rfl rfl rfl (by grind [aq, yb])
      ·exact .b1 5 rfl (inc (by omega)) rfl ⟨j + 1, by omega, by grind, rfl⟩
     ·have hj := dA hc10
      have hT := lV (p := fun w => !(w == s)) hj
      exact aN rfl rfl rfl (by grind [aq, yb])
theorem rr (l : List aw) (hl : l.length ≤ 9223372036854775807) : Pure Tryz.prog 107 [.sl (l.map .str)] (.bool (once l)) := by
 refine Pure.go II mixed Tryz.func107 rfl rfl fun H => (aG.lq [.s 3, .h, .s 0] (fun (i : Nat) => [(.s 3, .sv (.v (.int .i64 (i : Int))))]) (fun (i : Nat) => gG l (l.drop i) i = once l) (fun (i : Nat) => l.length - i) 0 rfl rfl (by simp [once]) ?_)
 rintro i hI
 refine aC (fun hc1 => ?_) (fun hc1 => ?_)
 ·have hi := cz hc1
  have hS := tp hi
  refine aG.lq [.s 4, .h, .s 0, .s 3] (fun (k : Nat) => [(.s 4, .sv (.v (.int .i64 (k : Int))))]) (fun (k : Nat) => ((l.take i).drop k).any (fun b => l[i] == b) = (l.take i).any (fun b => l[i] == b)) (fun (k : Nat) => i - k) 0 rfl rfl (by simp) ?_
  rintro k hK
  refine aC (fun hc2 => ?_) (fun hc2 => ?_)
  ·have hk := P3 hc2
   have hT := bz (p := fun b => l[i] == b) (l := l.take i) (i := k) (by simp; omega)
   have hG : (l.take i)[k]'(by simp; omega) = l[k]'(by omega) := by simp
   refine ⟨rfl, (aF.d1 rfl (bP (aH rfl) cY rfl rfl (ca hi) rfl) (aF.d1 rfl (bP (aH rfl) cY rfl rfl (ca (Nat.lt_trans hk hi)) rfl) ⟨by kernel_rfl, (aC (fun hc3 => ?_) (fun hc3 => ?_))⟩))⟩
   ·exact aN rfl rfl rfl (by grind [once])
   ·exact .b1 4 rfl (inc (by omega)) rfl ⟨k + 1, by omega, by grind, rfl⟩
  ·have hk := P5 hc2
   have hT := cZ (p := fun b => l[i] == b) (l := l.take i) (i := k) (by simp; omega)
   exact .b1 3 rfl (inc (by omega)) rfl ⟨i + 1, by omega, by grind, rfl⟩
 ·have hi := dA hc1
  have hS := vk hi
  exact aN rfl rfl rfl (by grind [once])
theorem Af (l : List aw) (hl : l.length ≤ 9223372036854775807) : Pure Tryz.prog 109 [.sl (l.map .str)] (.bool (lz l)) := by
 refine Pure.go II mixed Tryz.func109 rfl rfl fun H => (aG.lq [.s 3, .h, .s 0] (fun (i : Nat) => [(.s 3, .sv (.v (.int .i64 (i : Int))))]) (fun (i : Nat) => 0 < i ∧ lz (l.drop (i - 1)) = lz l) (fun (i : Nat) => l.length - i) 1 rfl rfl (by simp) ?_)
 rintro i hI
 refine aC (fun hc1 => ?_) (fun hc1 => ?_)
 ·have hi := cz hc1
  have hS := zG hI.1 hi
  refine ⟨rfl, (aF.d1 rfl (ak (aH rfl) cY rfl rfl (by rw [qh hI.1 (by omega)]; exact Int.natCast_nonneg _) (so (qh hI.1 (by omega)) (show i - 1 < l.length by omega)) rfl) ?_)⟩
  refine aF.d1 rfl (bP (aH rfl) cY rfl rfl (ca hi) rfl) ⟨by kernel_rfl, (aC (fun hc2 => ?_) (fun hc2 => ?_))⟩
  ·exact aN rfl rfl rfl (by grind [])
  ·exact .b1 3 rfl (inc (by omega)) rfl ⟨i + 1, by omega, ⟨by omega, by grind⟩, rfl⟩
 ·have hi := dA hc1
  have hS := CJ hI.1 hi
  exact aN rfl rfl rfl (by grind [])
theorem vV (l : List Int) (hl : l.length ≤ 9223372036854775807) : Pure Tryz.prog 108 [.sl (l.map eJ)] (.bool (fp l)) := by
 refine Pure.go II mixed Tryz.func108 rfl rfl fun H => (aG.lq [.s 3, .h, .s 0] (fun (i : Nat) => [(.s 3, .sv (.v (.int .i64 (i : Int))))]) (fun (i : Nat) => 0 < i ∧ fp (l.drop (i - 1)) = fp l) (fun (i : Nat) => l.length - i) 1 rfl rfl (by simp) ?_)
 rintro i hI
 refine aC (fun hc1 => ?_) (fun hc1 => ?_)
 ·have hi := cz hc1
  have hS := zF hI.1 hi
  refine ⟨rfl, (aF.d1 rfl (ak (aH rfl) c9 rfl rfl (by rw [qh hI.1 (by omega)]; exact Int.natCast_nonneg _) (so (qh hI.1 (by omega)) (show i - 1 < l.length by omega)) rfl) ?_)⟩
  refine aF.d1 rfl (bP (aH rfl) c9 rfl rfl (ca hi) rfl) ⟨by kernel_rfl, (aC (fun hc2 => ?_) (fun hc2 => ?_))⟩
  ·exact aN rfl rfl rfl (by grind [])
  ·exact .b1 3 rfl (inc (by omega)) rfl ⟨i + 1, by omega, ⟨by omega, by grind⟩, rfl⟩
 ·have hi := dA hc1
  have hS := CI hI.1 hi
  exact aN rfl rfl rfl (by grind [])
theorem Jv (l : List Int) (n : Int) (hl : l.length ≤ 9223372036854775807) : Pure Tryz.prog 111 [.sl (l.map eJ), .int .i64 n] (.bool (l.any (· == n))) := by
 refine Pure.go II mixed Tryz.func111 rfl rfl fun H => (aG.lq [.s 5, .h, .s 0, .s 1] (fun (i : Nat) => [(.s 5, .sv (.v (.int .i64 (i : Int))))]) (fun (i : Nat) => (l.drop i).any (· == n) = l.any (· == n)) (fun (i : Nat) => l.length - i) 0 rfl rfl (by simp) ?_)
 rintro i hI
 refine aC (fun hc1 => ?_) (fun hc1 => ?_)
 ·have hi := cz hc1
  have hS := bz (p := (· == n)) hi
  refine aB.ii rfl c9 rfl rfl (ca hi) rfl (aC (fun hc2 => ?_) (fun hc2 => ?_))
  ·exact aN rfl rfl rfl (by grind [])
  ·exact .b1 5 rfl (inc (by omega)) rfl ⟨i + 1, by omega, by grind, rfl⟩
 ·have hi := dA hc1
  have hS := cZ (p := (· == n)) hi
  exact aN rfl rfl rfl (by grind [])
theorem jl (s : aL) (name : aw) (hl : s.msgs.length ≤ 9223372036854775807) : Pure Tryz.prog 46 [s.av, .str name] (.int .i64 (s.bL name)) := by
 refine Pure.go II mixed Tryz.func46 rfl rfl fun H => (aG.lq [.s 5, .h, .s 1, .s 2, .b 2] (fun (i : Nat) => [(.s 5, .sv (.v (.int .i64 (i : Int))))]) (fun (i : Nat) => bI (fun m : aU => m.name == name) (s.msgs.drop i) i = s.bL name) (fun (i : Nat) => s.msgs.length - i) 0 rfl rfl (by simp [aL.bL]) ?_)
 rintro i hI
 refine aC (fun hc1 => ?_) (fun hc1 => ?_)
 ·have hi := cz hc1
  have hS := bo (p := (fun m : aU => m.name == name)) hi
  refine aB.ii rfl bW rfl rfl (ca hi) rfl (aC (fun hc2 => ?_) (fun hc2 => ?_))
  ·exact cC rfl rfl rfl (by grind [aL.bL])
  ·exact .b1 5 rfl (inc (by omega)) rfl ⟨i + 1, by omega, by grind, rfl⟩
 ·have hi := dA hc1
  have hS := dT (p := (fun m : aU => m.name == name)) hi
  exact cC rfl rfl rfl (by grind [aL.bL])
theorem xB (s : aL) (name : aw) (hl : s.enums.length ≤ 9223372036854775807) : Pure Tryz.prog 112 [s.av, .str name] (.int .i64 (s.fL name)) := by
 refine Pure.go II mixed Tryz.func112 rfl rfl fun H => (aG.lq [.s 5, .h, .s 1, .s 2, .b 2] (fun (i : Nat) => [(.s 5, .sv (.v (.int .i64 (i : Int))))]) (fun (i : Nat) => bI (fun m : eQ => m.name == name) (s.enums.drop i) i = s.fL name) (fun (i : Nat) => s.enums.length - i) 0 rfl rfl (by simp [aL.fL]) ?_)
 rintro i hI
 refine aC (fun hc1 => ?_) (fun hc1 => ?_)
 ·have hi := cz hc1
  have hS := bo (p := (fun m : eQ => m.name == name)) hi
  refine aB.ii rfl dw rfl rfl (ca hi) rfl (aC (fun hc2 => ?_) (fun hc2 => ?_))
  ·exact cC rfl rfl rfl (by grind [aL.fL])
  ·exact .b1 5 rfl (inc (by omega)) rfl ⟨i + 1, by omega, by grind, rfl⟩
 ·have hi := dA hc1
  have hS := dT (p := (fun m : eQ => m.name == name)) hi
  exact cC rfl rfl rfl (by grind [aL.fL])
theorem LK (f : ae) : Pure Tryz.prog 106 [f.av] (.int .i64 f.iN) := by
 refine Pure.gn 4 II mixed Tryz.func106 rfl rfl fun H => (aG.jn 999 0 [.h, .s 1, .b 1] (fun (_ : Unit) => []) (fun (_ : Unit) => aq f.name = true ∧ (f.one = [] ∨ aq f.one = true)) rfl ?_ ?_)
 ·refine aB.jc rfl (Fn rfl) rfl (du _) (aC (fun hg1 => ?_) (fun hg1 => ?_))
  ·exact cC rfl rfl rfl (by grind [ae.iN])
  ·refine aC (fun hg2 => ?_) (fun hg2 => ?_)
   ·refine aB.jc rfl (Fn rfl) rfl (du _) (aC (fun hc3 => ?_) (fun hc3 => ?_))
    ·exact cC rfl rfl rfl (by grind [ae.iN])
    ·exact .b0 rfl ⟨(), by grind, rfl⟩
   ·exact .b0 rfl ⟨(), by grind, rfl⟩
 ·rintro _ hF3
  refine aG.jn 999 0 [.h, .s 1, .b 1] (fun (_ : Unit) => []) (fun (_ : Unit) => ((f.ty = 14 ∨ f.ty = 15) ∧ aq f.ref = true) ∨ (¬ (f.ty = 14 ∨ f.ty = 15) ∧ f.ref = [])) rfl ?_ ?_
  ·refine aC (fun hg4 => ?_) (fun hg4 => ?_)
   ·refine aB.jc rfl (Fn rfl) rfl (du _) (aC (fun hc5 => ?_) (fun hc5 => ?_))
    ·exact cC rfl rfl rfl (by grind [ae.iN])
    ·exact .b0 rfl ⟨(), by grind, rfl⟩
   ·refine aC (fun hc6 => ?_) (fun hc6 => ?_)
    ·refine aB.jc rfl (Fn rfl) rfl (du _) (aC (fun hc7 => ?_) (fun hc7 => ?_))
     ·exact cC rfl rfl rfl (by grind [ae.iN])
     ·exact .b0 rfl ⟨(), by grind, rfl⟩
    ·refine aC (fun hc8 => ?_) (fun hc8 => ?_)
     ·exact cC rfl rfl rfl (by grind [ae.iN])
     ·exact .b0 rfl ⟨(), by grind, rfl⟩
  ·rintro _ hF8
   refine aG.jn 999 999 [.h, .s 1, .b 1] (fun (_ : Unit) => []) (fun (_ : Unit) => qg f.num = true ∧ 1 ≤ f.ty ∧ f.ty ≤ 15 ∧ (f.rep = false ∨ f.one = [])) rfl ?_ ?_
   ·refine aB.jc rfl (Fn rfl) rfl (gC _) (aC (fun hg9 => ?_) (fun hg9 => ?_))
    ·exact cC rfl rfl rfl (by grind [ae.iN])
    ·refine aC (fun hg10 => ?_) (fun hg10 => ?_)
     ·exact cC rfl rfl rfl (by grind [ae.iN])
     ·refine aC (fun hg11 => ?_) (fun hg11 => ?_)
      ·exact cC rfl rfl rfl (by grind [ae.iN])
      ·refine aC (fun hg12 => ?_) (fun hg12 => ?_)
       ·refine aC (fun hc13 => ?_) (fun hc13 => ?_)
        ·exact cC rfl rfl rfl (by grind [ae.iN])
        ·exact .b0 rfl ⟨(), by grind, rfl⟩
       ·exact .b0 rfl ⟨(), by grind, rfl⟩
   ·rintro _ hF10
    refine aC (fun hg14 => ?_) (fun hg14 => ?_)
    ·refine aC (fun hg15 => ?_) (fun hg15 => ?_)
     ·exact cC rfl rfl rfl (by grind [ae.iN])
     ·refine aB.jc rfl (Fn rfl) rfl (E0 _) (aC (fun hc16 => ?_) (fun hc16 => ?_))
      ·exact cC rfl rfl rfl (by grind [ae.iN])
      ·exact cC rfl rfl rfl (by grind [ae.iN])
    ·exact cC rfl rfl rfl (by grind [ae.iN])
theorem gz : ie Tryz.prog 107 = some 2 := by kernel_rfl
theorem bY : ie Tryz.prog 71 = some 7 := by kernel_rfl
theorem Kx (s : aL) (hs : s.eK) : Pure Tryz.prog 57 [s.av] (.bool s.many) := by
 have := hs.e
 have := hs.m
 refine Pure.gn 4 II mixed Tryz.func57 rfl rfl fun H => (aG.jn 999 999 [.h, .s 1, .b 1] (fun (b : Bool) => [(.s 3, .sv (.v (.bool b)))]) (fun (b : Bool) => b = (decide (3 < s.enums.length) || decide (6 < s.msgs.length))) rfl ?_ ?_)
 ·refine aC (fun hg1 => ?_) (fun hg1 => ?_)
  ·exact .bc [.s 3, .h, .s 1, .b 1] rfl ⟨_, by grind, rfl⟩
  ·exact .bc [.s 3, .h, .s 1, .b 1] rfl ⟨_, by grind, rfl⟩
 ·rintro b hF2
  refine aG.lq [.s 4, .s 3, .h, .s 1, .b 1] (fun ((i, b) : Nat × Bool) => [(.s 4, .sv (.v (.int .i64 (i : Int)))), (.s 3, .sv (.v (.bool b)))]) (fun ((i, b) : Nat × Bool) => (b || (s.enums.drop i).any (fun e : eQ => decide (8 < e.values.length))) = (decide (3 < s.enums.length) || decide (6 < s.msgs.length) || s.enums.any (fun e : eQ => decide (8 < e.values.length)))) (fun ((i, b) : Nat × Bool) => s.enums.length - i) (0, _) rfl rfl (by grind) ?_
  rintro ⟨i, b⟩ hI
  refine aC (fun hc2 => ?_) (fun hc2 => ?_)
  ·have hi := cz hc2
   have hS := bz (p := (fun e : eQ => decide (8 < e.values.length))) hi
   refine aC (fun hg3 => ?_) (fun hg3 => ?_)
   ·exact .b1 4 rfl (inc (by omega)) rfl ⟨(i + 1, _), (by dsimp only; omega), by grind, rfl⟩
   ·exact aB.ii rfl dw rfl rfl (ca hi) rfl (.b1 4 rfl (inc (by omega)) rfl ⟨(i + 1, _), (by dsimp only; omega), by grind, rfl⟩)
  ·have hi := dA hc2
   have hS := cZ (p := (fun e : eQ => decide (8 < e.values.length))) hi
   refine aG.lq [.s 5, .s 3, .h, .s 1, .b 1] (fun ((k, b) : Nat × Bool) => [(.s 5, .sv (.v (.int .i64 (k : Int)))), (.s 3, .sv (.v (.bool b)))]) (fun ((k, b) : Nat × Bool) => (b || (s.msgs.drop k).any (fun m : aU => decide (10 < m.fields.length) || decide (8 < m.ai.length))) = s.many) (fun ((k, b) : Nat × Bool) => s.msgs.length - k) (0, _) rfl rfl (by grind [aL.many]) ?_
   rintro ⟨k, b⟩ hI
   refine aC (fun hc4 => ?_) (fun hc4 => ?_)
   ·have hk := cz hc4
    have hS := bz (p := (fun m : aU => decide (10 < m.fields.length) || decide (8 < m.ai.length))) hk
    refine aC (fun hg5 => ?_) (fun hg5 => ?_)
    ·exact .b1 5 rfl (inc (by omega)) rfl ⟨(k + 1, _), (by dsimp only; omega), by grind, rfl⟩
    ·refine aB.ii rfl bW rfl rfl (ca hk) rfl (aC (fun hg6 => ?_) (fun hg6 => ?_))
     ·exact .b1 5 rfl (inc (by omega)) rfl ⟨(k + 1, _), (by dsimp only; omega), by grind, rfl⟩
     ·exact aB.ii rfl bW rfl rfl (ca hk) rfl (.b1 5 rfl (inc (by omega)) rfl ⟨(k + 1, _), (by dsimp only; omega), by grind, rfl⟩)
   ·have hk := dA hc4
    have hS := cZ (p := (fun m : aU => decide (10 < m.fields.length) || decide (8 < m.ai.length))) hk
    exact aN rfl rfl rfl (by grind [aL.many])
theorem Kv (s : aL) (hs : s.sm) : Pure Tryz.prog 58 [s.av] (.bool s.none) := by
 have := hs.e
 have := hs.m
 refine Pure.go II mixed Tryz.func58 rfl rfl fun H => (aG.lq [.s 4, .s 3, .h, .s 1, .b 1] (fun ((i, b) : Nat × Bool) => [(.s 4, .sv (.v (.int .i64 (i : Int)))), (.s 3, .sv (.v (.bool b)))]) (fun ((i, b) : Nat × Bool) => (b || (s.enums.drop i).any (fun e : eQ => decide (e.values.length = 0))) = s.none) (fun ((i, b) : Nat × Bool) => s.enums.length - i) (0, _) rfl rfl (by grind [aL.none]) ?_)
 rintro ⟨i, b⟩ hI
 refine aC (fun hc1 => ?_) (fun hc1 => ?_)
 ·have hi := cz hc1
  have hS := bz (p := (fun e : eQ => decide (e.values.length = 0))) hi
  refine aC (fun hg2 => ?_) (fun hg2 => ?_)
  ·exact .b1 4 rfl (inc (by omega)) rfl ⟨(i + 1, _), (by dsimp only; omega), by grind, rfl⟩
  ·exact aB.ii rfl dw rfl rfl (ca hi) rfl (.b1 4 rfl (inc (by omega)) rfl ⟨(i + 1, _), (by dsimp only; omega), by grind, rfl⟩)
 ·have hi := dA hc1
  have hS := cZ (p := (fun e : eQ => decide (e.values.length = 0))) hi
  exact aN rfl rfl rfl (by grind [aL.none])
theorem Kp (s : aL) (hs : s.sm) : Pure Tryz.prog 59 [s.av] (.bool s.text) := by
 have := hs.e
 have := hs.m
 refine Pure.go II mixed Tryz.func59 rfl rfl fun H => (aG.lp 8 [.s 4, .s 3, .h, .s 1, .b 1] (fun ((i, b) : Nat × Bool) => [(.s 4, .sv (.v (.int .i64 (i : Int)))), (.s 3, .sv (.v (.bool b)))]) (fun ((i, b) : Nat × Bool) => (b || (s.enums.drop i).any (fun e : eQ => !aq e.name || e.values.any fun v => !aq v.name)) = (s.enums.any (fun e : eQ => !aq e.name || e.values.any fun v => !aq v.name))) (fun ((i, b) : Nat × Bool) => s.enums.length - i) (0, _) rfl rfl (by grind) ?_)
 rintro ⟨i, b⟩ hI
 refine aG.ci 3 999 rfl (fun hc1 => ?_) (fun hc1 => ?_)
 ·have hi := cz hc1
  have hS := bz (p := (fun e : eQ => !aq e.name || e.values.any fun v => !aq v.name)) hi
  have := hs.vi hi
  refine aG.jn 999 999 [.h, .s 1, .b 1, .s 4] (fun (b1 : Bool) => [(.s 3, .sv (.v (.bool b1)))]) (fun (b1 : Bool) => b1 = (b || !aq s.enums[i].name)) rfl ?_ ?_
  ·refine aC (fun hg2 => ?_) (fun hg2 => ?_)
   ·exact .bc [.s 3, .h, .s 1, .b 1, .s 4] rfl ⟨_, by grind, rfl⟩
   ·exact aB.ii rfl dw rfl rfl (ca hi) rfl (aB.jc rfl (Fn rfl) rfl (du _) (.bc [.s 3, .h, .s 1, .b 1, .s 4] rfl ⟨_, by grind, rfl⟩))
  ·rintro b1 hF6
   refine aG.lq [.s 5, .s 3, .h, .s 1, .b 1, .s 4] (fun ((k, b) : Nat × Bool) => [(.s 5, .sv (.v (.int .i64 (k : Int)))), (.s 3, .sv (.v (.bool b)))]) (fun ((k, b) : Nat × Bool) => (b || ((s.enums[i]'hi).values.drop k).any (fun v : ks => !aq v.name)) = (b1 || (s.enums[i]'hi).values.any (fun v : ks => !aq v.name))) (fun ((k, b) : Nat × Bool) => (s.enums[i]'hi).values.length - k) (0, _) rfl rfl (by grind) ?_
   rintro ⟨k, b⟩ hI
   refine aB.ii rfl dw rfl rfl (ca hi) rfl (aC (fun hc3 => ?_) (fun hc3 => ?_))
   ·have hk := cz hc3
    have hS := bz (p := (fun v : ks => !aq v.name)) hk
    refine aC (fun hg4 => ?_) (fun hg4 => ?_)
    ·exact .b1 5 rfl (inc (by omega)) rfl ⟨(k + 1, _), (by dsimp only; omega), by grind, rfl⟩
    ·exact aB.ii rfl dw rfl rfl (ca hi) rfl (aB.ii rfl gz rfl rfl (ca hk) rfl (aB.jc rfl (Fn rfl) rfl (du _) (.b1 5 rfl (inc (by omega)) rfl ⟨(k + 1, _), (by dsimp only; omega), by grind, rfl⟩)))
   ·have hk := dA hc3
    have hS := cZ (p := (fun v : ks => !aq v.name)) hk
    exact .b1 4 rfl (inc (by omega)) rfl ⟨(i + 1, _), (by dsimp only; omega), by grind, rfl⟩
 ·have hi := dA hc1
  have hS := cZ (p := (fun e : eQ => !aq e.name || e.values.any fun v => !aq v.name)) hi
  refine aG.lq [.s 6, .s 3, .h, .s 1, .b 1] (fun ((j, b) : Nat × Bool) => [(.s 6, .sv (.v (.int .i64 (j : Int)))), (.s 3, .sv (.v (.bool b)))]) (fun ((j, b) : Nat × Bool) => (b || (s.msgs.drop j).any (fun m : aU => !aq m.name)) = s.text) (fun ((j, b) : Nat × Bool) => s.msgs.length - j) (0, _) rfl rfl (by grind [aL.text]) ?_
  rintro ⟨j, b⟩ hI
  refine aC (fun hc5 => ?_) (fun hc5 => ?_)
  ·have hj := cz hc5
   have hS := bz (p := (fun m : aU => !aq m.name)) hj
   refine aC (fun hg6 => ?_) (fun hg6 => ?_)
   ·exact .b1 6 rfl (inc (by omega)) rfl ⟨(j + 1, _), (by dsimp only; omega), by grind, rfl⟩
   ·exact aB.ii rfl bW rfl rfl (ca hj) rfl (aB.jc rfl (Fn rfl) rfl (du _) (.b1 6 rfl (inc (by omega)) rfl ⟨(j + 1, _), (by dsimp only; omega), by grind, rfl⟩))
  ·have hj := dA hc5
   have hS := cZ (p := (fun m : aU => !aq m.name)) hj
   exact aN rfl rfl rfl (by grind [aL.text])
theorem E3 (s : aL) (hs : s.sm) : Pure Tryz.prog 60 [s.av] (.int .i64 (ff s.msgs)) := by
 have := hs.e
 have := hs.m
 refine Pure.go II mixed Tryz.func60 rfl rfl fun H => (aG.lq [.s 3, .h, .s 1, .b 1] (fun (i : Nat) => [(.s 3, .sv (.v (.int .i64 (i : Int))))]) (fun (i : Nat) => ff (s.msgs.drop i) = ff s.msgs) (fun (i : Nat) => s.msgs.length - i) 0 rfl rfl (by simp) ?_)
 rintro i hI
 refine aC (fun hc1 => ?_) (fun hc1 => ?_)
 ·have hi := cz hc1
  have hS := wA hi
  have := hs.fi hi
  have := hs.bi hi
  refine aG.lq [.s 4, .h, .s 1, .b 1, .s 3] (fun (k : Nat) => [(.s 4, .sv (.v (.int .i64 (k : Int))))]) (fun (k : Nat) => dO ((s.msgs[i]'hi).fields.drop k) = dO (s.msgs[i]'hi).fields) (fun (k : Nat) => (s.msgs[i]'hi).fields.length - k) 0 rfl rfl (by simp) ?_
  rintro k hK
  refine aB.ii rfl bW rfl rfl (ca hi) rfl (aC (fun hc2 => ?_) (fun hc2 => ?_))
  ·have hk := cz hc2
   have hT := tK hk
   refine aB.ii rfl bW rfl rfl (ca hi) rfl (aB.ii rfl bY rfl rfl (ca hk) rfl (aB.jc rfl (Fn rfl) rfl (LK _) (aC (fun hc3 => ?_) (fun hc3 => ?_))))
   ·exact cC rfl rfl rfl (by grind [])
   ·exact .b1 4 rfl (inc (by omega)) rfl ⟨k + 1, by omega, by grind, rfl⟩
  ·have hk := dA hc2
   have hT := tu hk
   exact .b1 3 rfl (inc (by omega)) rfl ⟨i + 1, by omega, by grind, rfl⟩
 ·have hi := dA hc1
  have hS := yC hi
  exact cC rfl rfl rfl (by grind [])
theorem E5 (s : aL) (hs : s.sm) : Pure Tryz.prog 63 [s.av] (.bool s.ai) := by
 have := hs.e
 have := hs.m
 refine Pure.go II mixed Tryz.func63 rfl rfl fun H => (aG.lq [.s 3, .h, .s 1, .b 1] (fun (i : Nat) => [(.s 3, .sv (.v (.int .i64 (i : Int))))]) (fun (i : Nat) => (s.msgs.drop i).any (fun m : aU => m.fields.any fun f => m.ai.any (· == f.num)) = s.ai) (fun (i : Nat) => s.msgs.length - i) 0 rfl rfl (by simp [aL.ai]) ?_)
 rintro i hI
 refine aC (fun hc1 => ?_) (fun hc1 => ?_)
 ·have hi := cz hc1
  have hS := bz (p := (fun m : aU => m.fields.any fun f => m.ai.any (· == f.num))) hi
  have := hs.fi hi
  have := hs.bi hi
  refine aG.lq [.s 4, .h, .s 1, .b 1, .s 3] (fun (k : Nat) => [(.s 4, .sv (.v (.int .i64 (k : Int))))]) (fun (k : Nat) => ((s.msgs[i]'hi).fields.drop k).any (fun f : ae => (s.msgs[i]'hi).ai.any (· == f.num)) = (s.msgs[i]'hi).fields.any (fun f : ae => (s.msgs[i]'hi).ai.any (· == f.num))) (fun (k : Nat) => (s.msgs[i]'hi).fields.length - k) 0 rfl rfl (by simp) ?_
  rintro k hK
  refine aB.ii rfl bW rfl rfl (ca hi) rfl (aC (fun hc2 => ?_) (fun hc2 => ?_))
  ·have hk := cz hc2
   have hT := bz (p := (fun f : ae => (s.msgs[i]'hi).ai.any (· == f.num))) hk
   refine ⟨rfl, ?_⟩
   iterate 2 (refine aF.d1 rfl (bP (aH rfl) bW rfl rfl (ca hi) rfl) ?_)
   refine aF.d1 rfl (bP (aH rfl) bY rfl rfl (ca hk) rfl) (aF.d1 rfl (aX (aH rfl) (Fn rfl) rfl (Jv _ _ (by omega))) ⟨by kernel_rfl, (aC (fun hc3 => ?_) (fun hc3 => ?_))⟩)
   ·exact aN rfl rfl rfl (by grind [aL.ai])
   ·exact .b1 4 rfl (inc (by omega)) rfl ⟨k + 1, by omega, by grind, rfl⟩
  ·have hk := dA hc2
   have hT := cZ (p := (fun f : ae => (s.msgs[i]'hi).ai.any (· == f.num))) hk
   exact .b1 3 rfl (inc (by omega)) rfl ⟨i + 1, by omega, by grind, rfl⟩
 ·have hi := dA hc1
  have hS := cZ (p := (fun m : aU => m.fields.any fun f => m.ai.any (· == f.num))) hi
  exact aN rfl rfl rfl (by grind [aL.ai])
theorem Ks (s : aL) (hs : s.sm) : Pure Tryz.prog 64 [s.av] (.bool s.refs) := by
 have := hs.e
 have := hs.m
 refine Pure.go II mixed Tryz.func64 rfl rfl fun H => (aG.lq [.s 3, .h, .s 1, .b 1] (fun (i : Nat) => [(.s 3, .sv (.v (.int .i64 (i : Int))))]) (fun (i : Nat) => (s.msgs.drop i).any (fun m : aU => m.fields.any fun f => (decide (f.ty = 14) && decide (s.fL f.ref < 0)) || (decide (f.ty = 15) && decide (s.bL f.ref < 0))) = s.refs) (fun (i : Nat) => s.msgs.length - i) 0 rfl rfl (by simp [aL.refs]) ?_)
 rintro i hI
 refine aC (fun hc1 => ?_) (fun hc1 => ?_)
 ·have hi := cz hc1
  have hS := bz (p := (fun m : aU => m.fields.any fun f => (decide (f.ty = 14) && decide (s.fL f.ref < 0)) || (decide (f.ty = 15) && decide (s.bL f.ref < 0)))) hi
  have := hs.fi hi
  have := hs.bi hi
  refine aG.lq [.s 4, .h, .s 1, .b 1, .s 3] (fun (k : Nat) => [(.s 4, .sv (.v (.int .i64 (k : Int))))]) (fun (k : Nat) => ((s.msgs[i]'hi).fields.drop k).any (fun f : ae => (decide (f.ty = 14) && decide (s.fL f.ref < 0)) || (decide (f.ty = 15) && decide (s.bL f.ref < 0))) = (s.msgs[i]'hi).fields.any (fun f : ae => (decide (f.ty = 14) && decide (s.fL f.ref < 0)) || (decide (f.ty = 15) && decide (s.bL f.ref < 0)))) (fun (k : Nat) => (s.msgs[i]'hi).fields.length - k) 0 rfl rfl (by simp) ?_
  rintro k hK
  refine aB.ii rfl bW rfl rfl (ca hi) rfl (aC (fun hc2 => ?_) (fun hc2 => ?_))
  ·have hk := cz hc2
   have hT := bz (p := (fun f : ae => (decide (f.ty = 14) && decide (s.fL f.ref < 0)) || (decide (f.ty = 15) && decide (s.bL f.ref < 0)))) hk
   refine aB.ii rfl bW rfl rfl (ca hi) rfl (aB.ii rfl bY rfl rfl (ca hk) rfl (aC (fun hg3 => ?_) (fun hg3 => ?_)))
   ·refine aB.jc rfl (Fn rfl) rfl (xB _ _ (by omega)) (aC (fun hg4 => ?_) (fun hg4 => ?_))
    ·exact aN rfl rfl rfl (by grind [aL.refs])
    ·refine aC (fun hg5 => ?_) (fun hg5 => ?_)
     ·refine aB.jc rfl (Fn rfl) rfl (jl _ _ (by omega)) (aC (fun hc6 => ?_) (fun hc6 => ?_))
      ·exact aN rfl rfl rfl (by grind [aL.refs])
      ·exact .b1 4 rfl (inc (by omega)) rfl ⟨k + 1, by omega, by grind, rfl⟩
     ·exact .b1 4 rfl (inc (by omega)) rfl ⟨k + 1, by omega, by grind, rfl⟩
   ·refine aC (fun hg7 => ?_) (fun hg7 => ?_)
    ·refine aB.jc rfl (Fn rfl) rfl (jl _ _ (by omega)) (aC (fun hc8 => ?_) (fun hc8 => ?_))
     ·exact aN rfl rfl rfl (by grind [aL.refs])
     ·exact .b1 4 rfl (inc (by omega)) rfl ⟨k + 1, by omega, by grind, rfl⟩
    ·exact .b1 4 rfl (inc (by omega)) rfl ⟨k + 1, by omega, by grind, rfl⟩
  ·have hk := dA hc2
   have hT := cZ (p := (fun f : ae => (decide (f.ty = 14) && decide (s.fL f.ref < 0)) || (decide (f.ty = 15) && decide (s.bL f.ref < 0)))) hk
   exact .b1 3 rfl (inc (by omega)) rfl ⟨i + 1, by omega, by grind, rfl⟩
 ·have hi := dA hc1
  have hS := cZ (p := (fun m : aU => m.fields.any fun f => (decide (f.ty = 14) && decide (s.fL f.ref < 0)) || (decide (f.ty = 15) && decide (s.bL f.ref < 0)))) hi
  exact aN rfl rfl rfl (by grind [aL.refs])
end Go.Proofs.YtgmdapgedlachaaGreatDoor.X
