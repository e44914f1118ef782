/- The program logic's rules: slices over rows that are objects: their elements, append. No condition. -/
import Derived.Test.YtpifnegikoldmaaGreatDoorZDE
set_option linter.unusedVariables false
set_option linter.unusedSimpArgs false
namespace Go.Proofs.YtpifnegikoldmaaGreatDoor.X
open Go Go.RowKit
theorem aB.many {P : Program} {N : Nat} {ops : Array Oper} {o : Oper} {l : List Oper} {s : St} {Q : St → Prop} (hg : o.guard = none) (W : St → Prop)
  (ho : ∀ E G L a w, Rel E N G L a w s → ∀ (K : Act → World → Prop) (Q : Exit → Act → World → Prop), (∀ v w' G' L' ws, W ws → Rel E N G' L' (a.put o.dst v) w' (ws ++ s) → K (a.put o.dst v) w') → o.wp P a w K Q)
  (h : ∀ ws, W ws → aB P N ops l (ws ++ s) Q) : aB P N ops (o :: l) s Q := by
 intro E a w ⟨G, L, hr⟩ QQ hQ
 exact wpList_plain hg fun K hK => (ho E G L a w hr K QQ fun v w' G' L' ws hw hr' => hK _ _ (h ws hw E _ _ ⟨G', L', hr'⟩ QQ hQ))
section
variable {P : Program} {N : Nat} {s : St} {d : Nat} {ty : TypeId} {pos : String} {af : Array Edge} {g : Option (Nat × Bool)}
theorem zq {t1 e : TypeId} {x : Operand} {id n c : Nat} (hN : d < N) (h1 : P.underlying t1 = some (.slice e)) (hx : cU x s = some (.os id n c)) :
  aY P N ⟨some d, .call { callee := .builtin .len, args := #[x], argTypes := #[t1] }, ty, pos, af, g⟩ s (rd x) [(.s d, .sv (.v (.int .i64 n)))] :=
 aY.val rfl hN fun E G L a w t hr hR => by
  have hv := aS hr hR hx
  generalize hav : a.eval x = u at hv
  cases hv
  refine ⟨.int .i64 n, ?_, .int _ _⟩
  simp [execOp, resolve, invoke, builtin, hav, Builtin.len_, run_underlying h1, goInt]
theorem cM {t1 : TypeId} {x i : Operand} {id n c esz : Nat} {k : IntKind} {j : Int} (hN : d < N) (ht : ie P t1 = some esz) (hx : cU x s = some (.os id n c)) (hi : cU i s = some (.int k j)) (h0 : 0 ≤ j) (h1 : j < n) :
  aY P N ⟨some d, .indexAddr t1 x i, ty, pos, af, g⟩ s (rd x ++ rd i) [(.s d, .sv (.v (.op id (j.toNat * esz))))] :=
 aY.val rfl hN fun E G L a w t hr hR => by
  have hv := aS hr hR.left hx
  have hn := kI (aS hr hR.right hi)
  obtain ⟨el, inf, hu, hinf, hsize⟩ := rz ht
  generalize hav : a.eval x = u at hv
  cases hv
  rename_i b cap hb hle hz
  refine ⟨.pointer (some ⟨b, j.toNat * esz, none⟩), ?_, V.op id _ b hb⟩
  simp [execOp, hav, hn, Instr.indexAt, asIntOf, run_underlying hu, h0, h1, sizeOf, typeInfo, hinf, hsize, Addr.add_lit]
theorem mI {w : World} (t ty e e0 : TypeId) (i : TypeInfo) (ht : P.underlying t = some (.slice e)) (hi : P.info? e = some i)
  (g sLen sCap : Nat) (cur : Array Value) (hg : w.heap[g]? = some (.cells cur e0 (0, 0)))
  (a : Addr) (m c : Nat) (news : List Value) (hl : news.length = m * i.size) (hnews : ∀ (j : Nat) u, news[j]? = some u → w.cell? (a.add j) = some u) (h1 : ∀ u ∈ news, u.oneCell' = true)
  (hroom : sLen + m ≤ sCap) (hfit : sLen * i.size + news.length ≤ cur.size) :
  (Builtin.append_ #[t, t] ty #[.slice (some ⟨g, 0, none⟩) sLen sCap, .slice (some a) m c]).run P w =
   .ok (.slice (some ⟨g, 0, none⟩) (sLen + m) sCap) (w.setRow g (cur.toList.take (sLen * i.size) ++ news ++ cur.toList.drop (sLen * i.size + news.length)).toArray) := by
 have hf := run_firstCells_some (P := P) w i.size m a m c news hl hnews
 have hst := run_storeCells_at P g (sLen * i.size) e0 news 0 cur w hg (by simpa using hfit) h1
 simp only [Nat.add_zero] at hst
 simp [Builtin.append_, run_underlying ht, sizeOf, typeInfo, hi, Builtin.lenOf, hroom, hf, Addr.add_lit, hst]
def Eg {α : Type} (cs : List α) (k : Nat) (l : List α) : List α := cs.take k ++ l ++ cs.drop (k + l.length)
theorem z6 {α : Type} {cs l : List α} {k j : Nat} (h : k + l.length ≤ cs.length) : (Eg cs k l)[j]? = if j < k then cs[j]? else if j < k + l.length then l[j - k]? else cs[j]? := by
 unfold Eg
 have h1 : (cs.take k).length = k := by rw [List.length_take]; omega
 by_cases hj : j < k
 ·rw [List.append_assoc, List.getElem?_append_left (by omega), List.getElem?_take, if_pos hj, if_pos hj]
 ·rw [if_neg hj, List.append_assoc, List.getElem?_append_right (by omega), h1]
  by_cases h2 : j < k + l.length
  ·rw [if_pos h2, List.getElem?_append_left (by omega)]
  ·rw [if_neg h2, List.getElem?_append_right (by omega), List.getElem?_drop]
   congr 1; omega
theorem l7 {z : Array Value} (h : ∀ v ∈ z, v.oneCell' = true) (n : Nat) : ∀ v ∈ Builtin.zeroCells z n, v.oneCell' = true := by
 intro v hv
 simp [Builtin.zeroCells] at hv
 obtain ⟨i, hi, rfl⟩ := hv
 have hpos : 0 < z.size := Nat.pos_of_ne_zero fun e => by rw [e] at hi; simp at hi
 have hlt : i % z.size < z.size := Nat.mod_lt _ hpos
 rw [getElem!_pos z _ hlt]
 exact h _ (Array.getElem_mem hlt)
/-! ### the heap's objects, anew -/
theorem Hp.xG {H : Hp} {id i : Nat} : (H.del id).obj i = if i = id then none else H.obj i := rfl
theorem Rel.vZ {E : dX} {G G' : Gh} {L : Loc} {a : Act} {w : World} (h : Rel E N G L a w s) {H H' : Hp} (hH : get s .h = some (.hp H)) (hle : G.le G') (hkn : G'.kn = G.kn) (hobn : ∀ id b, G'.ob id = some b → ∃ i, G.ob i = some b) (hok' : dK G' w H') (hft : ∀ b, aZ G' H' w b → aZ G H w b) :
  Rel E N G' L a w ((.h, .hp H') :: s) := by
 obtain ⟨H0, gH, hok, hmay⟩ := h.heap
 rw [hH] at gH; cases gH
 have hown : ∀ c b, owns ((.h, .hp H') :: s) L c b → owns s L c b := by
  intro c b hc
  cases c <;> simp only [owns, get, reduceCtorEq, if_false] at hc ⊢ <;> exact hc
 refine ⟨h.size, h.defs, h.ge, by rw [hkn]; exact h.kn, by rw [hkn]; exact h.old, fun id b e => ⟨hle.ob _ _ (h.obs id b e).1, (hle.sz _ _ (h.obs id b e).1).trans (h.obs id b e).2⟩, fun id b e => ?_, h.fr, fun n x g => (h.slot n x (by simpa [get] using g)).mono hle, fun j cv g hl => ?_, fun j m el esz xs g => ?_,
  fun c d b hc hd => h.disj c d b (hown _ _ hc) (hown _ _ hd), ⟨H', rfl, hok', fun b hb => hmay b (hft b hb)⟩, fun c b hc H2 g2 e2 => ?_, fun j g => h.nobox j (by simpa [get] using g), fun j g => h.notok j (by simpa [get] using g)⟩
 ·obtain ⟨i, e2⟩ := hobn id b e
  exact h.obn i b e2
 ·have g' : get s (.b j) = some cv := by simpa [get] using g
  exact (h.box j cv g' hl).stay hle (fun id b e => .inl (hobn id b e)) (fun _ _ => rfl) (fun b2 p1 o => by rw [hkn])
 ·have g' : get s (.t j) = some (.tk m el esz xs) := by simpa [get] using g
  exact (h.tok j m el esz xs g').stay hle (fun id b e => .inl (hobn id b e)) (fun _ _ _ _ => rfl) (fun v b2 hv hb2 o => by rw [hkn])
 ·simp [get] at g2
  subst g2
  exact h.hdisj c b (hown _ _ hc) H hH (hft b e2)
theorem Rel.I7 {E : dX} {G : Gh} {L : Loc} {a : Act} {w : World} (h : Rel E N G L a w s) {H : Hp} (hH : get s .h = some (.hp H)) (id : Nat) : Rel E N G L a w ((.h, .hp (H.del id)) :: s) := by
 obtain ⟨H0, gH, hok, hmay⟩ := h.heap
 rw [hH] at gH; cases gH
 obtain ⟨h1, h2, h3⟩ := hok.del id
 exact h.vZ hH (Gh.le.refl G) rfl (fun id b e => ⟨id, e⟩) h1 h3
theorem Rel.I8 {E : dX} {G : Gh} {L : Loc} {a : Act} {w : World} (h : Rel E N G L a w s) {H : Hp} (hH : get s .h = some (.hp H)) {id : Nat} {xs ys : List AV} (ho : H.obj id = some ((xs ++ ys).map .v)) : Rel E N G L a w ((.h, .hp (H.set id (xs.map .v))) :: s) := by
 obtain ⟨H0, gH, hok, hmay⟩ := h.heap
 rw [hH] at gH; cases gH
 have hobj : ∀ i hs2, (H.set id (xs.map .v)).obj i = some hs2 → (i = id ∧ hs2 = xs.map .v) ∨ (i ≠ id ∧ H.obj i = some hs2) := by
  intro i hs2 e
  by_cases e2 : i = id
  ·have e3 : (if i = id then some (xs.map Hc.v) else H.obj i) = some hs2 := e
   rw [if_pos e2] at e3; cases e3; exact .inl ⟨e2, rfl⟩
  ·have e3 : (if i = id then some (xs.map Hc.v) else H.obj i) = some hs2 := e
   rw [if_neg e2] at e3; exact .inr ⟨e2, e3⟩
 have hl : ∀ i, (∃ c, (H.set id (xs.map .v)).obj i = some c) → ∃ c, H.obj i = some c := by
  rintro i ⟨c, k⟩
  rcases hobj _ _ k with ⟨rfl, _⟩ | ⟨_, p⟩
  ·exact ⟨_, ho⟩
  ·exact ⟨_, p⟩
 have hhr : ∀ i j b, cE G (H.set id (xs.map .v)) w i j b → cE G H w i j b := by
  rintro i j b ⟨cs2, el, esz, ys2, b0, arr2, t2, fr, q1, q2, q3, q4, q5⟩
  rcases hobj _ _ q1 with ⟨rfl, rfl⟩ | ⟨e1, e2⟩
  ·rw [List.getElem?_map] at q2
   cases hx : xs[j]? with
   | none => rw [hx] at q2; cases q2
   | some y => rw [hx] at q2; cases q2
  ·exact ⟨cs2, el, esz, ys2, b0, arr2, t2, fr, e2, q2, q3, q4, q5⟩
 refine h.vZ hH (Gh.le.refl G) rfl (fun id b e => ⟨id, e⟩) ⟨hok.lt, fun i i' b e e' k k' => hok.inj i i' b e e' (hl i k) (hl i' k'), fun i cs e => ?_, fun i j b hr => ?_⟩ (fun b hf => ?_)
 ·rcases hobj _ _ e with ⟨rfl, rfl⟩ | ⟨e1, e2⟩
  ·obtain ⟨blk, arr, el, q1, q2, q3, q4, q5⟩ := hok.obj _ _ ho
   refine ⟨blk, arr, el, q1, q2, ⟨?_, q3.2⟩, fun j x hx => q4 j x ?_, q5⟩
   ·have := q3.1; simp only [List.length_map, List.length_append] at this ⊢; omega
   ·rw [List.map_append, List.getElem?_append_left (List.getElem?_eq_some_iff.1 hx).1]; exact hx
  ·exact hok.obj i cs e2
 ·obtain ⟨q1, q2⟩ := hok.apart i j b (hhr _ _ _ hr)
  exact ⟨q1, fun i' j' hr' => q2 i' j' (hhr _ _ _ hr')⟩
 ·rcases hf with ⟨i, k, e⟩ | ⟨i, j, k⟩
  ·exact .inl ⟨i, hl i k, e⟩
  ·exact .inr ⟨i, j, hhr _ _ _ k⟩
theorem Rel.Gs {E : dX} {G : Gh} {L : Loc} {a : Act} {w : World} (h : Rel E N G L a w s) {H : Hp} (hH : get s .h = some (.hp H)) {id blk : Nat} {xs : List AV} (ho : H.obj id = some (xs.map .v)) (hb : G.ob id = some blk) :
  ∃ G', G'.ob H.next = some blk ∧ G'.sz H.next = G.sz id ∧ G.le G' ∧ Rel E N G' L a w ((.h, .hp ((H.del id).new (xs.map .v))) :: s) := by
 obtain ⟨H0, gH, hok, hmay⟩ := h.heap
 rw [hH] at gH; cases gH
 let G' := G.xn H.next blk (G.sz id)
 have hnew : ∀ b, G.ob H.next ≠ some b := fun b e => by have := (hok.lt _ _ e).1; omega
 have hidlt := (hok.lt _ _ hb).1
 have hle : G.le G' := ⟨fun b o v e => e, fun i b e => by
  show (if i = H.next then some blk else G.ob i) = some b
  rw [if_neg (fun (e2 : i = H.next) => hnew b (by rw [← e2]; exact e))]; exact e, fun i b e => by
  show (if i = H.next then G.sz id else G.sz i) = G.sz i
  rw [if_neg (fun (e2 : i = H.next) => hnew b (by rw [← e2]; exact e))]⟩
 have hob : ∀ i b, G'.ob i = some b → (i = H.next ∧ b = blk) ∨ (i ≠ H.next ∧ G.ob i = some b) := by
  intro i b e
  have e3 : (if i = H.next then some blk else G.ob i) = some b := e
  by_cases e2 : i = H.next
  ·rw [if_pos e2] at e3; cases e3; exact .inl ⟨e2, rfl⟩
  ·rw [if_neg e2] at e3; exact .inr ⟨e2, e3⟩
 have hob1 : G'.ob H.next = some blk := by show (if H.next = H.next then some blk else G.ob H.next) = some blk; rw [if_pos rfl]
 have hobj : ∀ i cs, ((H.del id).new (xs.map .v)).obj i = some cs → (i = H.next ∧ cs = xs.map .v) ∨ (i ≠ H.next ∧ i ≠ id ∧ H.obj i = some cs) := by
  intro i cs e
  have e3 : (if i = H.next then some (xs.map Hc.v) else if i = id then none else H.obj i) = some cs := e
  by_cases e1 : i = H.next
  ·rw [if_pos e1] at e3; cases e3; exact .inl ⟨e1, rfl⟩
  ·rw [if_neg e1] at e3
   by_cases e2 : i = id
   ·rw [if_pos e2] at e3; cases e3
   ·rw [if_neg e2] at e3; exact .inr ⟨e1, e2, e3⟩
 have hhr : ∀ i j b, cE G' ((H.del id).new (xs.map .v)) w i j b → cE G H w i j b := by
  rintro i j b ⟨cs2, el, esz, ys2, b0, arr2, t2, fr, q1, q2, q3, q4, q5⟩
  rcases hobj _ _ q1 with ⟨rfl, rfl⟩ | ⟨e1, _, e2⟩
  ·rw [List.getElem?_map] at q2
   cases hx : xs[j]? with
   | none => rw [hx] at q2; cases q2
   | some y => rw [hx] at q2; cases q2
  ·rcases hob _ _ q3 with ⟨e4, _⟩ | ⟨_, e4⟩
   ·exact absurd e4 e1
   ·exact ⟨cs2, el, esz, ys2, b0, arr2, t2, fr, e2, q2, e4, q4, q5⟩
 have hobn : ∀ i b, G'.ob i = some b → ∃ i', G.ob i' = some b := fun i b e => by
  rcases hob i b e with ⟨_, rfl⟩ | ⟨_, e2⟩
  ·exact ⟨id, hb⟩
  ·exact ⟨i, e2⟩
 refine ⟨G', hob1, by show (if H.next = H.next then G.sz id else _) = _; rw [if_pos rfl], hle, h.vZ hH hle rfl hobn ⟨fun i b e => ?_, fun i i' b e e' ⟨c, k⟩ ⟨c', k'⟩ => ?_, fun i cs e => ?_, fun i j b hr => ?_⟩ (fun b hf => ?_)⟩
 ·rcases hob i b e with ⟨rfl, rfl⟩ | ⟨_, e2⟩
  ·exact ⟨Nat.lt_succ_self _, (hok.lt _ _ hb).2⟩
  ·exact ⟨Nat.lt_succ_of_lt (hok.lt _ _ e2).1, (hok.lt _ _ e2).2⟩
 ·rcases hobj _ _ k with ⟨rfl, _⟩ | ⟨n1, n2, k1⟩ <;> rcases hobj _ _ k' with ⟨rfl, _⟩ | ⟨m1, m2, k2⟩
  ·rfl
  ·rw [hob1] at e; cases e
   rcases hob _ _ e' with ⟨e4, _⟩ | ⟨_, e4⟩
   ·exact absurd e4 m1
   ·exact absurd (hok.inj _ _ _ e4 hb ⟨_, k2⟩ ⟨_, ho⟩) m2
  ·rw [hob1] at e'; cases e'
   rcases hob _ _ e with ⟨e4, _⟩ | ⟨_, e4⟩
   ·exact absurd e4 n1
   ·exact absurd (hok.inj _ _ _ e4 hb ⟨_, k1⟩ ⟨_, ho⟩) n2
  ·rcases hob _ _ e with ⟨e4, _⟩ | ⟨_, e4⟩
   ·exact absurd e4 n1
   ·rcases hob _ _ e' with ⟨e5, _⟩ | ⟨_, e5⟩
    ·exact absurd e5 m1
    ·exact hok.inj _ _ _ e4 e5 ⟨_, k1⟩ ⟨_, k2⟩
 ·rcases hobj _ _ e with ⟨rfl, rfl⟩ | ⟨e1, _, e2⟩
  ·obtain ⟨b2, arr, el, q1, q2, q3, q4, q5⟩ := hok.obj _ _ ho
   rw [hb] at q1; cases q1
   refine ⟨blk, arr, el, hob1, q2, ⟨q3.1, q3.2.trans (by show _ = (if H.next = H.next then G.sz id else _); rw [if_pos rfl])⟩, fun j x hx => ?_, q5⟩
   have := q4 j x hx
   rw [List.getElem?_map] at hx
   cases hv : xs[j]? with
   | none => rw [hv] at hx; cases hx
   | some y => rw [hv] at hx; cases hx; exact ⟨this.1, V.mono hle this.2⟩
  ·obtain ⟨b2, arr, el, q1, q2, q3, q4, q5⟩ := hok.obj _ _ e2
   refine ⟨b2, arr, el, hle.ob _ _ q1, q2, ⟨q3.1, q3.2.trans (hle.sz _ _ q1).symm⟩, fun j x hx => ?_, q5⟩
   have := q4 j x hx
   cases x with
   | v a => exact ⟨this.1, V.mono hle this.2⟩
   | row el2 esz ys =>
    have hr : du G w true el2 esz (arr.getD j undef) ys := this
    exact hr.stay hle (fun _ _ => rfl) (fun _ _ _ => rfl)
 ·obtain ⟨q1, q2⟩ := hok.apart i j b (hhr _ _ _ hr)
  refine ⟨fun i' e => ?_, fun i' j' hr' => q2 i' j' (hhr _ _ _ hr')⟩
  obtain ⟨i2, e2⟩ := hobn i' b e
  exact q1 i2 e2
 ·rcases hf with ⟨i, ⟨cs, k⟩, e⟩ | ⟨i, j, k⟩
  ·rcases hobj _ _ k with ⟨rfl, _⟩ | ⟨n1, _, k1⟩
   ·rw [hob1] at e; cases e
    exact .inl ⟨id, ⟨_, ho⟩, hb⟩
   ·rcases hob _ _ e with ⟨e4, _⟩ | ⟨_, e4⟩
    ·exact absurd e4 n1
    ·exact .inl ⟨i, ⟨_, k1⟩, e4⟩
  ·exact .inr ⟨i, j, hhr _ _ _ k⟩
theorem Rel.F3 {E : dX} {G : Gh} {L : Loc} {a : Act} {w w1 : World} (hr : Rel E N G L a w s) (hg : w.grownBy w1 none) (hw : w1.heap.size = w.heap.size) {H : Hp} (hH : get s .h = some (.hp H)) (hd : get s (.b d) = none) {arr : Array Value} {el : TypeId} {zs : List AV} (hz : arr.size = zs.length)
  (hc : ∀ (j : Nat) x, zs[j]? = some x → x.flat = true ∧ V G (arr.getD j undef) x) :
  ∃ G' L', G'.ob H.next = some w.heap.size ∧ Rel E N G' L' a (w1.alloc (.cells arr el)) ((.h, .hp (H.new (zs.map .v))) :: (.b d, .gone) :: s) := by
 obtain ⟨hle, hr1⟩ := hr.known hg (Nat.le_refl _) (cells := []) (fun o v e => by simp at e)
 have hok : fj (G.add w.heap.size []) (L.bk d w1.heap.size) (.cells arr el) (.bx (zs.map .v)) := by
  refine ⟨_, _, rfl, by simpa using hz, fun j y e => ?_⟩
  simp only [List.getElem?_map] at e
  cases hx : zs[j]? with
  | none => rw [hx] at e; cases e
  | some x =>
   rw [hx] at e; cases e
   exact ⟨(hc j x hx).1, V.mono hle (hc j x hx).2⟩
 have hr2 := hr1.alloc d hd (.cells arr el) (.bx (zs.map .v)) rfl rfl hok
 obtain ⟨G', hr3⟩ := hr2.xn (k := d) (cs := zs.map .v) (H := H) (by simp [get]) (by simpa [get] using hH)
 have hcs : kc ((.b d, .ob H.next (zs.map .v)) :: (.h, .hp ⟨H.next + 1, H.obj⟩) :: (.b d, .bx (zs.map .v)) :: s) (zs.map .v) = some (zs.map .v) := by
  generalize ((.b d, .ob H.next (zs.map .v)) :: (.h, .hp ⟨H.next + 1, H.obj⟩) :: (.b d, .bx (zs.map .v)) :: s : St) = s0
  clear hr3 hr2 hok hz hc
  induction zs with
  | nil => rfl
  | cons x l ih => simp only [List.map_cons, kc, y8, ih]
 have hro : rowsOf (zs.map .v) = [] := by
  clear hr3 hr2 hok hz hc hcs
  induction zs with
  | nil => rfl
  | cons x l ih => simp only [List.map_cons, rowsOf, ih]
 have hr4 := hr3.cls (k := d) (id := H.next) (hs := zs.map .v) (H := ⟨H.next + 1, H.obj⟩) (by simp [get]) (by simp [get]) hcs (by rw [hro]; exact List.nodup_nil)
 obtain ⟨blk, o, b1, b2, b3, b4, b5, b6⟩ := hr3.box d (.ob H.next (zs.map .v)) (by simp [get]) rfl
 have hb6 : G'.ob H.next = some blk := b6
 have hbl : blk = w.heap.size := by
  have : (L.bk d w1.heap.size).box d = some blk := b1
  simp [Loc.bk] at this
  rw [← this, hw]
 refine ⟨G', _, by rw [hb6, hbl], hr4.ext fun c => ?_⟩
 rw [hro]
 simp only [bw, List.nil_append, get]
 by_cases e1 : aK.h = c
 ·subst e1; simp; rfl
 ·by_cases e2 : aK.b d = c
  ·subst e2; simp
  ·simp [e1, e2]
theorem D5 {arr : Array Value} {k : Nat} {news : List Value} (h : k + news.length ≤ arr.size) (j : Nat) :
  (arr.toList.take k ++ news ++ arr.toList.drop (k + news.length)).toArray.getD j undef = if j < k then arr.getD j undef else if j < k + news.length then news.getD (j - k) undef else arr.getD j undef := by
 have := z6 (cs := arr.toList) (l := news) (k := k) (j := j) (by simpa using h)
 unfold Eg at this
 simp only [Array.getD_eq_getD_getElem?, List.getElem?_toArray, this, List.getD_eq_getElem?_getD]
 split
 ·simp
 ·split
  ·rfl
  ·simp
theorem vy {G : Gh} {i : TypeInfo} {z : Value} {el : TypeId} {zs : List AV} (hi : P.info? el = some i) (hzz : i.zero = some z) (hz : bu P el = some zs) : ∀ v ∈ z.cells, v.oneCell' = true := by
 unfold bu at hz
 rw [hi] at hz
 simp only [hzz] at hz
 obtain ⟨q1, q2⟩ := jY G hz
 intro v hv
 obtain ⟨j, hj, rfl⟩ := Array.mem_iff_getElem.1 hv
 have hj2 : j < zs.length := by rw [← q1]; simpa using hj
 obtain ⟨q3, q4⟩ := q2 j _ (List.getElem?_eq_getElem hj2)
 have := q4.eE q3
 simpa [List.getD_eq_getElem?_getD, List.getElem?_eq_getElem (show j < z.cells.toList.length by simpa using hj)] using this
theorem Hp.Cx {H : Hp} {id : Nat} {cs : List Hc} (h : id ≠ H.next) : (H.new cs).del id = (H.del id).new cs := by
 simp only [Hp.new, Hp.set, Hp.del]
 congr 1
 funext k
 by_cases h1 : k = H.next
 ·subst h1; simp [Ne.symm h]
 ·simp [h1]
theorem Rel.wo {E : dX} {G : Gh} {L : Loc} {a : Act} {w : World} (h : Rel E N G L a w s) {d : Nat} (hd : get s (.b d) = none) : Rel E N G L a w ((.b d, .gone) :: s) := by
 have hown : ∀ c b, owns ((.b d, .gone) :: s) L c b → owns s L c b := by
  intro c b hc
  by_cases e : c = .b d
  ·subst e
   obtain ⟨⟨cv, g, hl⟩, _⟩ := hc
   simp [get] at g; subst g; cases hl
  ·exact cT e hc
 refine ⟨h.size, h.defs, h.ge, h.kn, h.old, h.obs, h.obn, h.fr, fun n x g => h.slot n x (by simpa [get] using g), fun j cv g hl => ?_, fun j m el esz xs g => h.tok j m el esz xs (by simpa [get] using g), fun c e b hc he => h.disj c e b (hown _ _ hc) (hown _ _ he), by simpa [get] using h.heap, fun c b hc H g => h.hdisj c b (hown _ _ hc) H (by simpa [get] using g), fun j g => ?_, fun j g => h.notok j (by simpa [get] using g)⟩
 ·by_cases e : j = d
  ·subst e; simp [get] at g; subst g; cases hl
  ·exact h.box j cv (by simpa [get, Ne.symm e] using g) hl
 ·by_cases e : j = d
  ·subst e; simp [get] at g
  ·exact h.nobox j (by simpa [get, Ne.symm e] using g)
theorem Rel.vD {E : dX} {G : Gh} {L : Loc} {a : Act} {w w1 : World} (hr : Rel E N G L a w s) (hg : w.grownBy w1 none) (hw : w1.heap.size = w.heap.size) {H : Hp} (hH : get s .h = some (.hp H)) (hd : get s (.b d) = none) {arr : Array Value} {el : TypeId} {zs : List AV} (hz : zs.length ≤ arr.size)
  (hc : ∀ (j : Nat) x, zs[j]? = some x → x.flat = true ∧ V G (arr.getD j undef) x) (hone : ∀ j, zs.length ≤ j → j < arr.size → (arr.getD j undef).oneCell' = true) :
  ∃ G' L', G'.ob H.next = some w.heap.size ∧ G'.sz H.next = arr.size ∧ Rel E N G' L' a (w1.alloc (.cells arr el)) ((.h, .hp (H.new (zs.map .v))) :: (.b d, .gone) :: s) := by
 obtain ⟨G', L', h1, h2⟩ := hr.F3 hg hw hH hd (arr := arr) (el := el) (zs := zs ++ List.replicate (arr.size - zs.length) .junk) (by simp; omega) (fun j x e => by
  by_cases hj : j < zs.length
  ·rw [List.getElem?_append_left hj] at e; exact hc j x e
  ·rw [List.getElem?_append_right (by omega)] at e
   have hv : x = .junk := List.eq_of_mem_replicate (List.mem_of_getElem? e)
   subst hv
   have := (List.getElem?_eq_some_iff.1 e).1
   rw [List.length_replicate] at this
   exact ⟨rfl, V.junk _ (hone j (by omega) (by omega))⟩)
 refine ⟨G', L', h1, ?_, ?_⟩
 ·obtain ⟨H0, gH, hok, _⟩ := h2.heap
  simp [get] at gH; subst gH
  obtain ⟨blk, arr2, el2, q1, q2, q3, _⟩ := hok.obj H.next _ (Hp.cg _ _)
  rw [h1] at q1; cases q1
  have : (w1.alloc (.cells arr el)).heap[w.heap.size]? = some (.cells arr el (0, 0)) := by rw [show (w1.alloc (.cells arr el)).heap = w1.heap.push (.cells arr el (0, 0)) from rfl, ← hw, Array.getElem?_push_size]
  rw [this] at q2; cases q2
  exact q3.2.symm
 ·have h3 := h2.I8 (H := H.new ((zs ++ List.replicate (arr.size - zs.length) AV.junk).map .v)) (id := H.next) (xs := zs) (ys := List.replicate (arr.size - zs.length) AV.junk) (by simp [get]) (Hp.cg _ _)
  rw [Hp.Cw] at h3
  refine h3.ext fun c => ?_
  simp only [get]
  split
  ·rfl
  ·rfl
theorem nE {w : World} {t ty e : Nat} {i : TypeInfo} (ht : P.underlying t = some (.slice e)) (hi : P.info? e = some i) (b n cap : Nat) (hn : n ≤ cap) (A : Option Addr) (c : Nat) :
  (Builtin.append_ #[t, t] ty #[.slice (some ⟨b, 0, none⟩) n cap, .slice A 0 c]).run P w = .ok (.slice (some ⟨b, 0, none⟩) n cap) w := by
 have hfc : ∀ (sz : Nat), (Builtin.firstCells sz 0 (.slice A 0 c)).run P w = .ok #[] w := by
  intro sz
  cases A <;> simp [Builtin.firstCells, loadCells, loadCellsFrom]
 simp [Builtin.append_, run_underlying ht, sizeOf, typeInfo, hi, Builtin.lenOf, hfc, hn, storeCells]
def Src (G : Gh) (w : World) (v : Value) (esz : Nat) (ys : List AV) : Prop :=
 (ys = [] ∧ ∃ A c, v = .slice A 0 c) ∨ ∃ ad c news, v = .slice (some ad) ys.length c ∧ news.length = ys.length * esz ∧ (∀ (j : Nat) u, news[j]? = some u → w.cell? (ad.add j) = some u) ∧ (∀ u ∈ news, u.oneCell' = true) ∧ Lay G esz ys news
theorem tR {t1 el esz by_ : Nat} {x y : Operand} {id n : Nat} {xs ys zs : List AV} {H : Hp} (hN : d < N) (ht : se P t1 = some (el, esz, by_)) (hz : bu P el = some zs) (hx : cU x s = some (.os id n esz)) (hH : get s .h = some (.hp H)) (ho : H.obj id = some (xs.map .v)) (hl : xs.length = n * esz)
  (Ry : List aK) (hes : ∀ e ∈ ys, e.cells.length = esz) (hsrc : ∀ E G L a w t, Rel E N G L a w t → Reads Ry s t → 0 < esz → Src G w (a.eval y) esz ys) (hd : get s (.b d) = none) (hb : (n + ys.length) * by_ ≤ 140737488355328) (h63 : n + ys.length ≤ 9223372036854775807) :
  aY P N ⟨some d, .call { callee := .builtin .append, args := #[x, y], argTypes := #[t1, t1] }, ty, pos, af, g⟩ s (rd x ++ (Ry ++ [.h, .b d]))
   [(.s d, .sv (.v (.os H.next (n + ys.length) esz))), (.h, .hp ((H.del id).new ((xs ++ ys.flatMap AV.cells).map .v))), (.b d, .gone)] := by
 intro t hR E G L a w hr K QQ hK
 have hH' : get t .h = some (.hp H) := by rw [hR .h (by simp)]; exact hH
 have hd' : get t (.b d) = none := by rw [hR (.b d) (by simp)]; exact hd
 obtain ⟨i, z, hu, hi, hzz, hzs, hsz, hby, hpos⟩ := mH ht
 subst hsz
 subst hby
 have hv := aS hr hR.left hx
 have hVy := hsrc E G L a w t hr hR.right.left hpos
 generalize hav : a.eval x = u at hv
 cases hv
 rename_i blk cap hob hnc hcz
 obtain ⟨H0, gH, hokH, hmay⟩ := hr.heap
 rw [hH'] at gH; cases gH
 obtain ⟨blk0, arr, el1, p1, p2, p3, p4, p5⟩ := hokH.obj id _ ho
 rw [hob] at p1; cases p1
 rw [List.length_map, hl] at p3
 have hne : id ≠ H.next := by have := (hokH.lt _ _ hob).1; omega
 have hxa : xs.length ≤ arr.size := by rw [hl]; exact p3.1
 have hcell : ∀ (j : Nat) v, (xs)[j]? = some v → v.flat = true ∧ V G (arr.getD j undef) v := fun j v e => by
  have := p4 j (.v v) (by rw [List.getElem?_map, e]; rfl)
  exact this
 rcases hVy with ⟨e, A, c, hay⟩ | ⟨ad, c2, news, hay, hnl, hnews, hone, hLy⟩
 ·subst e
  have hrun := nE (P := P) (w := w) (ty := ty) hu hi blk n cap hnc A c
  unfold Oper.wp
  have he : (execOp a.eval ⟨some d, .call { callee := .builtin .append, args := #[x, y], argTypes := #[t1, t1] }, ty, pos, af, g⟩).run P w = .ok (.value (.slice (some ⟨blk, 0, none⟩) n cap)) w := by
   simp only [execOp, resolve, invoke, builtin, Sem.run_bind, Sem.run_pure, Result.andThen_ok, List.map_toArray, List.map_cons, List.map_nil, hav, hay, hrun]
  rw [he]
  obtain ⟨G', q1, q2, q3, q4⟩ := (hr.wo hd').Gs (H := H) (by simpa [get] using hH') ho hob
  refine hK _ _ G' L (((q4.put d hN _ (.v (.os H.next n i.size)) (V.os H.next _ _ _ _ q1 hnc (by rw [q2]; exact hcz)))).ext fun c => ?_)
  simp [get]
 ·have hfl : (ys.flatMap AV.cells).length = ys.length * i.size := cZ hes
  have hnews2 : ∀ (j : Nat) v, (ys.flatMap AV.cells)[j]? = some v → v.flat = true ∧ V G (news.getD j undef) v := fun j v e => Lay.flat hLy hpos j v e
  unfold Oper.wp
  by_cases hroom : n + ys.length ≤ cap
  ·have hfit : n * i.size + news.length ≤ arr.size := by
    rw [hnl, ← Nat.add_mul, p3.2]; exact Nat.le_trans (Nat.mul_le_mul_right _ hroom) hcz
   have hrun := mI (P := P) (w := w) t1 ty el el1 i hu hi blk n cap arr p2 ad ys.length c2 news hnl hnews hone hroom hfit
   have he : (execOp a.eval ⟨some d, .call { callee := .builtin .append, args := #[x, y], argTypes := #[t1, t1] }, ty, pos, af, g⟩).run P w = .ok (.value (.slice (some ⟨blk, 0, none⟩) (n + ys.length) cap)) (w.setRow blk (arr.toList.take (n * i.size) ++ news ++ arr.toList.drop (n * i.size + news.length)).toArray) := by
    simp only [execOp, resolve, invoke, builtin, Sem.run_bind, Sem.run_pure, Result.andThen_ok, List.map_toArray, List.map_cons, List.map_nil, hav, hay, hrun]
   rw [he]
   have hr2 := hr.lK (cs' := (xs ++ ys.flatMap AV.cells).map .v) (arr' := (arr.toList.take (n * i.size) ++ news ++ arr.toList.drop (n * i.size + news.length)).toArray) (w' := w.setRow blk _) hH' ho hob p2 rfl rfl rfl (size_setRow w blk _) (fun j hj => setRow_other w blk j _ hj) (setRow_heap w blk arr _ el1 (0, 0) p2)
    ⟨by simp; omega, by simp only [List.length_map, List.length_append, hl, hfl, List.size_toArray, List.length_take, List.length_drop, Array.length_toList]; omega⟩
    (fun j y e => by
     rw [List.getElem?_map] at e
     cases hg : (xs ++ ys.flatMap AV.cells)[j]? with
     | none => rw [hg] at e; cases e
     | some v =>
      rw [hg] at e; cases e
      show v.flat = true ∧ V G _ v
      rw [D5 hfit, hnl]
      by_cases hj : j < n * i.size
      ·rw [if_pos hj]
       rw [List.getElem?_append_left (by omega)] at hg
       exact hcell j v hg
      ·rw [if_neg hj]
       rw [List.getElem?_append_right (by omega), hl] at hg
       have := (List.getElem?_eq_some_iff.1 hg).1
       rw [if_pos (by omega)]
       exact hnews2 _ v hg)
    (fun j el esz ys2 e => by
     rw [List.getElem?_map] at e
     cases hg : (xs ++ ys.flatMap AV.cells)[j]? with
     | none => rw [hg] at e; cases e
     | some v => rw [hg] at e; cases e)
   obtain ⟨G', q1, q2, q3, q4⟩ := (hr2.wo (d := d) (by simpa [get] using hd')).Gs (H := H.set id ((xs ++ ys.flatMap AV.cells).map .v)) (id := id) (by simp [get]) Hp.dG hob
   have hdd : (H.set id ((xs ++ ys.flatMap AV.cells).map .v)).del id = H.del id := by
    simp only [Hp.set, Hp.del]
    congr 1
    funext k
    by_cases h1 : k = id
    ·simp [h1]
    ·simp [h1]
   rw [hdd] at q4
   refine hK _ _ G' L (((q4.put d hN _ (.v (.os H.next (n + ys.length) i.size)) (V.os H.next _ _ _ _ q1 hroom (by have q2' : G'.sz H.next = G.sz id := q2; rw [q2']; exact hcz)))).ext fun c => ?_)
   simp only [List.cons_append, List.nil_append, get]
   split
   ·rfl
   ·split
    ·rfl
    ·rfl
  ·have hlo : (arr.toList.take (n * i.size)).length = n * i.size := by
    rw [List.length_take, Array.length_toList]; omega
   have hrun := run_append_grow (P := P) (w := w) t1 ty el i z hu hi hzz ⟨blk, 0, none⟩ n cap (arr.toList.take (n * i.size)) hlo (fun j v e => by
    rw [List.getElem?_take] at e
    split at e
    ·rw [Addr.add_lit, Nat.zero_add, cell_of_row w blk j arr el1 (0, 0) p2]
     simpa using e
    ·cases e) ad ys.length c2 news hnl hnews (by omega) (by omega) (growslice_fits (by omega) hb)
   have he : (execOp a.eval ⟨some d, .call { callee := .builtin .append, args := #[x, y], argTypes := #[t1, t1] }, ty, pos, af, g⟩).run P w = .ok (.value (.slice (some ⟨w.heap.size, 0, none⟩) (n + ys.length) (grownCap w (n + ys.length) cap el))) (w.drew.alloc (.cells ((arr.toList.take (n * i.size)).toArray ++ news.toArray ++ Builtin.zeroCells z.cells (grownCap w (n + ys.length) cap el - (n + ys.length))) el)) := by
    simp only [execOp, resolve, invoke, builtin, Sem.run_bind, Sem.run_pure, Result.andThen_ok, List.map_toArray, List.map_cons, List.map_nil, hav, hay, hrun]
   rw [he]
   have hge := grownCap_ge w (n + ys.length) cap el
   have hzone := vy (G := G) hi hzz hz
   have hsz : ((arr.toList.take (n * i.size)).toArray ++ news.toArray ++ Builtin.zeroCells z.cells (grownCap w (n + ys.length) cap el - (n + ys.length))).size = grownCap w (n + ys.length) cap el * i.size := by
    simp only [Array.size_append, List.size_toArray, size_zeroCells, hzs, hlo, hnl]
    rw [← Nat.add_mul, ← Nat.add_mul]
    congr 1; omega
   have hlt2 : n * i.size + ys.length * i.size ≤ grownCap w (n + ys.length) cap el * i.size := by rw [← Nat.add_mul]; exact Nat.mul_le_mul_right _ hge
   obtain ⟨G', L', hob', hsz', hr2⟩ := hr.vD (w1 := w.drew) ⟨rfl, rfl, rfl, Nat.le_refl _, fun _ _ _ => rfl⟩ rfl hH' hd' (el := el) (arr := (arr.toList.take (n * i.size)).toArray ++ news.toArray ++ Builtin.zeroCells z.cells (grownCap w (n + ys.length) cap el - (n + ys.length))) (zs := xs ++ ys.flatMap AV.cells) (by rw [hsz, List.length_append, hl, hfl]; exact hlt2) (fun j v e => by
    by_cases h1 : j < n * i.size
    ·rw [List.getElem?_append_left (by omega)] at e
     have := hcell j v e
     refine ⟨this.1, ?_⟩
     rw [Array.getD_eq_getD_getElem?, Array.append_assoc, Array.getElem?_append_left (by simp only [List.size_toArray, hlo]; exact h1)]
     rw [Array.getD_eq_getD_getElem?] at this
     simpa [List.getElem?_take, h1] using this.2
    ·rw [List.getElem?_append_right (by omega), hl] at e
     have h2 := (List.getElem?_eq_some_iff.1 e).1
     have := hnews2 _ v e
     refine ⟨this.1, ?_⟩
     rw [Array.getD_eq_getD_getElem?, Array.append_assoc, Array.getElem?_append_right (by simp only [List.size_toArray, hlo]; omega), Array.getElem?_append_left (by simp only [List.size_toArray, hlo, hnl]; omega)]
     simp only [List.size_toArray, hlo, List.getElem?_toArray]
     rw [← List.getD_eq_getElem?_getD]
     exact this.2) (fun j h1 h2 => by
    rw [List.length_append, hl, hfl] at h1
    rw [hsz] at h2
    have hlt : j - (n * i.size + ys.length * i.size) < (Builtin.zeroCells z.cells (grownCap w (n + ys.length) cap el - (n + ys.length))).size := by
     rw [size_zeroCells, hzs, Nat.sub_mul, Nat.add_mul]; omega
    rw [Array.getD_eq_getD_getElem?, Array.getElem?_append_right (by simp only [Array.size_append, List.size_toArray, hlo, hnl]; omega)]
    simp only [Array.size_append, List.size_toArray, hlo, hnl]
    rw [Array.getElem?_eq_getElem hlt]
    exact l7 hzone _ _ (Array.getElem_mem hlt))
   have hr3 := hr2.I7 (H := H.new ((xs ++ ys.flatMap AV.cells).map .v)) (by simp [get]) id
   rw [Hp.Cx hne] at hr3
   refine hK _ _ G' L' (((hr3.put d hN _ (.v (.os H.next (n + ys.length) i.size)) (V.os H.next _ _ _ _ hob' hge (by rw [hsz', hsz]; exact Nat.le_refl _)))).ext fun c => ?_)
   simp only [List.cons_append, List.nil_append, get]
   split
   ·rfl
   ·split
    ·rfl
    ·rfl
theorem Cn {t1 el esz by_ : Nat} {x y : Operand} {id n : Nat} {xs ys zs : List AV} {H : Hp} (hN : d < N) (ht : se P t1 = some (el, esz, by_)) (hz : bu P el = some zs) (hx : cU x s = some (.os id n esz)) (hH : get s .h = some (.hp H)) (ho : H.obj id = some (xs.map .v)) (hl : xs.length = n * esz)
  (hy : cU y s = some (.sl ys)) (hok : cK esz ys = true) (hd : get s (.b d) = none) (hb : (n + ys.length) * by_ ≤ 140737488355328) (h63 : n + ys.length ≤ 9223372036854775807) :
  aY P N ⟨some d, .call { callee := .builtin .append, args := #[x, y], argTypes := #[t1, t1] }, ty, pos, af, g⟩ s (rd x ++ (rd y ++ [.h, .b d]))
   [(.s d, .sv (.v (.os H.next (n + ys.length) esz))), (.h, .hp ((H.del id).new ((xs ++ ys.flatMap AV.cells).map .v))), (.b d, .gone)] :=
 tR hN ht hz hx hH ho hl (rd y) (fun e he => (gJ hok e he).1) (fun E G L a w t hr hR hp => me hr.kn (aS hr hR hy) hok hp) hd hb h63
theorem zy {t1 el esz by_ : Nat} {x y : Operand} {id n id2 n2 : Nat} {xs ys zs : List AV} {H : Hp} (hN : d < N) (ht : se P t1 = some (el, esz, by_)) (hz : bu P el = some zs) (hx : cU x s = some (.os id n esz)) (hH : get s .h = some (.hp H)) (ho : H.obj id = some (xs.map .v)) (hl : xs.length = n * esz)
  (hy : cU y s = some (.os id2 n2 esz)) (ho2 : H.obj id2 = some ((ys.flatMap AV.cells).map .v)) (hes : ∀ e ∈ ys, e.cells.length = esz) (hn2 : ys.length = n2) (hd : get s (.b d) = none) (hb : (n + ys.length) * by_ ≤ 140737488355328) (h63 : n + ys.length ≤ 9223372036854775807) :
  aY P N ⟨some d, .call { callee := .builtin .append, args := #[x, y], argTypes := #[t1, t1] }, ty, pos, af, g⟩ s (rd x ++ ((rd y ++ [.h]) ++ [.h, .b d]))
   [(.s d, .sv (.v (.os H.next (n + ys.length) esz))), (.h, .hp ((H.del id).new ((xs ++ ys.flatMap AV.cells).map .v))), (.b d, .gone)] := by
 refine tR hN ht hz hx hH ho hl (rd y ++ [.h]) hes (fun E G L a w t hr hR hp => ?_) hd hb h63
 have hv := aS hr hR.left hy
 generalize a.eval y = u at hv
 cases hv
 rename_i blk cap hob hnc hcz
 obtain ⟨H0, gH, hokH, hmay⟩ := hr.heap
 rw [hR .h (by simp), hH] at gH; cases gH
 obtain ⟨blk0, arr, el1, p1, p2, p3, p4, p5⟩ := hokH.obj id2 _ ho2
 rw [hob] at p1; cases p1
 have hfl : (ys.flatMap AV.cells).length = ys.length * esz := cZ hes
 rw [List.length_map, hfl] at p3
 have hcell : ∀ (j : Nat) v, (ys.flatMap AV.cells)[j]? = some v → v.flat = true ∧ V G (arr.getD j undef) v := fun j v e => p4 j (.v v) (by rw [List.getElem?_map, e]; rfl)
 by_cases h0 : ys = []
 ·subst h0
  exact .inl ⟨rfl, _, _, by rw [← hn2]; rfl⟩
 ·refine .inr ⟨⟨blk, 0, none⟩, cap, arr.toList.take (ys.length * esz), by rw [hn2], by rw [List.length_take, Array.length_toList]; exact Nat.min_eq_left p3.1, fun j v e => ?_, fun v hv => ?_, fun i e hi => hes e (List.mem_of_getElem? hi), fun i e j c hi hj => ?_⟩
  ·rw [List.getElem?_take] at e
   split at e
   ·rw [Addr.add_lit, Nat.zero_add, cell_of_row w blk j arr el1 (0, 0) p2]
    simpa using e
   ·cases e
  ·obtain ⟨j, hj⟩ := List.mem_iff_getElem?.1 hv
   have hj2 : j < ys.length * esz := by
    have h1 := (List.getElem?_eq_some_iff.1 hj).1
    rw [List.length_take] at h1
    exact Nat.lt_of_lt_of_le h1 (Nat.min_le_left _ _)
   have hlt : j < (ys.flatMap AV.cells).length := by rw [hfl]; exact hj2
   obtain ⟨q1, q2⟩ := hcell j _ (List.getElem?_eq_getElem hlt)
   have := q2.eE q1
   rw [List.getElem?_take, if_pos hj2, Array.getElem?_toList] at hj
   rw [Array.getD_eq_getD_getElem?, hj] at this
   exact this
  ·have hlt := (List.getElem?_eq_some_iff.1 hi).1
   have hec := hes e (List.mem_of_getElem? hi)
   have hjl : j < esz := by rw [← hec]; exact (List.getElem?_eq_some_iff.1 hj).1
   have hg := gb hes i j e hi hjl
   rw [hj] at hg
   obtain ⟨q1, q2⟩ := hcell _ _ hg
   refine ⟨q1, ?_⟩
   have hidx : i * esz + j < ys.length * esz := by
    have := Nat.mul_le_mul_right esz (Nat.succ_le_of_lt hlt)
    rw [Nat.succ_mul] at this; omega
   rw [List.getD_eq_getElem?_getD, List.getElem?_take, if_pos hidx, Array.getElem?_toList, ← Array.getD_eq_getD_getElem?]
   exact q2
theorem Co {t1 el esz by_ : Nat} {x y : Operand} {ys zs : List AV} {H : Hp} (hN : d < N) (ht : se P t1 = some (el, esz, by_)) (hz : bu P el = some zs) (hx : cU x s = some .nsl) (hH : get s .h = some (.hp H))
  (hy : cU y s = some (.sl ys)) (hok : cK esz ys = true) (h0 : ys ≠ []) (hd : get s (.b d) = none) (hb : ys.length * by_ ≤ 140737488355328) (h63 : ys.length ≤ 9223372036854775807) :
  aY P N ⟨some d, .call { callee := .builtin .append, args := #[x, y], argTypes := #[t1, t1] }, ty, pos, af, g⟩ s (rd x ++ (rd y ++ [.h, .b d]))
   [(.s d, .sv (.v (.os H.next ys.length esz))), (.h, .hp (H.new ((ys.flatMap AV.cells).map .v))), (.b d, .gone)] := by
 intro t hR E G L a w hr K QQ hK
 have hH' : get t .h = some (.hp H) := by rw [hR .h (by simp)]; exact hH
 have hd' : get t (.b d) = none := by rw [hR (.b d) (by simp)]; exact hd
 obtain ⟨i, z, hu, hi, hzz, hzs, hsz, hby, hpos⟩ := mH ht
 subst hsz
 subst hby
 have hv := aS hr hR.left hx
 have hVy := aS hr hR.right.left hy
 generalize hav : a.eval x = u at hv
 cases hv
 have hm : 0 < ys.length := by cases ys with | nil => exact absurd rfl h0 | cons a l => simp
 rcases me hr.kn hVy hok hpos with ⟨e, _⟩ | ⟨ad, c2, news, hay, hnl, hnews, hone, hLy⟩
 ·exact absurd e h0
 ·have hfl : (ys.flatMap AV.cells).length = ys.length * i.size := cZ fun e he => (gJ hok e he).1
  have hnews2 : ∀ (j : Nat) v, (ys.flatMap AV.cells)[j]? = some v → v.flat = true ∧ V G (news.getD j undef) v := fun j v e => Lay.flat hLy hpos j v e
  unfold Oper.wp
  have hrun := run_append_nil (P := P) w t1 ty el i z hu hi hzz ad ys.length c2 news hnl hnews hm (by omega) (by omega)
  have he : (execOp a.eval ⟨some d, .call { callee := .builtin .append, args := #[x, y], argTypes := #[t1, t1] }, ty, pos, af, g⟩).run P w = .ok (.value (.slice (some ⟨w.heap.size, 0, none⟩) ys.length (grownCap w ys.length 0 el))) (w.drew.alloc (.cells (news.toArray ++ Builtin.zeroCells z.cells (grownCap w ys.length 0 el - ys.length)) el)) := by
   simp only [execOp, resolve, invoke, builtin, Sem.run_bind, Sem.run_pure, Result.andThen_ok, List.map_toArray, List.map_cons, List.map_nil, hav, hay, hrun]
  rw [he]
  have hge := grownCap_ge w ys.length 0 el
  have hzone := vy (G := G) hi hzz hz
  have hsz : (news.toArray ++ Builtin.zeroCells z.cells (grownCap w ys.length 0 el - ys.length)).size = grownCap w ys.length 0 el * i.size := by
   simp only [Array.size_append, List.size_toArray, size_zeroCells, hzs, hnl]
   rw [← Nat.add_mul]
   congr 1; omega
  have hlt2 : ys.length * i.size ≤ grownCap w ys.length 0 el * i.size := Nat.mul_le_mul_right _ hge
  obtain ⟨G', L', hob', hsz', hr2⟩ := hr.vD (w1 := w.drew) ⟨rfl, rfl, rfl, Nat.le_refl _, fun _ _ _ => rfl⟩ rfl hH' hd' (el := el) (arr := news.toArray ++ Builtin.zeroCells z.cells (grownCap w ys.length 0 el - ys.length)) (zs := ys.flatMap AV.cells) (by rw [hsz, hfl]; exact hlt2) (fun j v e => by
   have h2 := (List.getElem?_eq_some_iff.1 e).1
   have := hnews2 _ v e
   refine ⟨this.1, ?_⟩
   rw [Array.getD_eq_getD_getElem?, Array.getElem?_append_left (by simp only [List.size_toArray, hnl]; omega)]
   simp only [List.getElem?_toArray]
   rw [← List.getD_eq_getElem?_getD]
   exact this.2) (fun j h1 h2 => by
   rw [hfl] at h1
   rw [hsz] at h2
   have hlt : j - ys.length * i.size < (Builtin.zeroCells z.cells (grownCap w ys.length 0 el - ys.length)).size := by
    rw [size_zeroCells, hzs, Nat.sub_mul]; omega
   rw [Array.getD_eq_getD_getElem?, Array.getElem?_append_right (by simp only [List.size_toArray, hnl]; omega)]
   simp only [List.size_toArray, hnl]
   rw [Array.getElem?_eq_getElem hlt]
   exact l7 hzone _ _ (Array.getElem_mem hlt))
  exact hK _ _ G' L' (hr2.put d hN _ (.v (.os H.next ys.length i.size)) (V.os H.next _ _ _ _ hob' hge (by rw [hsz', hsz]; exact Nat.le_refl _)))
theorem zp {t1 el esz by_ n : Nat} {ps : List (Nat × Operand)} {«as» zs : List AV} {H : Hp} (hN : d < N) (ht : se P t1 = some (el, esz, by_)) (hz : bu P el = some zs) (hq : j9 ps s = some (dT 0 «as»)) (hn : «as».length = n) (hok : cK esz «as» = true) (hlen : «as».length * esz ≤ 16777216) (hH : get s .h = some (.hp H)) (hd : get s (.b d) = none) :
  aY P N ⟨some d, .buildSlice t1 n ps.toArray, ty, pos, af, g⟩ s (lF (ps.map (·.2)) ++ [.h, .b d]) [(.s d, .sv (.v (.os H.next n esz))), (.h, .hp (H.new ((«as».flatMap AV.cells).map .v))), (.b d, .gone)] := by
 subst hn
 intro t hR E G L a w hr K Q hK
 obtain ⟨arr, hrun, hsz, hL⟩ := rW hr ht hz hR.left hq hok hlen
 obtain ⟨_, _, _, _, _, _, _, _, hpos⟩ := mH ht
 have hfl : («as».flatMap AV.cells).length = «as».length * esz := cZ fun e he => (gJ hok e he).1
 obtain ⟨G', L', hob, hsz', hr2⟩ := hr.vD (d := d) (w1 := w) ⟨rfl, rfl, rfl, Nat.le_refl _, fun _ _ _ => rfl⟩ rfl (show get t .h = some (.hp H) by rw [hR .h (by simp)]; exact hH) (show get t (.b d) = none by rw [hR (.b d) (by simp)]; exact hd) (arr := arr) (el := el) (zs := «as».flatMap AV.cells) (by rw [hsz, hfl]; exact Nat.le_refl _) (fun j x e => by
  have := Lay.flat hL hpos j x e
  refine ⟨this.1, ?_⟩
  rw [Array.getD_eq_getD_getElem?, ← Array.getElem?_toList, ← List.getD_eq_getElem?_getD]
  exact this.2) (fun j h1 h2 => by rw [hfl] at h1; rw [hsz] at h2; omega)
 unfold Oper.wp
 have he : (execOp a.eval ⟨some d, .buildSlice t1 «as».length ps.toArray, ty, pos, af, g⟩).run P w = .ok (.value (.slice (some ⟨w.heap.size, 0, none⟩) «as».length «as».length)) (w.alloc (.cells arr el)) := by
  simp only [execOp, Sem.run_bind, hrun, Result.andThen_ok, Sem.run_pure]
 rw [he]
 exact hK _ _ G' L' (hr2.put d hN _ (.v (.os H.next «as».length esz)) (V.os H.next _ _ _ _ hob (Nat.le_refl _) (by rw [hsz', hsz]; exact Nat.le_refl _)))
end
/- The program logic's rules: an object that is never written again is a value. No condition. -/
theorem Rel.H5 {E : dX} {N : Nat} {G : Gh} {L : Loc} {a : Act} {w : World} {s : St} (h : Rel E N G L a w s) {H : Hp} {id blk : Nat} {xs : List AV} (hH : get s .h = some (.hp H)) (ho : H.obj id = some (xs.map .v)) (hb : G.ob id = some blk) :
  ∃ G', G.le G' ∧ Rel E N G' L a w ((.h, .hp (H.del id)) :: s) ∧ ∀ (j : Nat) x, xs[j]? = some x → ∃ v, G'.kn blk j = some v ∧ x.flat = true ∧ V G' v x := by
 obtain ⟨H0, gH, hok, hmay⟩ := h.heap
 rw [hH] at gH; cases gH
 obtain ⟨blk0, arr, el, p1, hh, hsz, hc, hno⟩ := hok.obj id _ ho
 rw [hb] at p1; cases p1
 have hmine : aZ G H w blk := .inl ⟨id, ⟨_, ho⟩, hb⟩
 let G' := G.add blk arr.toList
 have hle : G.le G' := Gh.sT (fun o v e => by rw [hno o] at e; cases e)
 have hkn2 : ∀ c j, c ≠ blk → G'.kn c j = G.kn c j := fun c j e => by simp [G', Gh.add, e]
 obtain ⟨d1, d2, d3⟩ := hok.del id
 have hfb : ∀ c, aZ G (H.del id) w c → c ≠ blk := by
  rintro c (⟨i, ⟨hs, q1⟩, q2⟩ | ⟨i, j, q1⟩) rfl
  ·have e3 : (if i = id then none else H.obj i) = some hs := q1
   by_cases ei : i = id
   ·rw [if_pos ei] at e3; cases e3
   ·rw [if_neg ei] at e3
    exact ei (hok.inj i id _ q2 hb ⟨hs, e3⟩ ⟨_, ho⟩)
  ·exact (d1.apart i j c q1).1 id hb
 have hown : ∀ c b, owns ((.h, .hp (H.del id)) :: s) L c b → owns s L c b := by
  intro c b hc
  cases c <;> simp only [owns, get, reduceCtorEq, if_false] at hc ⊢ <;> exact hc
 have hne : ∀ c b, owns s L c b → b ≠ blk := fun c b hc e => h.hdisj c b hc H hH (e ▸ hmine)
 have hst := d1.stay (w' := w) hle rfl (fun c hc o => (hkn2 c o (hfb c hc)).trans ((d1.aZ hc).2 o)) (fun c hc => rfl) (Nat.le_refl _)
 refine ⟨G', hle, ⟨h.size, h.defs, h.ge, ?_, ?_, h.obs, h.obn, h.fr, ?_, ?_, ?_, fun c d b hc hd => h.disj c d b (hown _ _ hc) (hown _ _ hd), ⟨H.del id, rfl, hst.1, fun b hb2 => hmay b (d3 b ((hst.2 b).1 hb2))⟩, fun c b hc H2 g2 e2 => ?_, ?_, ?_⟩, ?_⟩
 ·intro b j v e
  by_cases eb : b = blk
  ·subst eb
   rw [sU] at e
   rw [cell_of_row w b j arr el (0, 0) hh]
   simpa using e
  ·rw [hkn2 b j eb] at e; exact h.kn b j v e
 ·intro b j hlt hm
  rw [hkn2 b j (fun e => by
   subst e
   rcases hmay b hmine with e | e
   ·omega
   ·exact hm e)]
  exact h.old b j hlt hm
 ·intro n x g
  exact (h.slot n x (by simpa [get] using g)).mono hle
 ·intro j cv g hl
  have g' : get s (.b j) = some cv := by simpa [get] using g
  exact (h.box j cv g' hl).stay hle (fun _ _ e => .inl ⟨_, e⟩) (fun _ _ => rfl) (fun b2 p1 o => hkn2 b2 o (hne (.b j) b2 ⟨⟨cv, g', hl⟩, p1⟩))
 ·intro j m el' esz' ys g
  have g' : get s (.t j) = some (.tk m el' esz' ys) := by simpa [get] using g
  exact (h.tok j m el' esz' ys g').stay hle (fun _ _ e => .inl ⟨_, e⟩) (fun _ _ _ _ => rfl) (fun v b2 hv hb2 o => hkn2 b2 o (hne (.t j) b2 ⟨⟨_, _, _, _, g'⟩, v, hv, hb2⟩))
 ·simp [get] at g2
  subst g2
  exact h.hdisj c b (hown _ _ hc) H hH (d3 b ((hst.2 b).1 e2))
 ·intro j g; exact h.nobox j (by simpa [get] using g)
 ·intro j g; exact h.notok j (by simpa [get] using g)
 ·intro j x e
  have := hc j (.v x) (by rw [List.getElem?_map, e]; rfl)
  have hlt : j < arr.size := by have h1 := (List.getElem?_eq_some_iff.1 e).1; have h2 := hsz.1; rw [List.length_map] at h2; omega
  refine ⟨arr.getD j undef, ?_, this.1, V.mono hle this.2⟩
  rw [sU, Array.getElem?_toList, Array.getD_eq_getD_getElem?, Array.getElem?_eq_getElem hlt]; rfl
theorem xS {G G' : Gh} {id n c esz : Nat} {v : Value} {ys : List AV} (hv : V G v (.os id n c)) {blk : Nat} (hob : G.ob id = some blk) {xs : List AV} (hkn : ∀ (j : Nat) x, xs[j]? = some x → ∃ v, G'.kn blk j = some v ∧ x.flat = true ∧ V G' v x)
  (hes : ∀ e ∈ ys, e.cells.length = esz) (hx : ys.flatMap AV.cells = xs.take (ys.length * esz)) (hn : n ≤ ys.length) : V G' v (.sl (ys.take n)) := by
 cases hv
 rename_i b cap hb hc hz
 rw [hob] at hb; cases hb
 have key : ∀ (i : Nat) (e : AV) (j : Nat) (c : AV), (ys.take n)[i]? = some e → e.cells[j]? = some c → xs[i * esz + j]? = some c := by
  intro i e j c' h1 h2
  rw [List.getElem?_take] at h1
  split at h1
  ·rename_i hi
   have he := hes e (List.mem_of_getElem? h1)
   have hj : j < esz := by rw [← he]; exact (List.getElem?_eq_some_iff.1 h2).1
   have h3 := gb hes i j e h1 hj
   rw [h2, hx, List.getElem?_take] at h3
   split at h3
   ·exact h3
   ·cases h3
  ·cases h1
 have hlen : (ys.take n).length = n := by rw [List.length_take]; omega
 have := V.slN (G := G') blk 0 cap esz (ys.take n) (fun i j => (G'.kn blk (i * esz + j)).getD undef) (by rw [hlen]; exact hc) (fun i e h => hes e (List.mem_of_mem_take (List.mem_of_getElem? h)))
  (fun i e j c' h1 h2 => by
   obtain ⟨v, q1, q2, q3⟩ := hkn _ _ (key i e j c' h1 h2)
   rw [Nat.zero_add, q1]; rfl)
  (fun i e j c' h1 h2 => by
   obtain ⟨v, q1, q2, q3⟩ := hkn _ _ (key i e j c' h1 h2)
   exact q2)
  (fun i e j c' h1 h2 => by
   obtain ⟨v, q1, q2, q3⟩ := hkn _ _ (key i e j c' h1 h2)
   rw [q1]; exact q3)
 rwa [hlen] at this
theorem V.HD {G : Gh} {v : Value} {id n c : Nat} (h : V G v (.os id n c)) : ∃ blk, G.ob id = some blk := by
 cases h
 exact ⟨_, by assumption⟩
theorem Kept.HY {s : St} {Q : St → Prop} (A j : Nat) {id n c esz : Nat} {H : Hp} {cs : List Hc} {xs ys : List AV} (hH : get s .h = some (.hp H)) (hA : H.obj A = some cs) (hj : cs[j]? = some (.v (.os id n c))) (ho : H.obj id = some (xs.map .v)) (hne : A ≠ id)
  (hes : ∀ e ∈ ys, e.cells.length = esz) (hx : ys.flatMap AV.cells = xs.take (ys.length * esz)) (hn : n ≤ ys.length) (h : Kept ((.h, .hp ((H.del id).set A (cs.set j (.v (.sl (ys.take n)))))) :: (.h, .hp (H.del id)) :: s) Q) : Kept s Q := fun E N a w ⟨G, L, hr⟩ => by
 obtain ⟨H0, gH, hok, hmay⟩ := hr.heap
 rw [hH] at gH; cases gH
 obtain ⟨blkA, arr, el, a1, a2, a3, a4, a5⟩ := hok.obj A cs hA
 have hv : V G (arr.getD j undef) (.os id n c) := (a4 j _ hj).2
 obtain ⟨blk, hob⟩ := hv.HD
 obtain ⟨G', hle, hr', hkn⟩ := hr.H5 hH ho hob
 have hA' : (H.del id).obj A = some cs := by
  show (if A = id then none else H.obj A) = some cs
  rw [if_neg hne]; exact hA
 obtain ⟨H1, gH1, hok1, _⟩ := hr'.heap
 simp [get] at gH1; subst gH1
 obtain ⟨b2, arr2, el2, q1, q2, q3, q4, q5⟩ := hok1.obj A cs hA'
 rw [hle.ob _ _ a1] at q1; cases q1
 rw [a2] at q2; cases q2
 have hlt : j < cs.length := (List.getElem?_eq_some_iff.1 hj).1
 refine h E N a w ⟨G', L, hr'.lK (w' := w) (arr' := arr) (by simp [get]) hA' (hle.ob _ _ a1) a2 rfl rfl rfl rfl (fun _ _ => rfl) a2 ⟨rfl, by simpa using a3.1⟩ (fun i x e => ?_) (fun i el esz zs e => ?_)⟩
 ·by_cases hi : i = j
  ·subst hi
   rw [List.getElem?_set_self hlt] at e; cases e
   exact ⟨rfl, xS hv hob hkn hes hx hn⟩
  ·rw [List.getElem?_set_ne (by omega)] at e
   exact q4 i x e
 ·by_cases hi : i = j
  ·subst hi
   rw [List.getElem?_set_self hlt] at e; cases e
  ·rw [List.getElem?_set_ne (by omega)] at e
   exact ⟨e, rfl⟩
/- The program logic's rules: calls that answer something of a kind; appends to nothing; a row that is an object from the first. No condition. -/
def fw (P : Program) (f : FuncId) (args : List AV) (H : Hp) (Post : AV → Hp → Prop) : Prop :=
 ∀ G w cargs, GE ⟨G, w, aZ G H w, []⟩ → eT G w → dK G w H → VL G cargs args → Calls P f cargs w fun e w' =>
  ∃ v G' r H', Post r H' ∧ e = .returned v ∧ V G' v r ∧ mh (aZ G H w) G G' w ∧ eT G' w' ∧ dK G' w' H' ∧ Fr (aZ G H w) w w' ∧ ∀ b, aZ G' H' w' b → w.heap.size ≤ b ∨ aZ G H w b
theorem dW.CD {P : Program} {f : FuncId} {args : List AV} {H H' : Hp} {r : AV} {Post : AV → Hp → Prop} (h : dW P f args H r H') (hp : Post r H') : fw P f args H Post := fun G w cargs hg hk hH hV =>
 (h G w cargs hg hk hH hV).mono fun e w' ⟨v, G', he, h1, rest⟩ => ⟨v, G', r, H', hp, he, h1, rest⟩
theorem fw.aN {P : Program} {f : FuncId} {fn : Func} {c : Code} {N : Nat} {args : List AV} {H : Hp} {Post : AV → Hp → Prop} (hf : P.funcs[f]? = some fn) (hb : fn.body = some c) (hN : fn.ntmps = N) (hle : args.length ≤ N)
  (h : aC P N c ((.h, .hp H) :: ek args 0) fun e s' => (e = .normal ∨ e = .ret) ∧ ∃ r H', Post r H' ∧ aE P fn s' r ∧ get s' .h = some (.hp H')) : fw P f args H Post := by
 intro G w cargs hg hk hH hV
 refine calls_of_wp hf hb ?_
 have h0 := qt hN hle hg hk hH hV
 refine wp_mono (h ⟨G, w, aZ G H w, []⟩ _ w h0) ?_
 rintro e a' w' ⟨s', ⟨G', L', hr⟩, he, r, H', hP, hres, hh⟩
 obtain ⟨v, hv, hV'⟩ := hres _ _ _ _ _ _ hr
 obtain ⟨H2, g, hok, hmay⟩ := hr.heap
 rw [hh] at g; cases g
 have hpost : ∃ v2 G' r H', Post r H' ∧ Ending.returned v = .returned v2 ∧ V G' v2 r ∧ mh (aZ G H w) G G' w ∧ eT G' w' ∧ dK G' w' H' ∧ Fr (aZ G H w) w w' ∧ ∀ b, aZ G' H' w' b → w.heap.size ≤ b ∨ aZ G H w b :=
  ⟨v, G', r, H', hP, rfl, hV', ⟨hr.old, hr.obs, hr.obn⟩, hr.kn, hok, hr.fr, hmay⟩
 rcases he with rfl | rfl
 ·exact ⟨hr.defs, v, hv, hpost⟩
 ·exact ⟨hr.defs, v, hv, hpost⟩
section
variable {P : Program} {N : Nat} {s : St} {d : Nat} {ty : TypeId} {pos : String} {af : Array Edge} {g : Option (Nat × Bool)}
theorem aB.dh {ops : Array Oper} {l : List Oper} {Q : St → Prop} {f : FuncId} {xs : Array Operand} {tys : Array TypeId} {«as» : List AV} {H : Hp} {Post : AV → Hp → Prop} (hN : d < N) (hf : aa P f = true) (hH : get s .h = some (.hp H)) (ha : k7 xs.toList s = some «as») (hp : fw P f «as» H Post)
  (h : ∀ r H', Post r H' → aB P N ops l ((.s d, .sv (.v r)) :: (.h, .hp H') :: s) Q) : aB P N ops (⟨some d, .call { callee := .value (.func f), args := xs, argTypes := tys }, ty, pos, af, none⟩ :: l) s Q := by
 refine aB.many rfl (fun ws => ∃ r H', Post r H' ∧ ws = [(.s d, .sv (.v r)), (.h, .hp H')]) (fun E G L a w hr K QQ hK => ?_) (fun ws ⟨r, H', h1, h2⟩ => by subst h2; exact h r H' h1)
 obtain ⟨cargs, he, hV⟩ := gd (ty := ty) (pos := pos) (af := af) (g := none) hf ha (dst := some d) E G L a w s hr (fun _ _ => rfl)
 obtain ⟨H2, hH2, hok, hmay⟩ := hr.heap
 rw [hH] at hH2; cases hH2
 unfold Oper.wp
 rw [he]
 refine (hp G w cargs (hr.sB hH) hr.kn hok hV).mono ?_
 rintro e w' ⟨v, G', r, H', hP, rfl, hv, hx, hkn, hok', hf', hft⟩
 exact hK v w' G' L _ ⟨r, H', hP, rfl⟩ ((hr.called hH hx hkn hok' hf' hft).put d hN v (.v r) hv)
end
/- The program logic's rules: a box's cell is known as less. No condition. -/
theorem Rel.IB {E : dX} {N : Nat} {G : Gh} {L : Loc} {a : Act} {w : World} {s : St} (h : Rel E N G L a w s) {k : Nat} {cs cs' : List Sv} (hk : get s (.b k) = some (.bx cs)) (hl : cs'.length = cs.length)
  (hw : ∀ (j : Nat) x x', cs[j]? = some x → cs'[j]? = some x' → x'.flat = true ∧ ∀ v, SV G L v x → SV G L v x') : Rel E N G L a w ((.b k, .bx cs') :: s) := by
 have ho : ∀ c blk, owns ((.b k, .bx cs') :: s) L c blk → owns s L c blk := by
  intro c blk hc
  by_cases e : c = .b k
  ·subst e
   exact ⟨⟨_, hk, rfl⟩, hc.2⟩
  ·exact cT e hc
 refine ⟨h.size, h.defs, h.ge, h.kn, h.old, h.obs, h.obn, h.fr, fun n x g => h.slot n x (by simpa [get] using g), fun j cv g hlv => ?_, fun j m el esz xs g => h.tok j m el esz xs (by simpa [get] using g), fun c d blk hc hd => h.disj c d blk (ho _ _ hc) (ho _ _ hd), ?_, fun c blk hc H g => h.hdisj c blk (ho _ _ hc) H (by simpa [get] using g), fun j g => ?_, fun j g => h.notok j (by simpa [get] using g)⟩
 ·by_cases e : j = k
  ·subst e
   simp [get] at g
   subst g
   obtain ⟨blk, o, q1, q2, q3, ⟨arr, el, e1, e2, e3⟩, q5, q6⟩ := h.box j _ hk rfl
   refine ⟨blk, o, q1, q2, q3, ⟨arr, el, e1, by rw [hl]; exact e2, fun i x' hx' => ?_⟩, q5, q6⟩
   have hlt : i < cs.length := by rw [← hl]; exact (List.getElem?_eq_some_iff.1 hx').1
   obtain ⟨w1, w2⟩ := hw i _ x' (List.getElem?_eq_getElem hlt) hx'
   exact ⟨w1, w2 _ (e3 i _ (List.getElem?_eq_getElem hlt)).2⟩
  ·exact h.box j cv (by simpa [get, Ne.symm e] using g) hlv
 ·obtain ⟨H, g, rest⟩ := h.heap
  exact ⟨H, by simpa [get] using g, rest⟩
 ·by_cases e : j = k
  ·subst e; simp [get] at g
  ·exact h.nobox j (by simpa [get, Ne.symm e] using g)
def tw : Sv → Sv
 | .ow _ xs => .v (.sl xs)
 | x => x
theorem SV.forget {G : Gh} {L : Loc} {v : Value} {x : Sv} (h : SV G L v x) : SV G L v (tw x) := by
 cases x <;> first | exact h | exact h.1
theorem Kept.forget {s : St} {Q : St → Prop} (k : Nat) {cs : List Sv} (hk : get s (.b k) = some (.bx cs)) (h : Kept ((.b k, .bx (cs.map tw)) :: s) Q) : Kept s Q := fun E N a w ⟨G, L, hr⟩ => by
 refine h E N a w ⟨G, L, hr.IB hk (by simp) fun j x x' hx hx' => ?_⟩
 rw [List.getElem?_map, hx] at hx'
 cases hx'
 obtain ⟨blk, o, q1, q2, q3, ⟨arr, el, e1, e2, e3⟩, q5, q6⟩ := hr.box k _ hk rfl
 have hf := (e3 j x hx).1
 refine ⟨?_, fun v hv => hv.forget⟩
 cases x <;> first | exact hf | rfl
set_option linter.unusedSectionVars false
set_option maxRecDepth 100000
open Go Go.RowKit Go.Proofs
/- the document: are they there already? -/
theorem Fo : aa Tryz.prog 79 = true := by kernel_rfl
theorem Ap : aa Tryz.prog 80 = true := by kernel_rfl
theorem eY : se Tryz.prog 71 = some (77, 7, 72) := by kernel_rfl
theorem kK : bu Tryz.prog 77 = some [AV.str [], AV.int IntKind.i64 (0), AV.int IntKind.i64 (0), AV.str [], AV.bool false, AV.bool false, AV.str []] := by kernel_rfl
def sb (m : aU) (l : List ag) : Nat → List ag
 | 0 => m.fields
 | i + 1 => m.fields ++ l.take (i + 1)
theorem lJ (m : aU) (l : List ag) (i : Nat) : sb m l i = m.fields ++ l.take i := by
 cases i with
 | zero => exact (List.append_nil _).symm
 | succ i => rfl
def aU.upto (m : aU) (l : List ag) (i : Nat) : aU := { m with fields := sb m l i }
theorem gP {m : aU} {l : List ag} {i : Nat} : (m.upto l i).fields.length ≤ m.fields.length + l.length := by
 show (sb m l i).length ≤ _
 rw [lJ, List.length_append, List.length_take]; omega
theorem qL {m : aU} {l : List ag} {i : Nat} (hi : i < l.length) : (m.upto l i).fields ++ [l[i]] = (m.upto l (i + 1)).fields := by
 have e : l.take (i + 1) = l.take i ++ [l[i]] := by rw [List.take_add_one, List.getElem?_eq_getElem hi]; rfl
 show sb m l i ++ [l[i]] = sb m l (i + 1)
 rw [lJ, lJ, e, List.append_assoc]
theorem Bk {m : aU} {l : List ag} {i : Nat} (hi : i < l.length) : (m.upto l i).fields.map ag.av ++ [l[i].av] = (m.upto l (i + 1)).fields.map ag.av := by
 rw [← qL hi, List.map_append]; rfl
theorem Iy {v : CV} {n t : Sv} {rest : List (aK × CV)} {a b : List AV} (h : a = b) : ((aK.s 9, v) :: (aK.b 5, CV.bx [n, .v (.sl a), t]) :: rest) = [(aK.s 9, v), (aK.b 5, CV.bx [n, .v (.sl b), t])] ++ rest := by rw [h]; rfl
theorem np {m : aU} {l : List ag} {i : Nat} (hi : i < l.length) : fk (m.upto l i) (l.drop i) = (!(m.upto l i).free l[i].num || fk (m.upto l (i + 1)) (l.drop (i + 1))) := by
 rw [List.drop_eq_getElem_cons hi]
 show (_ || fk { m.upto l i with fields := (m.upto l i).fields ++ [l[i]] } _) = _
 rw [qL hi]; rfl
theorem x4 {m : aU} {l : List ag} {i : Nat} (hi : l.length ≤ i) : fk (m.upto l i) (l.drop i) = false := by
 rw [List.drop_eq_nil_of_le hi]; rfl
theorem x3 {s : aM} {m : aU} {x : aP} {l : List ag} {i : Nat} (hi : i < l.length) (hI : fk (m.upto l i) (l.drop i) = fk m l) (h : (!(m.upto l i).free l[i].num) = true) : true = x.there s m l := by
 unfold aP.there
 rw [← hI, np hi, h]; rfl
theorem gI {s : aM} {m : aU} {x : aP} {l : List ag} {i : Nat} (hi : l.length ≤ i) (hI : fk (m.upto l i) (l.drop i) = fk m l) : x.there s m l = ((decide (x.kind = 6) && (decide (0 ≤ s.dy x.dest) || decide (0 ≤ s.bD x.dest))) || (decide (x.kind = 8) && decide (0 < ((m.upto l i).members x.field).length))) := by
 have e : m.upto l i = { m with fields := m.fields ++ l } := by unfold aU.upto; rw [lJ, List.take_of_length_le hi]
 unfold aP.there
 rw [← hI, x4 hi, e, Bool.false_or]
theorem CM (s : aM) (m : aU) (x : aP) (l : List ag) (hs : s.sm) (hm : m.fields.length ≤ 100) (hb : m.ab.length ≤ 100) (hl : l.length ≤ 100) : Pure Tryz.prog 47 [s.av, m.av, x.av, .sl (l.map ag.av)] (.bool (x.there s m l)) := by
 have hsm := hs.m
 have hse := hs.e
 refine Pure.aN Tryz.func47 rfl rfl (aF rfl) fun H => (aC.seq (aC.region (aB.run II 4 rfl (aB.nil (aC.seq (aC.seq (aC.region (aB.run II 1 rfl (aB.nil (aC.blk (aC.aJ (Kept.aH [.s 9, .b 5, .h, .s 3, .s 4, .b 4, .s 5, .s 6, .b 6] rfl (by decide) (Kept.now (aC.aW (fun (i : Nat) => [(.s 9, .sv (.v (.int .i64 (i : Int)))), (.b 5, .bx [.v (.str m.name), .v (.sl ((m.upto l i).fields.map ag.av)), .v (.sl (m.ab.map dL))])]) _ (fun (i : Nat) => fk (m.upto l i) (l.drop i) = fk m l) (fun (i : Nat) => l.length - i) 0 rfl rfl ?_))))))))))))))
 rintro i hI
 refine aC.seq (aC.seq (aC.region (aB.run II 4 rfl (aB.nil (aC.cond rfl (fun hc1 => ?_) (fun hc1 => ?_))))))
 ·have hi := ch hc1
  refine aC.skip (aC.seq (aC.blk (aC.seq (aC.seq (aC.drawn mixed rfl (aD.run II 3 rfl (aD.c1 rfl (aI (aF rfl) bQ rfl rfl (Int.natCast_nonneg _) (bz hi) rfl) (aD.run II 2 rfl (aD.c1 rfl (aG (aF rfl) Fo rfl (Ec (m.upto l i) _ (by have := @gP m l i; omega) (by show m.ab.length ≤ 1000; omega))) ?_)))))))))
  refine aD.run II 1 rfl (aD.nil (by kernel_rfl) (Kept.now (aC.cond rfl (fun hc2 => ?_) (fun hc2 => ?_))))
  ·exact aC.seq (aC.region (aB.run II 1 rfl (aB.nil (aC.ret ⟨.inr rfl, (aE.r1 rfl (.tmp rfl .nil)).cast (congrArg AV.bool (x3 hi hI hc2)), rfl⟩))))
  ·refine aC.skip (aC.drawn mixed rfl (aD.c2 rfl (az («as» := []) (aF rfl) eY kK rfl rfl rfl (ft rfl) rfl) (aD.run II 2 rfl (aD.c3 rfl (aV (aF rfl) eY rfl rfl rfl (by first | rfl | exact bW ag.cells (fun _ => rfl) _) rfl (by have := @gP m l i; simp; omega) (by have := @gP m l i; simp; omega)) ?_))))
   refine aD.run II 2 rfl (aD.c1 rfl (aI (aF rfl) bQ rfl rfl (Int.natCast_nonneg _) (bz hi) rfl) (aD.run II 2 rfl (aD.c3 rfl (aV (aF rfl) eY rfl rfl rfl (by first | rfl | exact bW ag.cells (fun _ => rfl) _) rfl (by have := @gP m l i; simp; omega) (by have := @gP m l i; simp; omega)) ?_)))
   exact aD.run II 2 rfl (aD.nil (by kernel_rfl) (Kept.now (aC.region (aB.run II 3 rfl (aB.kept (Kept.aX 9 rfl (inc (by omega)) (Kept.forget 5 rfl (Kept.aH [.s 9, .b 5, .h, .s 3, .s 4, .b 4, .s 5, .s 6, .b 6] rfl (by decide) (Kept.now ⟨i + 1, by omega, by rw [← hI, np hi]; simp_all, Iy (Bk hi)⟩)))))))))
 ·have hi := ck hc1
  refine aC.exit (aC.seq (aC.seq (aC.region (aB.run II 4 rfl (aB.tell (d := 38) rfl (fun hg3 => ?_) (fun hg3 => ?_))))))
  ·refine aB.run II 3 rfl (aB.g1 rfl (aF rfl) rfl rfl (aG (aF rfl) As rfl (tB _ _ (by omega))) (aB.run II 2 rfl (aB.tell (d := 44) rfl (fun hg4 => ?_) (fun hg4 => ?_))))
   ·exact aB.run II 7 rfl (aB.nil (aC.bG rfl rfl (aC.seq (aC.region (aB.run II 1 rfl (aB.nil (aC.ret ⟨.inr rfl, (aE.r1 rfl (.tmp rfl .nil)).cast (congrArg AV.bool (by rw [gI hi hI]; simp_all)), rfl⟩)))))))
   ·refine aB.run II 3 rfl (aB.g1 rfl (aF rfl) rfl rfl (aG (aF rfl) kA rfl (gv _ _ (by omega))) (aB.run II 3 rfl (aB.nil (aC.cond rfl (fun hc5 => ?_) (fun hc5 => ?_)))))
    ·exact aC.seq (aC.region (aB.run II 1 rfl (aB.nil (aC.ret ⟨.inr rfl, (aE.r1 rfl (.tmp rfl .nil)).cast (congrArg AV.bool (by rw [gI hi hI]; simp_all)), rfl⟩))))
    ·refine aC.skip (aC.seq (aC.region (aB.run II 4 rfl (aB.tell (d := 55) rfl (fun hg6 => ?_) (fun hg6 => ?_)))))
     ·refine aB.run II 3 rfl (aB.g1 rfl (aF rfl) rfl rfl (aG (aF rfl) Ap rfl (q9 (m.upto l i) _ (by have := @gP m l i; omega))) ?_)
      exact aB.run II 4 rfl (aB.nil (aC.ret ⟨.inr rfl, (aE.r1 rfl (.tmp rfl .nil)).cast (congrArg AV.bool (by rw [gI hi hI]; simp_all)), rfl⟩))
     ·exact aB.run II 8 rfl (aB.nil (aC.ret ⟨.inr rfl, (aE.r1 rfl (.tmp rfl .nil)).cast (congrArg AV.bool (by rw [gI hi hI]; simp_all)), rfl⟩))
  ·refine aB.run II 13 rfl (aB.nil (aC.bR rfl rfl (aC.skip (aC.seq (aC.region (aB.run II 4 rfl (aB.tell (d := 55) rfl (fun hg7 => ?_) (fun hg7 => ?_))))))))
   ·refine aB.run II 3 rfl (aB.g1 rfl (aF rfl) rfl rfl (aG (aF rfl) Ap rfl (q9 (m.upto l i) _ (by have := @gP m l i; omega))) ?_)
    exact aB.run II 4 rfl (aB.nil (aC.ret ⟨.inr rfl, (aE.r1 rfl (.tmp rfl .nil)).cast (congrArg AV.bool (by rw [gI hi hI]; simp_all)), rfl⟩))
   ·exact aB.run II 8 rfl (aB.nil (aC.ret ⟨.inr rfl, (aE.r1 rfl (.tmp rfl .nil)).cast (congrArg AV.bool (by rw [gI hi hI]; simp_all)), rfl⟩))
/- the document: is what a kind of step asks so? -/
theorem pN : aa Tryz.prog 42 = true := by kernel_rfl
theorem Fp : aa Tryz.prog 78 = true := by kernel_rfl
theorem jV {m : aU} {n : aw} (h : m.eD n = true) : 0 ≤ m.cQ n := by
 rcases bB (fun f : ag => f.name == n) m.fields 0 with ⟨q1, q2⟩ | ⟨i, hi, q1, q2, q3⟩
 ·have h4 : m.fields.any (fun f => f.name == n) = false := List.any_eq_false.2 (fun f hf => by have := List.find?_eq_none.1 q2 f hf; simpa using this)
  unfold aU.eD at h
  rw [h4] at h; cases h
 ·have e : m.cQ n = ((0 + i : Nat) : Int) := q1
  omega
theorem iA {m : aU} {n : aw} (h : 0 ≤ m.cQ n) : (m.fields.map ag.av)[(m.cQ n).toNat]? = some (.agg (m.aQ n).cells) := by
 rcases bB (fun f : ag => f.name == n) m.fields 0 with ⟨q1, q2⟩ | ⟨i, hi, q1, q2, q3⟩
 ·have e : m.cQ n = -1 := q1
  omega
 ·have e : m.cQ n = ((0 + i : Nat) : Int) := q1
  have e2 : m.fields.find? (fun f => f.name == n) = some m.fields[i] := q2
  unfold aU.aQ
  rw [e, e2, Int.toNat_natCast, Nat.zero_add, List.getElem?_map, List.getElem?_eq_getElem hi]; rfl
theorem pQ {m : aU} {n : aw} (h : ¬ 0 ≤ m.cQ n) : m.aQ n = dg := by
 rcases bB (fun f : ag => f.name == n) m.fields 0 with ⟨q1, q2⟩ | ⟨i, hi, q1, q2, q3⟩
 ·have e2 : m.fields.find? (fun f => f.name == n) = none := q2
  unfold aU.aQ
  rw [e2]; rfl
 ·have e : m.cQ n = ((0 + i : Nat) : Int) := q1
  omega
theorem mw {m : aU} {x : aP} (h : x.bg.all m.eD = true) (hk : x.kind = 8) {i : Nat} (hi : i < x.names.length) : m.eD x.names[i] = true := by
 have e : x.bg = x.names := by unfold aP.bg; rw [if_pos hk]
 rw [e] at h
 exact List.all_eq_true.1 h _ (List.getElem_mem hi)
theorem oe {m : aU} {x : aP} (h : x.bg.all m.eD = true) (hk : x.kind = 5) : m.eD x.also = true := by
 have e : x.bg = [x.field, x.also] := by unfold aP.bg; rw [hk]; rfl
 rw [e] at h
 simp at h; exact h.2
theorem BU {s : aM} {m : aU} {f : ag} : decide (0 ≤ s.uJ m f) = s.boxed m f := by
 unfold aM.uJ
 cases h : s.boxed m f with
 | true => have := (iu h).1; simp; omega
 | false => simp
theorem BW {s : aM} {m : aU} {x : aP} (hk : x.kind = 8) {i : Nat} (hi : i < x.names.length) (h : (!(m.aQ x.names[i]).alone) = true) : false = x.asked s m := by
 symm
 unfold aP.asked
 rw [hk]
 show x.names.all _ = false
 exact List.all_eq_false.2 ⟨_, List.getElem_mem hi, by simpa using h⟩
theorem yp {s : aM} {m : aU} {x : aP} (hk : x.kind = 8) {i : Nat} (hi : x.names.length ≤ i) (hI : ∀ k (hk : k < x.names.length), k < i → (m.aQ x.names[k]).alone = true) : true = x.asked s m := by
 symm
 unfold aP.asked
 rw [hk]
 show x.names.all _ = true
 refine List.all_eq_true.2 fun n hn => ?_
 obtain ⟨k, hk2, rfl⟩ := List.getElem_of_mem hn
 exact hI k hk2 (by omega)
theorem C2 (s : aM) (m : aU) (x : aP) (hs : s.sm) (hm : m.fields.length ≤ 1000) (hn : x.bg.all m.eD = true) (hl : x.names.length ≤ 1000) : Pure Tryz.prog 43 [s.av, m.av, x.av] (.bool (x.asked s m)) := by
 have hsm := hs.m
 have hse := hs.e
 refine Pure.aN Tryz.func43 rfl rfl (aF rfl) fun H => (aC.seq (aC.region (aB.run II 4 rfl (aB.nil (aC.seq (aC.region (aB.run II 3 rfl (aB.nil (aC.c8 [.h, .s 3, .b 3, .s 4, .b 4, .s 5, .b 5] (fun (_ : Unit) => [(.s 7, .sv (.lp 7 0)), (.b 7, .bx [.v (.str (m.aQ x.field).name), .v (.int .i64 (m.aQ x.field).num), .v (.int .i64 (m.aQ x.field).ty), .v (.str (m.aQ x.field).ref), .v (.bool (m.aQ x.field).rep), .v (.bool (m.aQ x.field).loose), .v (.str (m.aQ x.field).one)])]) (fun (_ : Unit) => True) rfl ?_ ?_)))))))))
 ·refine aC.seq (aC.region (aB.run II 3 rfl (aB.c1 rfl (aG (aF rfl) pN rfl (iS _ _ (by omega))) (aB.run II 1 rfl (aB.nil (aC.seq (aC.region (aB.run II 2 rfl (aB.nil (aC.cond rfl (fun hc1 => ?_) (fun hc1 => ?_)))))))))))
  ·exact aC.region (aB.run II 3 rfl (aB.c1 rfl (aI (aF rfl) bQ rfl rfl (of_decide_eq_true hc1) (iA (of_decide_eq_true hc1)) rfl) (aB.run II 2 rfl (aB.kept (Kept.aH [.s 7, .b 7, .h, .s 3, .b 3, .s 4, .b 4, .s 5, .b 5] rfl (by decide) (Kept.now ⟨(), trivial, rfl⟩))))))
  ·exact aC.aJ (Kept.aH [.s 7, .b 7, .h, .s 3, .b 3, .s 4, .b 4, .s 5, .b 5] rfl (by decide) (Kept.now (aC.skip ⟨(), trivial, by rw [pQ (of_decide_eq_false hc1)]; rfl⟩)))
 ·rintro _ hF5
  refine aC.seq (aC.seq (aC.region (aB.run II 2 rfl (aB.nil (aC.blk (aC.seq (aC.region (aB.run II 2 rfl (aB.nil (aC.cond rfl (fun hc2 => ?_) (fun hc2 => ?_)))))))))))
  ·refine aC.seq (aC.region (aB.run II 4 rfl (aB.tell (d := 30) rfl (fun hg3 => ?_) (fun hg3 => ?_))))
   ·refine aB.run II 5 rfl (aB.tell (d := 35) rfl (fun hg4 => ?_) (fun hg4 => ?_))
    ·exact aB.run II 5 rfl (aB.nil (aC.ret ⟨.inr rfl, (aE.r1 rfl (.tmp rfl .nil)).cast (congrArg AV.bool (by clear hn; simp_all [aP.asked] <;> first | rfl | omega | (intros; omega) | grind)), rfl⟩))
    ·exact aB.run II 5 rfl (aB.nil (aC.ret ⟨.inr rfl, (aE.r1 rfl (.tmp rfl .nil)).cast (congrArg AV.bool (by clear hn; simp_all [aP.asked] <;> first | rfl | omega | (intros; omega) | grind)), rfl⟩))
   ·exact aB.run II 10 rfl (aB.nil (aC.ret ⟨.inr rfl, (aE.r1 rfl (.tmp rfl .nil)).cast (congrArg AV.bool (by clear hn; simp_all [aP.asked] <;> first | rfl | omega | (intros; omega) | grind)), rfl⟩))
  ·refine aC.seq (aC.region (aB.run II 2 rfl (aB.nil (aC.cond rfl (fun hc5 => ?_) (fun hc5 => ?_)))))
   ·refine aC.seq (aC.region (aB.run II 4 rfl (aB.tell (d := 45) rfl (fun hg6 => ?_) (fun hg6 => ?_))))
    ·exact aB.run II 6 rfl (aB.g1 rfl (aF rfl) rfl rfl (aG (aF rfl) m7 rfl (kN _)) (aB.run II 2 rfl (aB.nil (aC.ret ⟨.inr rfl, (aE.r1 rfl (.tmp rfl .nil)).cast (congrArg AV.bool (by clear hn; simp_all [aP.asked] <;> first | rfl | omega | (intros; omega) | grind)), rfl⟩))))
    ·refine aB.run II 5 rfl (aB.tell (d := 50) rfl (fun hg7 => ?_) (fun hg7 => ?_))
     ·exact aB.run II 1 rfl (aB.g1 rfl (aF rfl) rfl rfl (aG (aF rfl) m7 rfl (kN _)) (aB.run II 2 rfl (aB.nil (aC.ret ⟨.inr rfl, (aE.r1 rfl (.tmp rfl .nil)).cast (congrArg AV.bool (by clear hn; simp_all [aP.asked] <;> first | rfl | omega | (intros; omega) | grind)), rfl⟩))))
     ·exact aB.run II 4 rfl (aB.nil (aC.ret ⟨.inr rfl, (aE.r1 rfl (.tmp rfl .nil)).cast (congrArg AV.bool (by clear hn; simp_all [aP.asked] <;> first | rfl | omega | (intros; omega) | grind)), rfl⟩))
   ·refine aC.seq (aC.region (aB.run II 2 rfl (aB.nil (aC.cond rfl (fun hc8 => ?_) (fun hc8 => ?_)))))
    ·refine aC.seq (aC.drawn mixed rfl (aD.run II 5 rfl (aD.c1 rfl (aG (aF rfl) pN rfl (iS _ _ (by omega))) (aD.c1 rfl (aI (aF rfl) bQ rfl rfl (jV (oe hn (by simpa using hc8))) (iA (jV (oe hn (by simpa using hc8)))) rfl) (aD.run II 3 rfl (aD.nil (by kernel_rfl) (Kept.now (aC.seq (aC.region (aB.run II 6 rfl (aB.tell (d := 69) rfl (fun hg9 => ?_) (fun hg9 => ?_))))))))))))
     ·refine aB.run II 5 rfl (aB.tell (d := 74) rfl (fun hg10 => ?_) (fun hg10 => ?_))
      ·refine aB.run II 5 rfl (aB.tell (d := 79) rfl (fun hg11 => ?_) (fun hg11 => ?_))
       ·refine aB.run II 1 rfl (aB.g1 rfl (aF rfl) rfl rfl (aG (aF rfl) m7 rfl (kN _)) (aB.run II 2 rfl (aB.tell (d := 83) rfl (fun hg12 => ?_) (fun hg12 => ?_))))
        ·exact aB.run II 1 rfl (aB.g1 rfl (aF rfl) rfl rfl (aG (aF rfl) m7 rfl (kN _)) (aB.run II 2 rfl (aB.nil (aC.ret ⟨.inr rfl, (aE.r1 rfl (.tmp rfl .nil)).cast (congrArg AV.bool (by clear hn; simp_all [aP.asked] <;> first | rfl | omega | (intros; omega) | grind)), rfl⟩))))
        ·exact aB.run II 4 rfl (aB.nil (aC.ret ⟨.inr rfl, (aE.r1 rfl (.tmp rfl .nil)).cast (congrArg AV.bool (by clear hn; simp_all [aP.asked] <;> first | rfl | omega | (intros; omega) | grind)), rfl⟩))
       ·exact aB.run II 8 rfl (aB.nil (aC.ret ⟨.inr rfl, (aE.r1 rfl (.tmp rfl .nil)).cast (congrArg AV.bool (by clear hn; simp_all [aP.asked] <;> first | rfl | omega | (intros; omega) | grind)), rfl⟩))
      ·exact aB.run II 13 rfl (aB.nil (aC.ret ⟨.inr rfl, (aE.r1 rfl (.tmp rfl .nil)).cast (congrArg AV.bool (by clear hn; simp_all [aP.asked] <;> first | rfl | omega | (intros; omega) | grind)), rfl⟩))
     ·exact aB.run II 18 rfl (aB.nil (aC.ret ⟨.inr rfl, (aE.r1 rfl (.tmp rfl .nil)).cast (congrArg AV.bool (by clear hn; simp_all [aP.asked] <;> first | rfl | omega | (intros; omega) | grind)), rfl⟩))
    ·refine aC.seq (aC.region (aB.run II 2 rfl (aB.nil (aC.cond rfl (fun hc13 => ?_) (fun hc13 => ?_)))))
     ·exact aC.seq (aC.region (aB.run II 4 rfl (aB.nil (aC.ret ⟨.inr rfl, (aE.r1 rfl (.tmp rfl .nil)).cast (congrArg AV.bool (by clear hn; simp_all [aP.asked] <;> first | rfl | omega | (intros; omega) | grind)), rfl⟩))))
     ·refine aC.seq (aC.region (aB.run II 2 rfl (aB.nil (aC.cond rfl (fun hc14 => ?_) (fun hc14 => ?_)))))
      ·refine aC.seq (aC.region (aB.run II 4 rfl (aB.tell (d := 97) rfl (fun hg15 => ?_) (fun hg15 => ?_))))
       ·exact aB.run II 5 rfl (aB.nil (aC.ret ⟨.inr rfl, (aE.r1 rfl (.tmp rfl .nil)).cast (congrArg AV.bool (by clear hn; simp_all [aP.asked] <;> first | rfl | omega | (intros; omega) | grind)), rfl⟩))
       ·exact aB.run II 5 rfl (aB.nil (aC.ret ⟨.inr rfl, (aE.r1 rfl (.tmp rfl .nil)).cast (congrArg AV.bool (by clear hn; simp_all [aP.asked] <;> first | rfl | omega | (intros; omega) | grind)), rfl⟩))
      ·refine aC.seq (aC.region (aB.run II 2 rfl (aB.nil (aC.cond rfl (fun hc16 => ?_) (fun hc16 => ?_)))))
       ·exact aC.seq (aC.region (aB.run II 3 rfl (aB.c1 rfl (aG (aF rfl) Fp rfl (C0 _ _ _ hs)) (aB.run II 2 rfl (aB.nil (aC.ret ⟨.inr rfl, (aE.r1 rfl (.tmp rfl .nil)).cast (congrArg AV.bool (by rw [BU]; simp_all [aP.asked])), rfl⟩))))))
       ·refine aC.seq (aC.region (aB.run II 2 rfl (aB.nil (aC.cond rfl (fun hc17 => ?_) (fun hc17 => ?_)))))
        ·refine aC.seq (aC.region (aB.run II 1 rfl (aB.nil (aC.blk (aC.aJ (Kept.aH [.s 10, .h, .s 4, .b 4, .s 5, .b 5] rfl (by decide) (Kept.now (aC.aW (fun (i : Nat) => [(.s 10, .sv (.v (.int .i64 (i : Int))))]) _ (fun (i : Nat) => ∀ k (hk : k < x.names.length), k < i → (m.aQ x.names[k]).alone = true) (fun (i : Nat) => x.names.length - i) 0 rfl (by intro k _ h; omega) ?_))))))))
         rintro i hI
         refine aC.seq (aC.seq (aC.region (aB.run II 5 rfl (aB.nil (aC.cond rfl (fun hc18 => ?_) (fun hc18 => ?_))))))
         ·have hi := ch hc18
          refine aC.skip (aC.seq (aC.blk (aC.seq (aC.drawn mixed rfl (aD.run II 6 rfl (aD.c1 rfl (aI (aF rfl) ca rfl rfl (Int.natCast_nonneg _) (bz hi) rfl) (aD.run II 1 rfl (aD.c1 rfl (aG (aF rfl) pN rfl (iS _ _ (by omega))) (aD.c1 rfl (aI (aF rfl) bQ rfl rfl (jV (mw hn (by simpa using hc17) hi)) (iA (jV (mw hn (by simpa using hc17) hi))) rfl) (aD.run II 1 rfl (aD.c1 rfl (aG (aF rfl) m7 rfl (kN _)) (aD.run II 1 rfl (aD.nil (by kernel_rfl) (Kept.now (aC.cond rfl (fun hc19 => ?_) (fun hc19 => ?_))))))))))))))))
          ·exact aC.seq (aC.region (aB.run II 1 rfl (aB.nil (aC.ret ⟨.inr rfl, (aE.r1 rfl (.tmp rfl .nil)).cast (congrArg AV.bool (BW (by simpa using hc17) hi hc19)), rfl⟩))))
          ·exact aC.skip (aC.region (aB.run II 3 rfl (aB.kept (Kept.aX 10 rfl (inc (by omega)) (Kept.aH [.s 10, .h, .s 4, .b 4, .s 5, .b 5] rfl (by decide) (Kept.now ⟨i + 1, by omega, fun k hk h => by rcases Nat.lt_or_ge k i with q | q; exact hI k hk q; have e : k = i := (by omega); subst e; simpa using hc19, rfl⟩))))))
         ·have hi := ck hc18
          exact aC.exit (aC.seq (aC.region (aB.run II 1 rfl (aB.nil (aC.ret ⟨.inr rfl, (aE.r1 rfl (.tmp rfl .nil)).cast (congrArg AV.bool (yp (by simpa using hc17) hi hI)), rfl⟩)))))
        ·exact aC.skip (aC.seq (aC.region (aB.run II 1 rfl (aB.nil (aC.ret ⟨.inr rfl, (aE.r1 rfl (.tmp rfl .nil)).cast (congrArg AV.bool (by clear hn; simp_all [aP.asked] <;> first | rfl | omega | (intros; omega) | grind)), rfl⟩)))))
/- the document: a message, sorted. -/
structure nC {α : Type} (p : α → Bool) (l : List α) (j : Int) : Prop where
 ex : ∃ i : Nat, j = (i : Int) ∧ l.length - cF p l ≤ i ∧ i ≤ l.length
theorem nC.start {α : Type} {p : α → Bool} {l : List α} : nC p l (l.length : Int) := ⟨l.length, rfl, by omega, Nat.le_refl _⟩
theorem nC.nn {α : Type} {p : α → Bool} {l : List α} {j : Int} (h : nC p l j) : 0 ≤ j ∧ j ≤ (l.length : Int) := by
 obtain ⟨i, rfl, _, h⟩ := h.ex
 omega
theorem nC.step {α : Type} {p : α → Bool} {l : List α} {j : Int} (h : nC p l j) (hf : 0 < j) {x : α} (hx : l[(j - 1).toNat]? = some x) (hp : p x = true) : nC p l (j - 1) := by
 obtain ⟨i, rfl, h1, h2⟩ := h.ex
 have e : ((i : Int) - 1).toNat = i - 1 := by omega
 rw [e] at hx
 refine ⟨i - 1, by omega, ?_, by omega⟩
 rcases Nat.lt_or_ge (i - 1) (l.length - cF p l) with q | q
 ·have := jC p l (i - 1) (by omega) x hx
  rw [hp] at this; cases this
 ·exact q
theorem nC.low {α : Type} {p : α → Bool} {l : List α} {j : Int} (h : nC p l j) (hf : ¬ 0 < j) : j.toNat = l.length - cF p l := by
 obtain ⟨i, rfl, h1, h2⟩ := h.ex
 omega
theorem nC.stop {α : Type} {p : α → Bool} {l : List α} {j : Int} (h : nC p l j) (hf : 0 < j) {x : α} (hx : l[(j - 1).toNat]? = some x) (hp : p x = false) : j.toNat = l.length - cF p l := by
 obtain ⟨i, rfl, h1, h2⟩ := h.ex
 have e : ((i : Int) - 1).toNat = i - 1 := by omega
 rw [e] at hx
 have hT : i ≤ l.length - cF p l := by
  apply Classical.byContradiction
  intro hn
  have hm : x ∈ l.drop (l.length - cF p l) := by
   refine List.mem_iff_getElem?.2 ⟨i - 1 - (l.length - cF p l), ?_⟩
   rw [List.getElem?_drop, ← hx]
   congr 1; omega
  have := kL p l x hm
  rw [hp] at this; cases this
 omega
theorem u9 {α : Type} (gt : α → α → Bool) (l : List α) : (bF gt l).length = l.length := (fY gt l).length_eq
theorem sj {α : Type} (gt : α → α → Bool) {l : List α} {i : Nat} (hi : i < l.length) : bF gt (l.take (i + 1)) = cG (fun y => gt y l[i]) l[i] (bF gt (l.take i)) := by
 have e : l.take (i + 1) = l.take i ++ [l[i]] := by rw [List.take_add_one, List.getElem?_eq_getElem hi]; rfl
 unfold bF
 rw [e, List.foldl_append]; rfl
theorem kW {α : Type} (X : List α) {j : Int} : (X.drop (0 : Int).toNat).take (j.toNat - (0 : Int).toNat) = X.take j.toNat ∧ (X.drop j.toNat).take ((X.length : Int).toNat - j.toNat) = X.drop j.toNat := by
 refine ⟨by simp, List.take_of_length_le (by simp)⟩
theorem m0 {α : Type} (f : α → AV) {gt : α → α → Bool} {l : List α} {i : Nat} (hi : i < l.length) {j : Int} (hj : j.toNat = (bF gt (l.take i)).length - cF (fun y => gt y l[i]) (bF gt (l.take i))) :
  ([] ++ ((((bF gt (l.take i)).map f).drop (0 : Int).toNat).take (j.toNat - (0 : Int).toNat))) ++ [f l[i]] ++ ((((bF gt (l.take i)).map f).drop j.toNat).take ((((bF gt (l.take i)).map f).length : Int).toNat - j.toNat)) = (bF gt (l.take (i + 1))).map f := by
 rw [sj gt hi, (kW _).1, (kW _).2]
 unfold cG eC
 rw [← hj, List.map_append, List.map_cons, List.map_take, List.map_drop, List.nil_append, List.append_assoc]; rfl
def Gg {α : Type} (d : α) (l : List α) (j : Int) : α := l.getD (j - 1).toNat d
theorem kZ {α : Type} (d : α) {p : α → Bool} {l : List α} {j : Int} (h : nC p l j) (hf : 0 < j) : l[(j - 1).toNat]? = some (Gg d l j) := by
 have hn := h.nn
 unfold Gg
 rw [List.getD_eq_getElem?_getD, List.getElem?_eq_getElem (show (j - 1).toNat < l.length by omega)]; rfl
theorem IH {p : ag → Bool} {l : List ag} {j : Int} (hl : l.length ≤ 1000000) (h : nC p l j) (hf : 0 < j) : (l.map ag.av)[(IntKind.i64.wrap (j - 1)).toNat]? = some (.agg (Gg dg l j).cells) := by
 have hn := h.nn
 rw [eS (by omega) (by omega), List.getElem?_map, kZ dg h hf]; rfl
theorem Gn {p : Int → Bool} {l : List Int} {j : Int} (hl : l.length ≤ 1000000) (h : nC p l j) (hf : 0 < j) : (l.map dL)[(IntKind.i64.wrap (j - 1)).toNat]? = some (.int .i64 (Gg 0 l j)) := by
 have hn := h.nn
 rw [eS (by omega) (by omega), List.getElem?_map, kZ 0 h hf]; rfl
theorem okF (l : List ag) (a b : Nat) : cK 7 (((l.map ag.av).drop a).take b) = true := by
 rw [← List.map_drop, ← List.map_take]; exact bW ag.cells (fun _ => rfl) _
theorem nF (l : List Int) (a b : Nat) : cK 1 (((l.map dL).drop a).take b) = true := by
 rw [← List.map_drop, ← List.map_take]; exact bf .i64 id _
theorem u4 {α : Type} {gt : α → α → Bool} {l : List α} {i : Nat} (h : l.length ≤ 1000) : (bF gt (l.take i)).length ≤ 1000 := by
 rw [u9, List.length_take]; omega
theorem Iw {v : CV} {n t : Sv} {rest : List (aK × CV)} {a b : List AV} (h : a = b) : ((aK.s 4, v) :: (aK.b 3, CV.bx [n, .v (.sl a), t]) :: rest) = [(aK.s 4, v), (aK.b 3, CV.bx [n, .v (.sl b), t])] ++ rest := by rw [h]; rfl
theorem Iv {v : CV} {n t : Sv} {rest : List (aK × CV)} {a b : List AV} (h : a = b) : ((aK.s 7, v) :: (aK.b 3, CV.bx [n, t, .v (.sl a)]) :: rest) = [(aK.s 7, v), (aK.b 3, CV.bx [n, t, .v (.sl b)])] ++ rest := by rw [h]; rfl
theorem CU (m : aU) (hm : m.fields.length ≤ 1000) (hb : m.ab.length ≤ 1000) : Pure Tryz.prog 82 [m.av] m.sort.av := by
 refine Pure.aN Tryz.func82 rfl rfl (aF rfl) fun H => (aC.seq (aC.region (aB.run II 2 rfl (aB.nil (aC.seq (aC.region (aB.run II 5 rfl (aB.nil (aC.seq (aC.seq (aC.region (aB.run II 1 rfl (aB.nil (aC.blk (aC.aJ (Kept.aH [.s 4, .b 3, .h, .s 1, .b 1, .s 2, .b 2, .s 3] rfl (by decide) (Kept.now (aC.aW (fun (i : Nat) => [(.s 4, .sv (.v (.int .i64 (i : Int)))), (.b 3, .bx [.v (.str m.name), .v (.sl ((bF (fun y x : ag => decide (y.num > x.num)) (m.fields.take i)).map ag.av)), .v (.sl (([] : List Int).map dL))])]) _ (fun (i : Nat) => True) (fun (i : Nat) => m.fields.length - i) 0 rfl trivial ?_))))))))))))))))))
 rintro i hI
 refine aC.seq (aC.seq (aC.region (aB.run II 5 rfl (aB.nil (aC.cond rfl (fun hc1 => ?_) (fun hc1 => ?_))))))
 ·have hi := ch hc1
  refine aC.skip (aC.seq (aC.blk (aC.seq (aC.region (aB.run II 3 rfl (aB.c1 rfl (aI (aF rfl) bQ rfl rfl (Int.natCast_nonneg _) (bz hi) rfl) (aB.run II 3 rfl (aB.nil (aC.seq (aC.region (aB.run II 4 rfl (aB.nil (aC.seq (aC.blk (aC.aJ (Kept.aH [.s 6, .h, .s 1, .b 1, .s 2, .b 2, .s 3, .b 3, .s 4, .s 5, .b 5] rfl (by decide) (Kept.now (aC.aW (fun (j : Int) => [(.s 6, .sv (.v (.int .i64 j)))]) _ (fun (j : Int) => nC (fun y : ag => decide (y.num > (m.fields[i]'hi).num)) (bF (fun y x : ag => decide (y.num > x.num)) (m.fields.take i)) j) (fun (j : Int) => j.toNat) (((bF (fun y x : ag => decide (y.num > x.num)) (m.fields.take i)).map ag.av).length : Int) rfl (by rw [List.length_map]; exact nC.start) ?_))))))))))))))))))
  rintro j hJ
  have hnn := hJ.nn
  have hle := @u4 _ (fun y x : ag => decide (y.num > x.num)) m.fields i hm
  refine aC.seq (aC.seq (aC.drawn mixed rfl (aD.run II 3 rfl (aD.tell (d := 30) rfl (fun hg2 => ?_) (fun hg2 => ?_)))))
  ·refine aD.run II 4 rfl (aD.g1 rfl (aF rfl) rfl rfl (aI (aF rfl) bQ rfl rfl (by have := of_decide_eq_true hg2; rw [eS (by omega) (by omega)]; omega) (IH (by omega) hJ (of_decide_eq_true hg2)) rfl) ?_)
   refine aD.run II 6 rfl (aD.nil (by kernel_rfl) (Kept.now (aC.cond rfl (fun hc3 => ?_) (fun hc3 => ?_))))
   ·exact aC.skip (aC.blk (aC.region (aB.run II 3 rfl (aB.kept (Kept.aH [.s 6, .h, .s 1, .b 1, .s 2, .b 2, .s 3, .b 3, .s 4, .s 5, .b 5] rfl (by decide) (Kept.now ⟨_, by show (IntKind.i64.wrap (j - 1)).toNat < j.toNat; have := of_decide_eq_true hg2; rw [eS (by omega) (by omega)]; omega, by rw [eS (by have := of_decide_eq_true hg2; omega) (by omega)]; exact hJ.step (of_decide_eq_true hg2) (kZ dg hJ (of_decide_eq_true hg2)) hc3, rfl⟩))))))
   ·refine aC.exit (aC.drawn mixed rfl (aD.c2 rfl (az («as» := []) (aF rfl) eY kK rfl rfl rfl (ft rfl) rfl) (aD.run II 3 rfl (aD.c1 rfl (bC (aF rfl) bQ rfl (fun e he => by obtain ⟨f, _, rfl⟩ := List.mem_map.1 he; rfl) rfl rfl (by omega) (by first | omega | (rw [List.length_map]; omega)) (by first | omega | (rw [List.length_map]; omega))) ?_))))
    refine aD.c3 rfl (aV (aF rfl) eY rfl rfl rfl (by first | rfl | exact okF _ _ _ | exact nF _ _ _) rfl (by simp only [List.length_append, List.length_map, List.length_take, List.length_drop, List.length_cons, List.length_nil]; omega) (by simp only [List.length_append, List.length_map, List.length_take, List.length_drop, List.length_cons, List.length_nil]; omega)) ?_
    refine aD.run II 2 rfl (aD.c3 rfl (aV (aF rfl) eY rfl rfl rfl (by first | rfl | exact okF _ _ _ | exact nF _ _ _) rfl (by simp only [List.length_append, List.length_map, List.length_take, List.length_drop, List.length_cons, List.length_nil]; omega) (by simp only [List.length_append, List.length_map, List.length_take, List.length_drop, List.length_cons, List.length_nil]; omega)) ?_)
    refine aD.run II 3 rfl (aD.c1 rfl (bC (aF rfl) bQ rfl (fun e he => by obtain ⟨f, _, rfl⟩ := List.mem_map.1 he; rfl) rfl rfl (by omega) (by first | omega | (rw [List.length_map]; omega)) (by first | omega | (rw [List.length_map]; omega))) ?_)
    refine aD.c3 rfl (aV (aF rfl) eY rfl rfl rfl (by first | rfl | exact okF _ _ _ | exact nF _ _ _) rfl (by simp only [List.length_append, List.length_map, List.length_take, List.length_drop, List.length_cons, List.length_nil]; omega) (by simp only [List.length_append, List.length_map, List.length_take, List.length_drop, List.length_cons, List.length_nil]; omega)) ?_
    exact aD.run II 2 rfl (aD.nil (by kernel_rfl) (Kept.now (aC.region (aB.run II 3 rfl (aB.kept (Kept.aX 4 rfl (inc (by omega)) (Kept.forget 3 rfl (Kept.aH [.s 4, .b 3, .h, .s 1, .b 1, .s 2, .b 2, .s 3] rfl (by decide) (Kept.now ⟨i + 1, by omega, trivial, Iw (m0 ag.av hi (hJ.stop (of_decide_eq_true hg2) (kZ dg hJ (of_decide_eq_true hg2)) hc3))⟩)))))))))
  ·refine aD.run II 11 rfl (aD.nil (by kernel_rfl) (Kept.now (aC.bR rfl rfl (aC.exit (aC.drawn mixed rfl (aD.c2 rfl (az («as» := []) (aF rfl) eY kK rfl rfl rfl (ft rfl) rfl) (aD.run II 3 rfl (aD.c1 rfl (bC (aF rfl) bQ rfl (fun e he => by obtain ⟨f, _, rfl⟩ := List.mem_map.1 he; rfl) rfl rfl (by omega) (by first | omega | (rw [List.length_map]; omega)) (by first | omega | (rw [List.length_map]; omega))) ?_))))))))
   refine aD.c3 rfl (aV (aF rfl) eY rfl rfl rfl (by first | rfl | exact okF _ _ _ | exact nF _ _ _) rfl (by simp only [List.length_append, List.length_map, List.length_take, List.length_drop, List.length_cons, List.length_nil]; omega) (by simp only [List.length_append, List.length_map, List.length_take, List.length_drop, List.length_cons, List.length_nil]; omega)) ?_
   refine aD.run II 2 rfl (aD.c3 rfl (aV (aF rfl) eY rfl rfl rfl (by first | rfl | exact okF _ _ _ | exact nF _ _ _) rfl (by simp only [List.length_append, List.length_map, List.length_take, List.length_drop, List.length_cons, List.length_nil]; omega) (by simp only [List.length_append, List.length_map, List.length_take, List.length_drop, List.length_cons, List.length_nil]; omega)) ?_)
   refine aD.run II 3 rfl (aD.c1 rfl (bC (aF rfl) bQ rfl (fun e he => by obtain ⟨f, _, rfl⟩ := List.mem_map.1 he; rfl) rfl rfl (by omega) (by first | omega | (rw [List.length_map]; omega)) (by first | omega | (rw [List.length_map]; omega))) ?_)
   refine aD.c3 rfl (aV (aF rfl) eY rfl rfl rfl (by first | rfl | exact okF _ _ _ | exact nF _ _ _) rfl (by simp only [List.length_append, List.length_map, List.length_take, List.length_drop, List.length_cons, List.length_nil]; omega) (by simp only [List.length_append, List.length_map, List.length_take, List.length_drop, List.length_cons, List.length_nil]; omega)) ?_
   exact aD.run II 2 rfl (aD.nil (by kernel_rfl) (Kept.now (aC.region (aB.run II 3 rfl (aB.kept (Kept.aX 4 rfl (inc (by omega)) (Kept.forget 3 rfl (Kept.aH [.s 4, .b 3, .h, .s 1, .b 1, .s 2, .b 2, .s 3] rfl (by decide) (Kept.now ⟨i + 1, by omega, trivial, Iw (m0 ag.av hi (hJ.low (of_decide_eq_false hg2)))⟩)))))))))
 ·have hi := ck hc1
  refine aC.exit (aC.seq (aC.seq (aC.region (aB.run II 1 rfl (aB.nil (aC.blk (aC.aJ (Kept.aH [.s 7, .b 3, .h, .s 1, .b 1, .s 2, .b 2, .s 3] rfl (by decide) (Kept.now (aC.aW (fun (k : Nat) => [(.s 7, .sv (.v (.int .i64 (k : Int)))), (.b 3, .bx [.v (.str m.name), .v (.sl ((bF (fun y x : ag => decide (y.num > x.num)) (m.fields.take i)).map ag.av)), .v (.sl ((bF (fun y x : Int => decide (y > x)) (m.ab.take k)).map dL))])]) _ (fun (k : Nat) => True) (fun (k : Nat) => m.ab.length - k) 0 rfl trivial ?_))))))))))
  rintro k hI
  refine aC.seq (aC.seq (aC.region (aB.run II 5 rfl (aB.nil (aC.cond rfl (fun hc4 => ?_) (fun hc4 => ?_))))))
  ·have hk := ch hc4
   refine aC.skip (aC.seq (aC.blk (aC.seq (aC.region (aB.run II 3 rfl (aB.c1 rfl (aI (aF rfl) cA rfl rfl (Int.natCast_nonneg _) (bz hk) rfl) (aB.run II 2 rfl (aB.nil (aC.seq (aC.region (aB.run II 4 rfl (aB.nil (aC.seq (aC.blk (aC.aJ (Kept.aH [.s 9, .h, .s 1, .b 1, .s 2, .b 2, .s 3, .b 3, .s 7, .s 8] rfl (by decide) (Kept.now (aC.aW (fun (j : Int) => [(.s 9, .sv (.v (.int .i64 j)))]) _ (fun (j : Int) => nC (fun y : Int => decide (y > (m.ab[k]'hk))) (bF (fun y x : Int => decide (y > x)) (m.ab.take k)) j) (fun (j : Int) => j.toNat) (((bF (fun y x : Int => decide (y > x)) (m.ab.take k)).map dL).length : Int) rfl (by rw [List.length_map]; exact nC.start) ?_))))))))))))))))))
   rintro j hJ
   have hnn := hJ.nn
   have hle := @u4 _ (fun y x : Int => decide (y > x)) m.ab k hb
   refine aC.seq (aC.seq (aC.region (aB.run II 3 rfl (aB.tell (d := 76) rfl (fun hg5 => ?_) (fun hg5 => ?_)))))
   ·refine aB.run II 4 rfl (aB.g1 rfl (aF rfl) rfl rfl (aI (aF rfl) cA rfl rfl (by have := of_decide_eq_true hg5; rw [eS (by omega) (by omega)]; omega) (Gn (by omega) hJ (of_decide_eq_true hg5)) rfl) ?_)
    refine aB.run II 4 rfl (aB.nil (aC.cond rfl (fun hc6 => ?_) (fun hc6 => ?_)))
    ·exact aC.skip (aC.blk (aC.region (aB.run II 3 rfl (aB.kept (Kept.aH [.s 9, .h, .s 1, .b 1, .s 2, .b 2, .s 3, .b 3, .s 7, .s 8] rfl (by decide) (Kept.now ⟨_, by show (IntKind.i64.wrap (j - 1)).toNat < j.toNat; have := of_decide_eq_true hg5; rw [eS (by omega) (by omega)]; omega, by rw [eS (by have := of_decide_eq_true hg5; omega) (by omega)]; exact hJ.step (of_decide_eq_true hg5) (kZ 0 hJ (of_decide_eq_true hg5)) hc6, rfl⟩))))))
    ·refine aC.exit (aC.drawn mixed rfl (aD.c2 rfl (az («as» := []) (aF rfl) bK dm rfl rfl rfl (ft rfl) rfl) (aD.run II 3 rfl (aD.c1 rfl (bC (aF rfl) cA rfl (fun e he => by obtain ⟨f, _, rfl⟩ := List.mem_map.1 he; rfl) rfl rfl (by omega) (by first | omega | (rw [List.length_map]; omega)) (by first | omega | (rw [List.length_map]; omega))) ?_))))
     refine aD.c3 rfl (aV (aF rfl) bK rfl rfl rfl (by first | rfl | exact okF _ _ _ | exact nF _ _ _) rfl (by simp only [List.length_append, List.length_map, List.length_take, List.length_drop, List.length_cons, List.length_nil]; omega) (by simp only [List.length_append, List.length_map, List.length_take, List.length_drop, List.length_cons, List.length_nil]; omega)) ?_
     refine aD.run II 2 rfl (aD.c3 rfl (aV (aF rfl) bK rfl rfl rfl (by first | rfl | exact okF _ _ _ | exact nF _ _ _) rfl (by simp only [List.length_append, List.length_map, List.length_take, List.length_drop, List.length_cons, List.length_nil]; omega) (by simp only [List.length_append, List.length_map, List.length_take, List.length_drop, List.length_cons, List.length_nil]; omega)) ?_)
     refine aD.run II 3 rfl (aD.c1 rfl (bC (aF rfl) cA rfl (fun e he => by obtain ⟨f, _, rfl⟩ := List.mem_map.1 he; rfl) rfl rfl (by omega) (by first | omega | (rw [List.length_map]; omega)) (by first | omega | (rw [List.length_map]; omega))) ?_)
     refine aD.c3 rfl (aV (aF rfl) bK rfl rfl rfl (by first | rfl | exact okF _ _ _ | exact nF _ _ _) rfl (by simp only [List.length_append, List.length_map, List.length_take, List.length_drop, List.length_cons, List.length_nil]; omega) (by simp only [List.length_append, List.length_map, List.length_take, List.length_drop, List.length_cons, List.length_nil]; omega)) ?_
     exact aD.run II 2 rfl (aD.nil (by kernel_rfl) (Kept.now (aC.region (aB.run II 3 rfl (aB.kept (Kept.aX 7 rfl (inc (by omega)) (Kept.forget 3 rfl (Kept.aH [.s 7, .b 3, .h, .s 1, .b 1, .s 2, .b 2, .s 3] rfl (by decide) (Kept.now ⟨k + 1, by omega, trivial, Iv (m0 dL hk (hJ.stop (of_decide_eq_true hg5) (kZ 0 hJ (of_decide_eq_true hg5)) hc6))⟩)))))))))
   ·refine aB.run II 9 rfl (aB.nil (aC.bR rfl rfl (aC.exit (aC.drawn mixed rfl (aD.c2 rfl (az («as» := []) (aF rfl) bK dm rfl rfl rfl (ft rfl) rfl) (aD.run II 3 rfl (aD.c1 rfl (bC (aF rfl) cA rfl (fun e he => by obtain ⟨f, _, rfl⟩ := List.mem_map.1 he; rfl) rfl rfl (by omega) (by first | omega | (rw [List.length_map]; omega)) (by first | omega | (rw [List.length_map]; omega))) ?_)))))))
    refine aD.c3 rfl (aV (aF rfl) bK rfl rfl rfl (by first | rfl | exact okF _ _ _ | exact nF _ _ _) rfl (by simp only [List.length_append, List.length_map, List.length_take, List.length_drop, List.length_cons, List.length_nil]; omega) (by simp only [List.length_append, List.length_map, List.length_take, List.length_drop, List.length_cons, List.length_nil]; omega)) ?_
    refine aD.run II 2 rfl (aD.c3 rfl (aV (aF rfl) bK rfl rfl rfl (by first | rfl | exact okF _ _ _ | exact nF _ _ _) rfl (by simp only [List.length_append, List.length_map, List.length_take, List.length_drop, List.length_cons, List.length_nil]; omega) (by simp only [List.length_append, List.length_map, List.length_take, List.length_drop, List.length_cons, List.length_nil]; omega)) ?_)
    refine aD.run II 3 rfl (aD.c1 rfl (bC (aF rfl) cA rfl (fun e he => by obtain ⟨f, _, rfl⟩ := List.mem_map.1 he; rfl) rfl rfl (by omega) (by first | omega | (rw [List.length_map]; omega)) (by first | omega | (rw [List.length_map]; omega))) ?_)
    refine aD.c3 rfl (aV (aF rfl) bK rfl rfl rfl (by first | rfl | exact okF _ _ _ | exact nF _ _ _) rfl (by simp only [List.length_append, List.length_map, List.length_take, List.length_drop, List.length_cons, List.length_nil]; omega) (by simp only [List.length_append, List.length_map, List.length_take, List.length_drop, List.length_cons, List.length_nil]; omega)) ?_
    exact aD.run II 2 rfl (aD.nil (by kernel_rfl) (Kept.now (aC.region (aB.run II 3 rfl (aB.kept (Kept.aX 7 rfl (inc (by omega)) (Kept.forget 3 rfl (Kept.aH [.s 7, .b 3, .h, .s 1, .b 1, .s 2, .b 2, .s 3] rfl (by decide) (Kept.now ⟨k + 1, by omega, trivial, Iv (m0 dL hk (hJ.low (of_decide_eq_false hg5)))⟩)))))))))
  ·have hk := ck hc4
   exact aC.exit (aC.seq (aC.region (aB.run II 2 rfl (aB.nil (aC.ret ⟨.inr rfl, (aE.r1 rfl (.cell A2 rfl rfl rfl rfl .nil)).cast (by rw [List.take_of_length_le (l := m.fields) (by omega), List.take_of_length_le (l := m.ab) (by omega)]; rfl), rfl⟩)))))
/- the document: a schema, sorted. -/
theorem Ao : aa Tryz.prog 81 = true := by kernel_rfl
theorem Fm : aa Tryz.prog 82 = true := by kernel_rfl
theorem eM : lk Tryz.prog 25 = some (true, 2) := by kernel_rfl
theorem rV : se Tryz.prog 22 = some (70, 2, 40) := by kernel_rfl
theorem fp : se Tryz.prog 23 = some (73, 3, 64) := by kernel_rfl
theorem jh : se Tryz.prog 68 = some (75, 2, 24) := by kernel_rfl
theorem Be : bu Tryz.prog 70 = some [AV.str [], AV.sl []] := by kernel_rfl
theorem wA : bu Tryz.prog 73 = some [AV.str [], AV.sl [], AV.sl []] := by kernel_rfl
theorem vz : bu Tryz.prog 75 = some [AV.str [], AV.int IntKind.i64 (0)] := by kernel_rfl
def iL (s : aM) (i : Nat) : List dP := (s.enums.take i).foldl vV []
def dz (s : aM) (i : Nat) : List aU := (s.msgs.take i).foldl jx []
structure aM.AU (s : aM) : Prop where
 e : s.enums.length ≤ 100
 m : s.msgs.length ≤ 100
 v : ∀ x ∈ s.enums, x.values.length ≤ 100
 f : ∀ x ∈ s.msgs, x.fields.length ≤ 100
 b : ∀ x ∈ s.msgs, x.ab.length ≤ 100
theorem aM.AU.vi {s : aM} (h : s.AU) {i : Nat} (hi : i < s.enums.length) : s.enums[i].values.length ≤ 100 := h.v _ (List.getElem_mem hi)
theorem aM.AU.fi {s : aM} (h : s.AU) {i : Nat} (hi : i < s.msgs.length) : s.msgs[i].fields.length ≤ 100 := h.f _ (List.getElem_mem hi)
theorem aM.AU.bi {s : aM} (h : s.AU) {i : Nat} (hi : i < s.msgs.length) : s.msgs[i].ab.length ≤ 100 := h.b _ (List.getElem_mem hi)
theorem m4 {α : Type} (l : List α) (k : Nat) (x : α) : (eC l k x).length = l.length + 1 := (kv l k x).length_eq
theorem lj {α β : Type} (f : List α → β → List α) (hf : ∀ acc x, (f acc x).length = acc.length + 1) : ∀ (l : List β) (acc : List α), (l.foldl f acc).length = acc.length + l.length
 | [], acc => rfl
 | b :: l, acc => by rw [List.foldl_cons, lj f hf l, hf, List.length_cons]; omega
theorem dt (s : aM) (i : Nat) : (iL s i).length ≤ s.enums.length := by
 unfold iL
 rw [lj vV (fun acc x => m4 _ _ _), List.length_take, List.length_nil]; omega
theorem ao (s : aM) (i : Nat) : (dz s i).length ≤ s.msgs.length := by
 unfold dz
 rw [lj jx (fun acc x => m4 _ _ _), List.length_take, List.length_nil]; omega
theorem Cy {s : aM} {i : Nat} (hi : i < s.msgs.length) : (dz s i).length = i := by
 unfold dz
 rw [lj jx (fun acc x => m4 _ _ _), List.length_take, List.length_nil]; omega
theorem uA {s : aM} {i : Nat} (hi : i < s.enums.length) : iL s (i + 1) = eC (iL s i) (dR ((iL s i).map (·.name)) 0 s.enums[i].name) s.enums[i].sort := by
 have e : s.enums.take (i + 1) = s.enums.take i ++ [s.enums[i]] := by rw [List.take_add_one, List.getElem?_eq_getElem hi]; rfl
 unfold iL
 rw [e, List.foldl_append]; rfl
theorem tZ {s : aM} {i : Nat} (hi : i < s.msgs.length) : dz s (i + 1) = eC (dz s i) (if i = 0 then 0 else dR ((dz s i).map (·.name)) 1 s.msgs[i].name) s.msgs[i].sort := by
 have e : s.msgs.take (i + 1) = s.msgs.take i ++ [s.msgs[i]] := by rw [List.take_add_one, List.getElem?_eq_getElem hi]; rfl
 have h : dz s (i + 1) = jx (dz s i) s.msgs[i] := by unfold dz; rw [e, List.foldl_append]; rfl
 rw [h]
 unfold jx
 rw [Cy hi]
theorem m3 {α β : Type} (g : α → β) (l : List α) (k : Nat) (x : α) : (eC l k x).map g = eC (l.map g) k (g x) := by
 unfold eC
 rw [List.map_append, List.map_cons, List.map_take, List.map_drop]
theorem nZ {α : Type} (f : α → AV) (l : List α) (k : Nat) (x : α) : ([] ++ (((l.map f).drop (0 : Int).toNat).take ((k : Int).toNat - (0 : Int).toNat))) ++ [f x] ++ (((l.map f).drop (k : Int).toNat).take (((l.map f).length : Int).toNat - (k : Int).toNat)) = (eC l k x).map f := by
 rw [(kW _).1, (kW _).2, m3]
 unfold eC
 rw [List.nil_append, List.append_assoc, Int.toNat_natCast]; rfl
theorem ai (l : List aw) (f : Nat) (s : aw) : dR l f s ≤ l.length := by
 unfold dR
 split <;> omega
theorem fL (l : List aw) (a b : Nat) : cK 1 (((l.map AV.str).drop a).take b) = true := by
 rw [← List.map_drop, ← List.map_take]; exact qi id _
theorem okV (l : List iy) (a b : Nat) : cK 2 (((l.map iy.av).drop a).take b) = true := by
 rw [← List.map_drop, ← List.map_take]; exact bW iy.cells (fun _ => rfl) _
theorem nX (l : List dP) (a b : Nat) : cK 2 (((l.map dP.av).drop a).take b) = true := by
 rw [← List.map_drop, ← List.map_take]; exact bW dP.cells (fun _ => rfl) _
theorem nW (l : List aU) (a b : Nat) : cK 3 (((l.map aU.av).drop a).take b) = true := by
 rw [← List.map_drop, ← List.map_take]; exact bW aU.cells (fun _ => rfl) _
theorem BL {s : aM} {i : Nat} (hi : i < s.enums.length) {k : Nat} (hk : k = dR ((iL s i).map (·.name)) 0 s.enums[i].name) : ([] ++ (((((iL s i).map (·.name)).map AV.str).drop (0 : Int).toNat).take ((k : Int).toNat - (0 : Int).toNat))) ++ [AV.str s.enums[i].name] ++ ((((iL s i).map (·.name)).map AV.str).drop (k : Int).toNat).take (((((iL s i).map (·.name)).map AV.str).length : Int).toNat - (k : Int).toNat) = ((iL s (i + 1)).map (·.name)).map AV.str := by
 rw [uA hi, m3, hk]; exact nZ AV.str _ _ _
theorem G7 {s : aM} {i : Nat} (hi : i < s.enums.length) {q : Nat} (hq : s.enums[i].values.length ≤ q) {k : Nat} (hk : k = dR ((iL s i).map (·.name)) 0 s.enums[i].name) : ([] ++ ((((iL s i).map dP.av).drop (0 : Int).toNat).take ((k : Int).toNat - (0 : Int).toNat))) ++ [AV.agg [.str s.enums[i].name, .sl ((bF (fun y x : iy => decide (y.num > x.num)) (s.enums[i].values.take q)).map iy.av)]] ++ (((iL s i).map dP.av).drop (k : Int).toNat).take ((((iL s i).map dP.av).length : Int).toNat - (k : Int).toNat) = (iL s (i + 1)).map dP.av := by
 rw [List.take_of_length_le hq, uA hi, hk]; exact nZ dP.av _ _ s.enums[i].sort
theorem JF {v : CV} {el esz : Nat} {t : Sv} {rest : List (aK × CV)} {a b c d : List AV} (h1 : a = b) (h2 : c = d) : ((aK.s 5, v) :: (aK.s 4, CV.sv (.ow 15 a)) :: (aK.t 15, CV.tk false el esz a) :: (aK.b 3, CV.bx [.v (.sl c), t]) :: rest) = [(aK.s 5, v), (aK.s 4, CV.sv (.ow 15 b)), (aK.t 15, CV.tk false el esz b), (aK.b 3, CV.bx [.v (.sl d), t])] ++ rest := by rw [h1, h2]; rfl
theorem tY {s : aM} {i : Nat} (hi : i < s.msgs.length) {k : Nat} (hk : k = if i = 0 then 0 else dR ((dz s i).map (·.name)) 1 s.msgs[i].name) : ([] ++ (((((dz s i).map (·.name)).map AV.str).drop (0 : Int).toNat).take ((k : Int).toNat - (0 : Int).toNat))) ++ [AV.str s.msgs[i].name] ++ ((((dz s i).map (·.name)).map AV.str).drop (k : Int).toNat).take (((((dz s i).map (·.name)).map AV.str).length : Int).toNat - (k : Int).toNat) = ((dz s (i + 1)).map (·.name)).map AV.str := by
 rw [tZ hi, m3, ← hk]; exact nZ AV.str _ _ _
theorem AN {s : aM} {i : Nat} (hi : i < s.msgs.length) {k : Nat} (hk : k = if i = 0 then 0 else dR ((dz s i).map (·.name)) 1 s.msgs[i].name) : ([] ++ ((((dz s i).map aU.av).drop (0 : Int).toNat).take ((k : Int).toNat - (0 : Int).toNat))) ++ [s.msgs[i].sort.av] ++ (((dz s i).map aU.av).drop (k : Int).toNat).take ((((dz s i).map aU.av).length : Int).toNat - (k : Int).toNat) = (dz s (i + 1)).map aU.av := by
 rw [tZ hi, ← hk]; exact nZ aU.av _ _ s.msgs[i].sort
theorem Iu {v : CV} {el esz : Nat} {t : Sv} {rest : List (aK × CV)} {a b c d : List AV} (h1 : a = b) (h2 : c = d) : ((aK.s 11, v) :: (aK.s 4, CV.sv (.ow 116 a)) :: (aK.t 116, CV.tk false el esz a) :: (aK.b 3, CV.bx [t, .v (.sl c)]) :: rest) = [(aK.s 11, v), (aK.s 4, CV.sv (.ow 116 b)), (aK.t 116, CV.tk false el esz b), (aK.b 3, CV.bx [t, .v (.sl d)])] ++ rest := by rw [h1, h2]; rfl
theorem It {v : CV} {n : Sv} {rest : List (aK × CV)} {a b : List AV} (h : a = b) : ((aK.s 7, v) :: (aK.b 6, CV.bx [n, .v (.sl a)]) :: rest) = [(aK.s 7, v), (aK.b 6, CV.bx [n, .v (.sl b)])] ++ rest := by rw [h]; rfl
theorem IE {p : iy → Bool} {l : List iy} {j : Int} (hl : l.length ≤ 1000000) (h : nC p l j) (hf : 0 < j) : (l.map iy.av)[(IntKind.i64.wrap (j - 1)).toNat]? = some (.agg (Gg default l j).cells) := by
 have hn := h.nn
 rw [eS (by omega) (by omega), List.getElem?_map, kZ default h hf]; rfl
theorem sy (s : aM) (hs : s.AU) : Pure Tryz.prog 49 [s.av] s.sorted.av := by
 have hsm := hs.m
 have hse := hs.e
 refine Pure.aN Tryz.func49 rfl rfl (aF rfl) fun H => (aC.seq (aC.region (aB.run II 2 rfl (aB.nil (aC.seq (aC.region (aB.run II 3 rfl (aB.nil (aC.seq (aC.region (aB.c2 rfl (az («as» := []) (aF rfl) bT dk rfl rfl rfl (ft rfl) rfl) (aB.run II 1 rfl (aB.nil (aC.seq (aC.seq (aC.region (aB.run II 1 rfl (aB.nil (aC.blk (aC.aJ (Kept.aH [.s 5, .s 4, .t 15, .b 3, .h, .s 1, .b 1, .s 2, .b 2, .s 3] rfl (by decide) (Kept.now ?_))))))))))))))))))))))
 refine aC.aW (fun (i : Nat) => [(.s 5, .sv (.v (.int .i64 (i : Int)))), (.s 4, .sv (.ow 15 (((iL s i).map (·.name)).map AV.str))), (.t 15, .tk false 9 1 (((iL s i).map (·.name)).map AV.str)), (.b 3, .bx [.v (.sl ((iL s i).map dP.av)), .v (.sl (([] : List aU).map aU.av))])]) _ (fun (i : Nat) => True) (fun (i : Nat) => s.enums.length - i) 0 rfl trivial ?_
 rintro i hI
 refine aC.seq (aC.seq (aC.region (aB.run II 5 rfl (aB.nil (aC.cond rfl (fun hc1 => ?_) (fun hc1 => ?_))))))
 ·have hi := ch hc1
  refine aC.skip (aC.seq (aC.blk (aC.seq (aC.region (aB.run II 3 rfl (aB.c1 rfl (aI (aF rfl) cn rfl rfl (Int.natCast_nonneg _) (bz hi) rfl) (aB.run II 5 rfl (aB.nil (aC.seq (aC.seq (aC.region (aB.run II 1 rfl (aB.nil (aC.blk (aC.aJ (Kept.aH [.s 7, .b 6, .h, .s 1, .b 1, .s 2, .b 2, .s 3, .b 3, .s 4, .t 15, .s 5, .s 6] rfl (by decide) (Kept.now (aC.aW (fun (k : Nat) => [(.s 7, .sv (.v (.int .i64 (k : Int)))), (.b 6, .bx [.v (.str (s.enums[i]'hi).name), .v (.sl ((bF (fun y x : iy => decide (y.num > x.num)) ((s.enums[i]'hi).values.take k)).map iy.av))])]) _ (fun (k : Nat) => True) (fun (k : Nat) => (s.enums[i]'hi).values.length - k) 0 rfl trivial ?_))))))))))))))))))
  rintro k hK
  have hvi := hs.vi hi
  refine aC.seq (aC.seq (aC.region (aB.run II 4 rfl (aB.c1 rfl (aI (aF rfl) cn rfl rfl (Int.natCast_nonneg _) (bz hi) rfl) (aB.run II 4 rfl (aB.nil (aC.cond rfl (fun hc2 => ?_) (fun hc2 => ?_))))))))
  ·have hk := ch hc2
   refine aC.skip (aC.seq (aC.blk (aC.seq (aC.region (aB.run II 3 rfl (aB.c1 rfl (aI (aF rfl) cn rfl rfl (Int.natCast_nonneg _) (bz hi) rfl) (aB.run II 3 rfl (aB.c1 rfl (aI (aF rfl) iH rfl rfl (Int.natCast_nonneg _) (bz hk) rfl) (aB.run II 3 rfl (aB.nil (aC.seq (aC.region (aB.run II 4 rfl (aB.nil (aC.seq (aC.blk (aC.aJ (Kept.aH [.s 9, .h, .s 1, .b 1, .s 2, .b 2, .s 3, .b 3, .s 4, .t 15, .s 5, .s 6, .b 6, .s 7, .s 8, .b 8] rfl (by decide) (Kept.now (aC.aW (fun (j : Int) => [(.s 9, .sv (.v (.int .i64 j)))]) _ (fun (j : Int) => nC (fun y : iy => decide (y.num > ((s.enums[i]'hi).values[k]'hk).num)) (bF (fun y x : iy => decide (y.num > x.num)) ((s.enums[i]'hi).values.take k)) j) (fun (j : Int) => j.toNat) (((bF (fun y x : iy => decide (y.num > x.num)) ((s.enums[i]'hi).values.take k)).map iy.av).length : Int) rfl (by rw [List.length_map]; exact nC.start) ?_))))))))))))))))))))
   rintro j hJ
   have hnn := hJ.nn
   have hle := @u4 _ (fun y x : iy => decide (y.num > x.num)) (s.enums[i]'hi).values k (by have := hs.vi hi; omega)
   refine aC.seq (aC.seq (aC.drawn mixed rfl (aD.run II 3 rfl (aD.tell (d := 55) rfl (fun hg3 => ?_) (fun hg3 => ?_)))))
   ·refine aD.run II 4 rfl (aD.g1 rfl (aF rfl) rfl rfl (aI (aF rfl) iH rfl rfl (by have := of_decide_eq_true hg3; rw [eS (by omega) (by omega)]; omega) (IE (by omega) hJ (of_decide_eq_true hg3)) rfl) ?_)
    refine aD.run II 6 rfl (aD.nil (by kernel_rfl) (Kept.now (aC.cond rfl (fun hc4 => ?_) (fun hc4 => ?_))))
    ·exact aC.skip (aC.blk (aC.region (aB.run II 3 rfl (aB.kept (Kept.aH [.s 9, .h, .s 1, .b 1, .s 2, .b 2, .s 3, .b 3, .s 4, .t 15, .s 5, .s 6, .b 6, .s 7, .s 8, .b 8] rfl (by decide) (Kept.now ⟨_, by show (IntKind.i64.wrap (j - 1)).toNat < j.toNat; have := of_decide_eq_true hg3; rw [eS (by omega) (by omega)]; omega, by rw [eS (by have := of_decide_eq_true hg3; omega) (by omega)]; exact hJ.step (of_decide_eq_true hg3) (kZ default hJ (of_decide_eq_true hg3)) hc4, rfl⟩))))))
    ·refine aC.exit (aC.drawn mixed rfl (aD.c2 rfl (az («as» := []) (aF rfl) jh vz rfl rfl rfl (ft rfl) rfl) (aD.run II 3 rfl (aD.c1 rfl (bC (aF rfl) iH rfl (fun e he => by obtain ⟨f, _, rfl⟩ := List.mem_map.1 he; rfl) rfl rfl (by omega) (by first | omega | (rw [List.length_map]; omega)) (by first | omega | (rw [List.length_map]; omega))) ?_))))
     refine aD.c3 rfl (aV (aF rfl) jh rfl rfl rfl (by first | rfl | exact okV _ _ _ | exact fL _ _ _ | exact nX _ _ _ | exact nW _ _ _) rfl (by simp only [List.length_append, List.length_map, List.length_take, List.length_drop, List.length_cons, List.length_nil]; omega) (by simp only [List.length_append, List.length_map, List.length_take, List.length_drop, List.length_cons, List.length_nil]; omega)) ?_
     refine aD.run II 2 rfl (aD.c3 rfl (aV (aF rfl) jh rfl rfl rfl (by first | rfl | exact okV _ _ _ | exact fL _ _ _ | exact nX _ _ _ | exact nW _ _ _) rfl (by simp only [List.length_append, List.length_map, List.length_take, List.length_drop, List.length_cons, List.length_nil]; omega) (by simp only [List.length_append, List.length_map, List.length_take, List.length_drop, List.length_cons, List.length_nil]; omega)) ?_)
     refine aD.run II 3 rfl (aD.c1 rfl (bC (aF rfl) iH rfl (fun e he => by obtain ⟨f, _, rfl⟩ := List.mem_map.1 he; rfl) rfl rfl (by omega) (by first | omega | (rw [List.length_map]; omega)) (by first | omega | (rw [List.length_map]; omega))) ?_)
     refine aD.c3 rfl (aV (aF rfl) jh rfl rfl rfl (by first | rfl | exact okV _ _ _ | exact fL _ _ _ | exact nX _ _ _ | exact nW _ _ _) rfl (by simp only [List.length_append, List.length_map, List.length_take, List.length_drop, List.length_cons, List.length_nil]; omega) (by simp only [List.length_append, List.length_map, List.length_take, List.length_drop, List.length_cons, List.length_nil]; omega)) ?_
     exact aD.run II 2 rfl (aD.nil (by kernel_rfl) (Kept.now (aC.region (aB.run II 3 rfl (aB.kept (Kept.aX 7 rfl (inc (by omega)) (Kept.forget 6 rfl (Kept.aH [.s 7, .b 6, .h, .s 1, .b 1, .s 2, .b 2, .s 3, .b 3, .s 4, .t 15, .s 5, .s 6] rfl (by decide) (Kept.now ⟨k + 1, by omega, trivial, It (m0 iy.av hk (hJ.stop (of_decide_eq_true hg3) (kZ default hJ (of_decide_eq_true hg3)) hc4))⟩)))))))))
   ·refine aD.run II 11 rfl (aD.nil (by kernel_rfl) (Kept.now (aC.bR rfl rfl (aC.exit (aC.drawn mixed rfl (aD.c2 rfl (az («as» := []) (aF rfl) jh vz rfl rfl rfl (ft rfl) rfl) (aD.run II 3 rfl (aD.c1 rfl (bC (aF rfl) iH rfl (fun e he => by obtain ⟨f, _, rfl⟩ := List.mem_map.1 he; rfl) rfl rfl (by omega) (by first | omega | (rw [List.length_map]; omega)) (by first | omega | (rw [List.length_map]; omega))) ?_))))))))
    refine aD.c3 rfl (aV (aF rfl) jh rfl rfl rfl (by first | rfl | exact okV _ _ _ | exact fL _ _ _ | exact nX _ _ _ | exact nW _ _ _) rfl (by simp only [List.length_append, List.length_map, List.length_take, List.length_drop, List.length_cons, List.length_nil]; omega) (by simp only [List.length_append, List.length_map, List.length_take, List.length_drop, List.length_cons, List.length_nil]; omega)) ?_
    refine aD.run II 2 rfl (aD.c3 rfl (aV (aF rfl) jh rfl rfl rfl (by first | rfl | exact okV _ _ _ | exact fL _ _ _ | exact nX _ _ _ | exact nW _ _ _) rfl (by simp only [List.length_append, List.length_map, List.length_take, List.length_drop, List.length_cons, List.length_nil]; omega) (by simp only [List.length_append, List.length_map, List.length_take, List.length_drop, List.length_cons, List.length_nil]; omega)) ?_)
    refine aD.run II 3 rfl (aD.c1 rfl (bC (aF rfl) iH rfl (fun e he => by obtain ⟨f, _, rfl⟩ := List.mem_map.1 he; rfl) rfl rfl (by omega) (by first | omega | (rw [List.length_map]; omega)) (by first | omega | (rw [List.length_map]; omega))) ?_)
    refine aD.c3 rfl (aV (aF rfl) jh rfl rfl rfl (by first | rfl | exact okV _ _ _ | exact fL _ _ _ | exact nX _ _ _ | exact nW _ _ _) rfl (by simp only [List.length_append, List.length_map, List.length_take, List.length_drop, List.length_cons, List.length_nil]; omega) (by simp only [List.length_append, List.length_map, List.length_take, List.length_drop, List.length_cons, List.length_nil]; omega)) ?_
    exact aD.run II 2 rfl (aD.nil (by kernel_rfl) (Kept.now (aC.region (aB.run II 3 rfl (aB.kept (Kept.aX 7 rfl (inc (by omega)) (Kept.forget 6 rfl (Kept.aH [.s 7, .b 6, .h, .s 1, .b 1, .s 2, .b 2, .s 3, .b 3, .s 4, .t 15, .s 5, .s 6] rfl (by decide) (Kept.now ⟨k + 1, by omega, trivial, It (m0 iy.av hk (hJ.low (of_decide_eq_false hg3)))⟩)))))))))
  ·have hk := ck hc2
   refine aC.exit (aC.seq (aC.region (aB.run II 3 rfl (aB.c1 rfl (aG (aF rfl) Ao rfl (wP ((iL s i).map (·.name)) 0 _ (by have := dt s i; rw [List.length_map]; omega))) ?_))))
   refine aB.run II 1 rfl (aB.nil (aC.seq (aC.drawn mixed rfl (aD.c2 rfl (az («as» := []) (aF rfl) bT dk rfl rfl rfl (ft rfl) rfl) (aD.run II 2 rfl (aD.c1 rfl (bC (aF rfl) ca rfl (fun e he => by obtain ⟨f, _, rfl⟩ := List.mem_map.1 he; rfl) rfl rfl (by omega) (by first | omega | (have := ai ((iL s i).map (·.name)) 0 (s.enums[i]'hi).name; simp only [List.length_map] at *; omega)) (by first | omega | (have := ai ((iL s i).map (·.name)) 0 (s.enums[i]'hi).name; simp only [List.length_map] at *; omega))) ?_))))))
   refine aD.c3 rfl (aV (aF rfl) bT rfl rfl rfl (by first | rfl | exact okV _ _ _ | exact fL _ _ _ | exact nX _ _ _ | exact nW _ _ _) rfl (by have := dt s i; have := ai ((iL s i).map (·.name)) 0 (s.enums[i]'hi).name; simp only [List.length_append, List.length_map, List.length_take, List.length_drop, List.length_cons, List.length_nil] at *; omega) (by have := dt s i; have := ai ((iL s i).map (·.name)) 0 (s.enums[i]'hi).name; simp only [List.length_append, List.length_map, List.length_take, List.length_drop, List.length_cons, List.length_nil] at *; omega)) ?_
   refine aD.run II 3 rfl (aD.c3 rfl (aV (aF rfl) bT rfl rfl rfl (by first | rfl | exact okV _ _ _ | exact fL _ _ _ | exact nX _ _ _ | exact nW _ _ _) rfl (by have := dt s i; have := ai ((iL s i).map (·.name)) 0 (s.enums[i]'hi).name; simp only [List.length_append, List.length_map, List.length_take, List.length_drop, List.length_cons, List.length_nil] at *; omega) (by have := dt s i; have := ai ((iL s i).map (·.name)) 0 (s.enums[i]'hi).name; simp only [List.length_append, List.length_map, List.length_take, List.length_drop, List.length_cons, List.length_nil] at *; omega)) ?_)
   refine aD.run II 2 rfl (aD.c1 rfl (bC (aF rfl) ca rfl (fun e he => by obtain ⟨f, _, rfl⟩ := List.mem_map.1 he; rfl) rfl rfl (by omega) (by first | omega | (have := ai ((iL s i).map (·.name)) 0 (s.enums[i]'hi).name; simp only [List.length_map] at *; omega)) (by first | omega | (have := ai ((iL s i).map (·.name)) 0 (s.enums[i]'hi).name; simp only [List.length_map] at *; omega))) ?_)
   refine aD.c3 rfl (aV (aF rfl) bT rfl rfl rfl (by first | rfl | exact okV _ _ _ | exact fL _ _ _ | exact nX _ _ _ | exact nW _ _ _) rfl (by have := dt s i; have := ai ((iL s i).map (·.name)) 0 (s.enums[i]'hi).name; simp only [List.length_append, List.length_map, List.length_take, List.length_drop, List.length_cons, List.length_nil] at *; omega) (by have := dt s i; have := ai ((iL s i).map (·.name)) 0 (s.enums[i]'hi).name; simp only [List.length_append, List.length_map, List.length_take, List.length_drop, List.length_cons, List.length_nil] at *; omega)) ?_
   refine aD.run II 1 rfl (aD.nil (by kernel_rfl) (Kept.now (aC.drawn mixed rfl (aD.c2 rfl (az («as» := []) (aF rfl) rV Be rfl rfl rfl (ft rfl) rfl) (aD.run II 3 rfl (aD.c1 rfl (bC (aF rfl) cn rfl (fun e he => by obtain ⟨f, _, rfl⟩ := List.mem_map.1 he; rfl) rfl rfl (by omega) (by first | omega | (have := ai ((iL s i).map (·.name)) 0 (s.enums[i]'hi).name; simp only [List.length_map] at *; omega)) (by first | omega | (have := ai ((iL s i).map (·.name)) 0 (s.enums[i]'hi).name; simp only [List.length_map] at *; omega))) ?_))))))
   refine aD.c3 rfl (aV (aF rfl) rV rfl rfl rfl (by first | rfl | exact okV _ _ _ | exact fL _ _ _ | exact nX _ _ _ | exact nW _ _ _) rfl (by have := dt s i; have := ai ((iL s i).map (·.name)) 0 (s.enums[i]'hi).name; simp only [List.length_append, List.length_map, List.length_take, List.length_drop, List.length_cons, List.length_nil] at *; omega) (by have := dt s i; have := ai ((iL s i).map (·.name)) 0 (s.enums[i]'hi).name; simp only [List.length_append, List.length_map, List.length_take, List.length_drop, List.length_cons, List.length_nil] at *; omega)) ?_
   refine aD.run II 2 rfl (aD.c3 rfl (aV (aF rfl) rV rfl rfl rfl (by first | rfl | exact okV _ _ _ | exact fL _ _ _ | exact nX _ _ _ | exact nW _ _ _) rfl (by have := dt s i; have := ai ((iL s i).map (·.name)) 0 (s.enums[i]'hi).name; simp only [List.length_append, List.length_map, List.length_take, List.length_drop, List.length_cons, List.length_nil] at *; omega) (by have := dt s i; have := ai ((iL s i).map (·.name)) 0 (s.enums[i]'hi).name; simp only [List.length_append, List.length_map, List.length_take, List.length_drop, List.length_cons, List.length_nil] at *; omega)) ?_)
   refine aD.run II 3 rfl (aD.c1 rfl (bC (aF rfl) cn rfl (fun e he => by obtain ⟨f, _, rfl⟩ := List.mem_map.1 he; rfl) rfl rfl (by omega) (by first | omega | (have := ai ((iL s i).map (·.name)) 0 (s.enums[i]'hi).name; simp only [List.length_map] at *; omega)) (by first | omega | (have := ai ((iL s i).map (·.name)) 0 (s.enums[i]'hi).name; simp only [List.length_map] at *; omega))) ?_)
   refine aD.c3 rfl (aV (aF rfl) rV rfl rfl rfl (by first | rfl | exact okV _ _ _ | exact fL _ _ _ | exact nX _ _ _ | exact nW _ _ _) rfl (by have := dt s i; have := ai ((iL s i).map (·.name)) 0 (s.enums[i]'hi).name; simp only [List.length_append, List.length_map, List.length_take, List.length_drop, List.length_cons, List.length_nil] at *; omega) (by have := dt s i; have := ai ((iL s i).map (·.name)) 0 (s.enums[i]'hi).name; simp only [List.length_append, List.length_map, List.length_take, List.length_drop, List.length_cons, List.length_nil] at *; omega)) ?_
   exact aD.run II 2 rfl (aD.nil (by kernel_rfl) (Kept.now (aC.region (aB.run II 3 rfl (aB.kept (Kept.aX 5 rfl (inc (by omega)) (Kept.forget 3 rfl (Kept.aH [.s 5, .s 4, .t 100, .b 3, .h, .s 1, .b 1, .s 2, .b 2, .s 3] rfl (by decide) (Kept.cS 100 15 (by decide) rfl (Kept.now ⟨i + 1, by omega, trivial, JF (BL hi rfl) (G7 hi (by omega) rfl)⟩))))))))))
 ·have hi := ck hc1
  refine aC.exit (aC.seq (aC.region (aB.c2 rfl (az («as» := []) (aF rfl) bT dk rfl rfl rfl (ft rfl) rfl) (aB.run II 1 rfl (aB.nil (aC.seq (aC.seq (aC.region (aB.run II 1 rfl (aB.nil (aC.blk (aC.aJ (Kept.aH [.s 11, .s 4, .t 116, .b 3, .h, .s 1, .b 1, .s 2, .b 2, .s 3] rfl (by decide) (Kept.now (aC.aW (fun (q : Nat) => [(.s 11, .sv (.v (.int .i64 (q : Int)))), (.s 4, .sv (.ow 116 (((dz s q).map (·.name)).map AV.str))), (.t 116, .tk false 9 1 (((dz s q).map (·.name)).map AV.str)), (.b 3, .bx [.v (.sl ((iL s i).map dP.av)), .v (.sl ((dz s q).map aU.av))])]) _ (fun (q : Nat) => True) (fun (q : Nat) => s.msgs.length - q) 0 rfl trivial ?_)))))))))))))))
  rintro q hQ
  refine aC.seq (aC.seq (aC.region (aB.run II 5 rfl (aB.nil (aC.cond rfl (fun hc5 => ?_) (fun hc5 => ?_))))))
  ·have hq := ch hc5
   refine aC.skip (aC.seq (aC.blk (aC.seq (aC.region (aB.run II 3 rfl (aB.c1 rfl (aI (aF rfl) bL rfl rfl (Int.natCast_nonneg _) (bz hq) rfl) (aB.run II 1 rfl (aB.c1 rfl (aG (aF rfl) Fm rfl (CU _ (by have := hs.fi hq; omega) (by have := hs.bi hq; omega))) ?_))))))))
   refine aB.run II 2 rfl (aB.nil (aC.seq (aC.region (aB.run II 3 rfl (aB.c1 rfl (aG (aF rfl) Ao rfl (wP ((dz s q).map (·.name)) 1 _ (by have := ao s q; rw [List.length_map]; omega))) ?_)))))
   refine aB.run II 1 rfl (aB.nil (aC.seq (aC.seq (aC.region (aB.run II 2 rfl (aB.nil (aC.cond rfl (fun hc6 => ?_) (fun hc6 => ?_))))))))
   ·refine aC.region (aB.run II 1 rfl (aB.nil (aC.seq (aC.drawn mixed rfl (aD.c2 rfl (az («as» := []) (aF rfl) bT dk rfl rfl rfl (ft rfl) rfl) (aD.run II 2 rfl (aD.c1 rfl (bC (aF rfl) ca rfl (fun e he => by obtain ⟨f, _, rfl⟩ := List.mem_map.1 he; rfl) rfl rfl (by omega) (by first | omega | (have := ao s q; have := ai ((dz s q).map (·.name)) 1 (s.msgs[q]'hq).sort.name; simp only [List.length_map] at *; omega)) (by first | omega | (have := ao s q; have := ai ((dz s q).map (·.name)) 1 (s.msgs[q]'hq).sort.name; simp only [List.length_map] at *; omega))) ?_)))))))
    refine aD.c3 rfl (aV (aF rfl) bT rfl rfl rfl (by first | rfl | exact okV _ _ _ | exact fL _ _ _ | exact nX _ _ _ | exact nW _ _ _) rfl (by have := ao s q; have := ai ((dz s q).map (·.name)) 1 (s.msgs[q]'hq).sort.name; simp only [List.length_append, List.length_map, List.length_take, List.length_drop, List.length_cons, List.length_nil] at *; omega) (by have := ao s q; have := ai ((dz s q).map (·.name)) 1 (s.msgs[q]'hq).sort.name; simp only [List.length_append, List.length_map, List.length_take, List.length_drop, List.length_cons, List.length_nil] at *; omega)) ?_
    refine aD.run II 3 rfl (aD.c3 rfl (aV (aF rfl) bT rfl rfl rfl (by first | rfl | exact okV _ _ _ | exact fL _ _ _ | exact nX _ _ _ | exact nW _ _ _) rfl (by have := ao s q; have := ai ((dz s q).map (·.name)) 1 (s.msgs[q]'hq).sort.name; simp only [List.length_append, List.length_map, List.length_take, List.length_drop, List.length_cons, List.length_nil] at *; omega) (by have := ao s q; have := ai ((dz s q).map (·.name)) 1 (s.msgs[q]'hq).sort.name; simp only [List.length_append, List.length_map, List.length_take, List.length_drop, List.length_cons, List.length_nil] at *; omega)) ?_)
    refine aD.run II 2 rfl (aD.c1 rfl (bC (aF rfl) ca rfl (fun e he => by obtain ⟨f, _, rfl⟩ := List.mem_map.1 he; rfl) rfl rfl (by omega) (by first | omega | (have := ao s q; have := ai ((dz s q).map (·.name)) 1 (s.msgs[q]'hq).sort.name; simp only [List.length_map] at *; omega)) (by first | omega | (have := ao s q; have := ai ((dz s q).map (·.name)) 1 (s.msgs[q]'hq).sort.name; simp only [List.length_map] at *; omega))) ?_)
    refine aD.c3 rfl (aV (aF rfl) bT rfl rfl rfl (by first | rfl | exact okV _ _ _ | exact fL _ _ _ | exact nX _ _ _ | exact nW _ _ _) rfl (by have := ao s q; have := ai ((dz s q).map (·.name)) 1 (s.msgs[q]'hq).sort.name; simp only [List.length_append, List.length_map, List.length_take, List.length_drop, List.length_cons, List.length_nil] at *; omega) (by have := ao s q; have := ai ((dz s q).map (·.name)) 1 (s.msgs[q]'hq).sort.name; simp only [List.length_append, List.length_map, List.length_take, List.length_drop, List.length_cons, List.length_nil] at *; omega)) ?_
    refine aD.run II 1 rfl (aD.nil (by kernel_rfl) (Kept.now (aC.drawn mixed rfl (aD.c2 rfl (az («as» := []) (aF rfl) fp wA rfl rfl rfl (ft rfl) rfl) (aD.run II 3 rfl (aD.c1 rfl (bC (aF rfl) bL rfl (fun e he => by obtain ⟨f, _, rfl⟩ := List.mem_map.1 he; rfl) rfl rfl (by omega) (by first | omega | (have := ao s q; have := ai ((dz s q).map (·.name)) 1 (s.msgs[q]'hq).sort.name; simp only [List.length_map] at *; omega)) (by first | omega | (have := ao s q; have := ai ((dz s q).map (·.name)) 1 (s.msgs[q]'hq).sort.name; simp only [List.length_map] at *; omega))) ?_))))))
    refine aD.c3 rfl (aV (aF rfl) fp rfl rfl rfl (by first | rfl | exact okV _ _ _ | exact fL _ _ _ | exact nX _ _ _ | exact nW _ _ _) rfl (by have := ao s q; have := ai ((dz s q).map (·.name)) 1 (s.msgs[q]'hq).sort.name; simp only [List.length_append, List.length_map, List.length_take, List.length_drop, List.length_cons, List.length_nil] at *; omega) (by have := ao s q; have := ai ((dz s q).map (·.name)) 1 (s.msgs[q]'hq).sort.name; simp only [List.length_append, List.length_map, List.length_take, List.length_drop, List.length_cons, List.length_nil] at *; omega)) ?_
    refine aD.run II 2 rfl (aD.c3 rfl (aV (aF rfl) fp rfl rfl rfl (by first | rfl | exact okV _ _ _ | exact fL _ _ _ | exact nX _ _ _ | exact nW _ _ _) rfl (by have := ao s q; have := ai ((dz s q).map (·.name)) 1 (s.msgs[q]'hq).sort.name; simp only [List.length_append, List.length_map, List.length_take, List.length_drop, List.length_cons, List.length_nil] at *; omega) (by have := ao s q; have := ai ((dz s q).map (·.name)) 1 (s.msgs[q]'hq).sort.name; simp only [List.length_append, List.length_map, List.length_take, List.length_drop, List.length_cons, List.length_nil] at *; omega)) ?_)
    refine aD.run II 3 rfl (aD.c1 rfl (bC (aF rfl) bL rfl (fun e he => by obtain ⟨f, _, rfl⟩ := List.mem_map.1 he; rfl) rfl rfl (by omega) (by first | omega | (have := ao s q; have := ai ((dz s q).map (·.name)) 1 (s.msgs[q]'hq).sort.name; simp only [List.length_map] at *; omega)) (by first | omega | (have := ao s q; have := ai ((dz s q).map (·.name)) 1 (s.msgs[q]'hq).sort.name; simp only [List.length_map] at *; omega))) ?_)
    refine aD.c3 rfl (aV (aF rfl) fp rfl rfl rfl (by first | rfl | exact okV _ _ _ | exact fL _ _ _ | exact nX _ _ _ | exact nW _ _ _) rfl (by have := ao s q; have := ai ((dz s q).map (·.name)) 1 (s.msgs[q]'hq).sort.name; simp only [List.length_append, List.length_map, List.length_take, List.length_drop, List.length_cons, List.length_nil] at *; omega) (by have := ao s q; have := ai ((dz s q).map (·.name)) 1 (s.msgs[q]'hq).sort.name; simp only [List.length_append, List.length_map, List.length_take, List.length_drop, List.length_cons, List.length_nil] at *; omega)) ?_
    exact aD.run II 2 rfl (aD.nil (by kernel_rfl) (Kept.now (aC.region (aB.run II 3 rfl (aB.kept (Kept.aX 11 rfl (inc (by omega)) (Kept.forget 3 rfl (Kept.aH [.s 11, .s 4, .t 148, .b 3, .h, .s 1, .b 1, .s 2, .b 2, .s 3] rfl (by decide) (Kept.cS 148 116 (by decide) rfl (Kept.now ⟨q + 1, by omega, trivial, Iu (tY (k := 0) hq (by rw [if_pos (by simpa using hc6)])) (AN (k := 0) hq (by rw [if_pos (by simpa using hc6)]))⟩))))))))))
   ·refine aC.skip (aC.seq (aC.drawn mixed rfl (aD.c2 rfl (az («as» := []) (aF rfl) bT dk rfl rfl rfl (ft rfl) rfl) (aD.run II 2 rfl (aD.c1 rfl (bC (aF rfl) ca rfl (fun e he => by obtain ⟨f, _, rfl⟩ := List.mem_map.1 he; rfl) rfl rfl (by omega) (by first | omega | (have := ao s q; have := ai ((dz s q).map (·.name)) 1 (s.msgs[q]'hq).sort.name; simp only [List.length_map] at *; omega)) (by first | omega | (have := ao s q; have := ai ((dz s q).map (·.name)) 1 (s.msgs[q]'hq).sort.name; simp only [List.length_map] at *; omega))) ?_)))))
    refine aD.c3 rfl (aV (aF rfl) bT rfl rfl rfl (by first | rfl | exact okV _ _ _ | exact fL _ _ _ | exact nX _ _ _ | exact nW _ _ _) rfl (by have := ao s q; have := ai ((dz s q).map (·.name)) 1 (s.msgs[q]'hq).sort.name; simp only [List.length_append, List.length_map, List.length_take, List.length_drop, List.length_cons, List.length_nil] at *; omega) (by have := ao s q; have := ai ((dz s q).map (·.name)) 1 (s.msgs[q]'hq).sort.name; simp only [List.length_append, List.length_map, List.length_take, List.length_drop, List.length_cons, List.length_nil] at *; omega)) ?_
    refine aD.run II 3 rfl (aD.c3 rfl (aV (aF rfl) bT rfl rfl rfl (by first | rfl | exact okV _ _ _ | exact fL _ _ _ | exact nX _ _ _ | exact nW _ _ _) rfl (by have := ao s q; have := ai ((dz s q).map (·.name)) 1 (s.msgs[q]'hq).sort.name; simp only [List.length_append, List.length_map, List.length_take, List.length_drop, List.length_cons, List.length_nil] at *; omega) (by have := ao s q; have := ai ((dz s q).map (·.name)) 1 (s.msgs[q]'hq).sort.name; simp only [List.length_append, List.length_map, List.length_take, List.length_drop, List.length_cons, List.length_nil] at *; omega)) ?_)
    refine aD.run II 2 rfl (aD.c1 rfl (bC (aF rfl) ca rfl (fun e he => by obtain ⟨f, _, rfl⟩ := List.mem_map.1 he; rfl) rfl rfl (by omega) (by first | omega | (have := ao s q; have := ai ((dz s q).map (·.name)) 1 (s.msgs[q]'hq).sort.name; simp only [List.length_map] at *; omega)) (by first | omega | (have := ao s q; have := ai ((dz s q).map (·.name)) 1 (s.msgs[q]'hq).sort.name; simp only [List.length_map] at *; omega))) ?_)
    refine aD.c3 rfl (aV (aF rfl) bT rfl rfl rfl (by first | rfl | exact okV _ _ _ | exact fL _ _ _ | exact nX _ _ _ | exact nW _ _ _) rfl (by have := ao s q; have := ai ((dz s q).map (·.name)) 1 (s.msgs[q]'hq).sort.name; simp only [List.length_append, List.length_map, List.length_take, List.length_drop, List.length_cons, List.length_nil] at *; omega) (by have := ao s q; have := ai ((dz s q).map (·.name)) 1 (s.msgs[q]'hq).sort.name; simp only [List.length_append, List.length_map, List.length_take, List.length_drop, List.length_cons, List.length_nil] at *; omega)) ?_
    refine aD.run II 1 rfl (aD.nil (by kernel_rfl) (Kept.now (aC.drawn mixed rfl (aD.c2 rfl (az («as» := []) (aF rfl) fp wA rfl rfl rfl (ft rfl) rfl) (aD.run II 3 rfl (aD.c1 rfl (bC (aF rfl) bL rfl (fun e he => by obtain ⟨f, _, rfl⟩ := List.mem_map.1 he; rfl) rfl rfl (by omega) (by first | omega | (have := ao s q; have := ai ((dz s q).map (·.name)) 1 (s.msgs[q]'hq).sort.name; simp only [List.length_map] at *; omega)) (by first | omega | (have := ao s q; have := ai ((dz s q).map (·.name)) 1 (s.msgs[q]'hq).sort.name; simp only [List.length_map] at *; omega))) ?_))))))
    refine aD.c3 rfl (aV (aF rfl) fp rfl rfl rfl (by first | rfl | exact okV _ _ _ | exact fL _ _ _ | exact nX _ _ _ | exact nW _ _ _) rfl (by have := ao s q; have := ai ((dz s q).map (·.name)) 1 (s.msgs[q]'hq).sort.name; simp only [List.length_append, List.length_map, List.length_take, List.length_drop, List.length_cons, List.length_nil] at *; omega) (by have := ao s q; have := ai ((dz s q).map (·.name)) 1 (s.msgs[q]'hq).sort.name; simp only [List.length_append, List.length_map, List.length_take, List.length_drop, List.length_cons, List.length_nil] at *; omega)) ?_
    refine aD.run II 2 rfl (aD.c3 rfl (aV (aF rfl) fp rfl rfl rfl (by first | rfl | exact okV _ _ _ | exact fL _ _ _ | exact nX _ _ _ | exact nW _ _ _) rfl (by have := ao s q; have := ai ((dz s q).map (·.name)) 1 (s.msgs[q]'hq).sort.name; simp only [List.length_append, List.length_map, List.length_take, List.length_drop, List.length_cons, List.length_nil] at *; omega) (by have := ao s q; have := ai ((dz s q).map (·.name)) 1 (s.msgs[q]'hq).sort.name; simp only [List.length_append, List.length_map, List.length_take, List.length_drop, List.length_cons, List.length_nil] at *; omega)) ?_)
    refine aD.run II 3 rfl (aD.c1 rfl (bC (aF rfl) bL rfl (fun e he => by obtain ⟨f, _, rfl⟩ := List.mem_map.1 he; rfl) rfl rfl (by omega) (by first | omega | (have := ao s q; have := ai ((dz s q).map (·.name)) 1 (s.msgs[q]'hq).sort.name; simp only [List.length_map] at *; omega)) (by first | omega | (have := ao s q; have := ai ((dz s q).map (·.name)) 1 (s.msgs[q]'hq).sort.name; simp only [List.length_map] at *; omega))) ?_)
    refine aD.c3 rfl (aV (aF rfl) fp rfl rfl rfl (by first | rfl | exact okV _ _ _ | exact fL _ _ _ | exact nX _ _ _ | exact nW _ _ _) rfl (by have := ao s q; have := ai ((dz s q).map (·.name)) 1 (s.msgs[q]'hq).sort.name; simp only [List.length_append, List.length_map, List.length_take, List.length_drop, List.length_cons, List.length_nil] at *; omega) (by have := ao s q; have := ai ((dz s q).map (·.name)) 1 (s.msgs[q]'hq).sort.name; simp only [List.length_append, List.length_map, List.length_take, List.length_drop, List.length_cons, List.length_nil] at *; omega)) ?_
    exact aD.run II 2 rfl (aD.nil (by kernel_rfl) (Kept.now (aC.region (aB.run II 3 rfl (aB.kept (Kept.aX 11 rfl (inc (by omega)) (Kept.forget 3 rfl (Kept.aH [.s 11, .s 4, .t 148, .b 3, .h, .s 1, .b 1, .s 2, .b 2, .s 3] rfl (by decide) (Kept.cS 148 116 (by decide) rfl (Kept.now ⟨q + 1, by omega, trivial, Iu (tY hq (by rw [if_neg (by simpa using hc6)]; rfl)) (AN hq (by rw [if_neg (by simpa using hc6)]; rfl))⟩))))))))))
  ·have hq := ck hc5
   exact aC.exit (aC.seq (aC.region (aB.run II 2 rfl (aB.nil (aC.ret ⟨.inr rfl, (aE.r1 rfl (.cell eM rfl rfl rfl rfl .nil)).cast (by have e1 : iL s i = s.enums.foldl vV [] := (by unfold iL; rw [List.take_of_length_le hi]); have e2 : dz s q = s.msgs.foldl jx [] := (by unfold dz; rw [List.take_of_length_le hq]); rw [e1, e2]; rfl), rfl⟩)))))
/- The program logic's rules: a row that is an object is lent to a call; a slot's value over it is a value for ever. No condition. -/
def ez (id : Nat) (ys : List AV) : AV → AV
 | .os i n c => if i = id ∧ n ≤ ys.length then .sl (ys.take n) else .os i n c
 | a => a
def ka (id : Nat) (ys : List AV) : AV → AV
 | .agg cs => .agg (cs.map (ez id ys))
 | a => ez id ys a
theorem ou {id : Nat} {ys : List AV} {a : AV} (h : a.flat = true) : (ez id ys a).flat = true := by
 cases a <;> simp only [ez] <;> first | exact h | (split <;> rfl)
structure xU (G G' : Gh) (id blk esz : Nat) (ys : List AV) : Prop where
 le : G.le G'
 ob : G.ob id = some blk
 es : ∀ e ∈ ys, e.cells.length = esz
 kn : ∀ (j : Nat) x, (ys.flatMap AV.cells)[j]? = some x → ∃ v, G'.kn blk j = some v ∧ x.flat = true ∧ V G' v x
theorem V.ez {G G' : Gh} {id blk esz : Nat} {ys : List AV} (k : xU G G' id blk esz ys) {v : Value} {a : AV} (h : V G v a) : V G' v (ez id ys a) := by
 cases a
 case os i n c =>
  show V G' v (if i = id ∧ n ≤ ys.length then _ else _)
  split
  ·rename_i hi
   obtain ⟨rfl, hn⟩ := hi
   exact xS (xs := ys.flatMap AV.cells) h k.ob k.kn k.es (by rw [List.take_of_length_le]; rw [cZ k.es]; exact Nat.le_refl _) hn
  ·exact h.mono k.le
 all_goals exact h.mono k.le
theorem V.ka {G G' : Gh} {id blk esz : Nat} {ys : List AV} (k : xU G G' id blk esz ys) {v : Value} {a : AV} (h : V G v a) : V G' v (ka id ys a) := by
 cases a
 case agg cs =>
  cases h
  rename_i vs hl hf hv
  refine .agg vs _ (by simpa using hl) (fun j c e => ?_) (fun j c e => ?_)
  ·rw [List.getElem?_map] at e
   cases hc : cs[j]? with
   | none => rw [hc] at e; cases e
   | some c0 => rw [hc] at e; cases e; exact ou (hf j c0 hc)
  ·rw [List.getElem?_map] at e
   cases hc : cs[j]? with
   | none => rw [hc] at e; cases e
   | some c0 => rw [hc] at e; cases e; exact (hv j c0 hc).ez k
 all_goals exact h.ez k
def mM : AV → Bool
 | .bool _ | .int _ _ | .str _ | .nilp | .nsl | .nilf | .nili => true
 | _ => false
def mL : AV → Bool
 | .agg cs => cs.all mM
 | a => mM a
def oP : AV → Bool
 | .tup vs => vs.all mL
 | a => mL a
theorem V.mM {G G' : Gh} {v : Value} {a : AV} (hp : mM a = true) (h : V G v a) : V G' v a := by
 cases h <;> first | (cases hp; done) | constructor
theorem V.mL {G G' : Gh} {v : Value} {a : AV} (hp : mL a = true) (h : V G v a) : V G' v a := by
 cases a
 case agg cs =>
  cases h
  rename_i vs hl hf hv
  exact .agg vs cs hl hf fun j c e => (hv j c e).mM (List.all_eq_true.1 hp c (List.mem_of_getElem? e))
 all_goals exact h.mM hp
theorem V.oP {G G' : Gh} {v : Value} {a : AV} (hp : oP a = true) (h : V G v a) : V G' v a := by
 cases a
 case tup cs =>
  cases h
  rename_i vs hl hv
  exact .tup vs cs hl fun j c e => (hv j c e).mL (List.all_eq_true.1 hp c (List.mem_of_getElem? e))
 all_goals exact h.mL hp
section
variable {P : Program} {N : Nat} {s : St} {d : Nat} {ty : TypeId} {pos : String} {af : Array Edge} {g : Option (Nat × Bool)}
theorem Cj {f : FuncId} {xs : Array Operand} {tys : Array TypeId} {«as» bs : List AV} {r : AV} {H : Hp} {esz : Nat} {zs : List AV} (id : Nat) (ys : List AV) (hN : d < N) (hf : aa P f = true) (hH : get s .h = some (.hp H)) (ha : k7 xs.toList s = some «as») (ho : H.obj id = some (zs.map .v))
  (hes : ∀ e ∈ ys, e.cells.length = esz) (hz : zs.take (ys.length * esz) = ys.flatMap AV.cells) (hl : «as».map (ka id ys) = bs) (hp : Pure P f bs r) (hr : oP r = true) :
  aY P N ⟨some d, .call { callee := .value (.func f), args := xs, argTypes := tys }, ty, pos, af, g⟩ s (lF xs.toList ++ [.h]) [(.s d, .sv (.v r))] := by
 subst hl
 intro t hR E G L a w hr0 K Q hK
 have hH' : get t .h = some (.hp H) := by rw [hR .h (by simp)]; exact hH
 obtain ⟨cargs, hrun, hV⟩ := gd (ty := ty) (pos := pos) (af := af) (g := g) hf ha (dst := some d) E G L a w t hr0 (fun c hc => hR c (List.mem_append_left _ hc))
 obtain ⟨H1, gH, hok, hmay⟩ := hr0.heap
 rw [hH'] at gH; cases gH
 obtain ⟨blk, arr, el, p1, hh, hsz, hc, hno⟩ := hok.obj id _ ho
 let cells := arr.toList
 let G1 : Gh := G.add blk cells
 have hle1 : G.le G1 := Gh.sT (fun o u e => by rw [hno o] at e; cases e)
 have hkn1 : eT G1 w := by
  intro b o u e
  by_cases hb : b = blk
  ·subst hb
   have e2 : cells[o]? = some u := by simpa [G1, Gh.add] using e
   rw [cell_of_row w b o arr el (0, 0) hh]
   simpa [cells] using e2
  ·have e2 : G.kn b o = some u := by simpa [G1, Gh.add, hb] using e
   exact hr0.kn b o u e2
 have cE : xU G G1 id blk esz ys := ⟨hle1, p1, hes, fun j x hx => by
  rw [← hz, List.getElem?_take] at hx
  split at hx
  ·have h1 := hc j (.v x) (by rw [List.getElem?_map, hx]; rfl)
   have hj : j < arr.size := by have h1 := (List.getElem?_eq_some_iff.1 hx).1; have h2 := hsz.1; rw [List.length_map] at h2; omega
   refine ⟨arr.getD j undef, ?_, h1.1, V.mono hle1 h1.2⟩
   simp [G1, Gh.add, cells, Array.getD_eq_getD_getElem?, hj]
  ·cases hx⟩
 let H0 : Hp := ⟨H.next, fun _ => none⟩
 have hf0 : ∀ G2 w2 b, ¬ aZ G2 H0 w2 b := by
  rintro G2 w2 b (⟨id, ⟨cs, h⟩, _⟩ | ⟨id, j, cs, el, esz, xs, b0, arr, t, fr, h, _⟩) <;> cases h
 have hok0 : dK G1 w H0 := ⟨fun id b e => hok.lt id b e, fun id id' b e e' ⟨_, k⟩ => (by cases k), fun id cs e => (by cases e), fun id j b hr => absurd (.inr ⟨id, j, hr⟩) (hf0 G1 w b)⟩
 have hV1 : VL G1 cargs («as».map (ka id ys)) := ⟨by rw [List.length_map]; exact hV.1, fun j y e => by
  rw [List.getElem?_map] at e
  cases hx : «as»[j]? with
  | none => rw [hx] at e; cases e
  | some x => rw [hx] at e; cases e; exact (hV.2 j x hx).ka cE⟩
 unfold Oper.wp
 rw [hrun]
 refine (hp H0 G1 w cargs ⟨(hr0.sB hH').1, (hr0.sB hH').2.1, fun g _ h => hf0 _ _ _ h⟩ hkn1 hok0 hV1).mono ?_
 rintro e w' ⟨v, G', rfl, hv, hx', hknG', hok', hf', hft'⟩
 have hblk : ∀ b, b < w.heap.size → w'.heap[b]? = w.heap[b]? := fun b hb => hf'.block b hb (hf0 _ _ b)
 have hst := hok.stay (w' := w') (Gh.le.refl G) rfl (fun b hb o => (hok.aZ hb).2 o) (fun b hb => hblk b (hok.aZ hb).1) hf'.size
 have hkn3 : eT G w' := by
  intro b o u e
  rw [World.cell?_of_block (w := w) (hblk b (hr0.vR e))]; exact hr0.kn b o u e
 have h1 := hr0.called (G' := G) hH' ⟨fun b o hb _ => rfl, fun id b e => ⟨e, rfl⟩, fun id b e => .inl ⟨id, e⟩⟩ hkn3 hst.1 ⟨hf'.os, hf'.tape, hf'.output, hf'.size, fun b hb _ => hblk b hb⟩ (fun b hb => .inr ((hst.2 b).1 hb))
 have h3 := h1.put d hN v (.v r) (hv.oP hr)
 refine hK v w' G L (h3.ext fun c => ?_)
 simp only [List.cons_append, List.nil_append, get]
 split
 ·rfl
 ·split
  ·rename_i h4; subst h4; exact hH'
  ·rfl
end
/-! ### rows, element for element -/
def ae (ys : List AV) : List Hc := (ys.flatMap AV.cells).map .v
theorem sw {esz : Nat} {ys : List AV} (h : ∀ e ∈ ys, e.cells.length = esz) : (ae ys).length = ys.length * esz := by
 unfold ae; rw [List.length_map, cZ h]
theorem gR {esz : Nat} {ys : List AV} (h : ∀ e ∈ ys, e.cells.length = esz) {i j : Nat} {e : AV} (hi : ys[i]? = some e) (hj : j < esz) : (ae ys)[i * esz + j]? = (e.cells[j]?).map .v := by
 unfold ae; rw [List.getElem?_map, gb h i j e hi hj]
theorem la {esz : Nat} {ys : List AV} (h : cK esz ys = true) : ∀ e ∈ ys, e.cells.length = esz := fun e he => (gJ h e he).1
theorem wI : ∀ (l : List AV), nq (l.map .v) = some l
 | [] => rfl
 | a :: l => by simp only [List.map_cons, nq, Sv.av, wI l]
theorem qV {esz : Nat} : ∀ {ys : List AV} (h : ∀ e ∈ ys, e.cells.length = esz) {i : Nat} {e : AV} (_ : i < ys.length) (_ : e.cells.length = esz), (ys.set i e).flatMap AV.cells = (ys.flatMap AV.cells).take (i * esz) ++ e.cells ++ (ys.flatMap AV.cells).drop (i * esz + esz)
 | [], _, i, e, hi, _ => by simp at hi
 | y :: ys, h, 0, e, _, he => by
  have hy := h y List.mem_cons_self
  simp [List.drop_append, hy]
 | y :: ys, h, i + 1, e, hi, he => by
  have hy := h y List.mem_cons_self
  have ih := qV (fun e he => h e (List.mem_cons_of_mem _ he)) (i := i) (by simpa using hi) he
  rw [List.set_cons_succ, List.flatMap_cons, ih, List.flatMap_cons, Nat.succ_mul]
  rw [Nat.add_comm (i * esz) esz, List.take_append, List.drop_append, hy]
  rw [List.take_of_length_le (show y.cells.length ≤ esz + i * esz by omega), List.drop_eq_nil_of_le (show y.cells.length ≤ esz + i * esz + esz by omega)]
  simp only [Nat.add_sub_cancel_left, Nat.add_sub_cancel, List.append_assoc, List.nil_append]
theorem qX {esz : Nat} {ys : List AV} (h : ∀ e ∈ ys, e.cells.length = esz) {i : Nat} {e : AV} (hi : i < ys.length) (he : e.cells.length = esz) : mq (ae ys) (i * esz) e.cells = ae (ys.set i e) := by
 unfold mq ae
 rw [qV h hi he, he, List.map_append, List.map_append, List.map_take, List.map_drop]
theorem lR {esz : Nat} {ys : List AV} (h : ∀ e ∈ ys, e.cells.length = esz) {i f : Nat} {cs : List AV} (hi : ys[i]? = some (.agg cs)) (hf : f < esz) (av : AV) : (ae ys).set (i * esz + f) (.v av) = ae (ys.set i (.agg (cs.set f av))) := by
 have hlt := (List.getElem?_eq_some_iff.1 hi).1
 have hcs : cs.length = esz := h _ (List.mem_of_getElem? hi)
 have hle : i * esz + esz ≤ (ae ys).length := by rw [sw h, ← Nat.succ_mul]; exact Nat.mul_le_mul_right _ hlt
 have h2 : ∀ e ∈ ys.set i (.agg (cs.set f av)), e.cells.length = esz := fun e he => by
  rcases List.mem_or_eq_of_mem_set he with h3 | h3
  ·exact h e h3
  ·subst h3; simpa [AV.cells] using hcs
 rw [← qX h hlt (by simpa [AV.cells] using hcs)]
 refine List.ext_getElem? fun j => ?_
 unfold mq
 have hl1 : ((ae ys).take (i * esz)).length = i * esz := by rw [List.length_take]; omega
 rw [List.append_assoc]
 by_cases h3 : j < i * esz
 ·rw [List.getElem?_append_left (by omega), List.getElem?_take, if_pos h3, List.getElem?_set_ne (by omega)]
 ·rw [List.getElem?_append_right (by omega), hl1]
  by_cases h4 : j < i * esz + esz
  ·rw [List.getElem?_append_left (by simp [AV.cells, hcs]; omega), List.getElem?_map]
   by_cases h5 : j = i * esz + f
   ·subst h5
    rw [List.getElem?_set_self (by omega)]
    simp only [AV.cells, Nat.add_sub_cancel_left, List.getElem?_set_self (show f < cs.length by omega)]
    rfl
   ·rw [List.getElem?_set_ne (fun e => h5 e.symm)]
    have := gR h (j := j - i * esz) hi (by omega)
    rw [show i * esz + (j - i * esz) = j by omega] at this
    rw [this]
    simp only [AV.cells]
    rw [List.getElem?_set_ne (by omega)]
  ·rw [List.getElem?_append_right (by simp [AV.cells, hcs]; omega), List.getElem?_drop, List.getElem?_set_ne (by omega)]
   congr 1
   simp [AV.cells, hcs]; omega
section
variable {P : Program} {N : Nat} {s : St} {d : Nat} {ty : TypeId} {pos : String} {af : Array Edge} {g : Option (Nat × Bool)}
theorem gw {t1 el esz by_ n : Nat} {ps : List (Nat × Operand)} {«as» zs : List AV} {H : Hp} (hN : d < N) (ht : se P t1 = some (el, esz, by_)) (hz : bu P el = some zs) (hq : j9 ps s = some (dT 0 «as»)) (hn : «as».length = n) (hok : cK esz «as» = true) (hlen : «as».length * esz ≤ 16777216) (hH : get s .h = some (.hp H)) (hd : get s (.b d) = none) :
  aY P N ⟨some d, .buildSlice t1 n ps.toArray, ty, pos, af, g⟩ s (lF (ps.map (·.2)) ++ [.h, .b d]) [(.s d, .sv (.v (.os H.next n esz))), (.h, .hp (H.new (ae «as»))), (.b d, .gone)] := zp hN ht hz hq hn hok hlen hH hd
theorem iF {t1 el esz by_ : Nat} {x y : Operand} {id n : Nat} {xs ys zs : List AV} {H : Hp} (hN : d < N) (ht : se P t1 = some (el, esz, by_)) (hz : bu P el = some zs) (hx : cU x s = some (.os id n esz)) (hH : get s .h = some (.hp H)) (ho : H.obj id = some (ae xs)) (hes : ∀ e ∈ xs, e.cells.length = esz) (hl : xs.length = n)
  (hy : cU y s = some (.sl ys)) (hok : cK esz ys = true) (hd : get s (.b d) = none) (hb : (n + ys.length) * by_ ≤ 140737488355328) (h63 : n + ys.length ≤ 9223372036854775807) :
  aY P N ⟨some d, .call { callee := .builtin .append, args := #[x, y], argTypes := #[t1, t1] }, ty, pos, af, g⟩ s (rd x ++ (rd y ++ [.h, .b d]))
   [(.s d, .sv (.v (.os H.next (n + ys.length) esz))), (.h, .hp ((H.del id).new (ae (xs ++ ys)))), (.b d, .gone)] := by
 have := Cn (ty := ty) (pos := pos) (af := af) (g := g) hN ht hz hx hH ho (by rw [cZ hes, hl]) hy hok hd hb h63
 rw [← List.flatMap_append] at this
 exact this
theorem Cp {t1 el esz by_ : Nat} {x y : Operand} {id n id2 n2 : Nat} {xs ys zs : List AV} {H : Hp} (hN : d < N) (ht : se P t1 = some (el, esz, by_)) (hz : bu P el = some zs) (hx : cU x s = some (.os id n esz)) (hH : get s .h = some (.hp H)) (ho : H.obj id = some (ae xs)) (hes : ∀ e ∈ xs, e.cells.length = esz) (hl : xs.length = n)
  (hy : cU y s = some (.os id2 n2 esz)) (ho2 : H.obj id2 = some (ae ys)) (hes2 : ∀ e ∈ ys, e.cells.length = esz) (hn2 : ys.length = n2) (hd : get s (.b d) = none) (hb : (n + ys.length) * by_ ≤ 140737488355328) (h63 : n + ys.length ≤ 9223372036854775807) :
  aY P N ⟨some d, .call { callee := .builtin .append, args := #[x, y], argTypes := #[t1, t1] }, ty, pos, af, g⟩ s (rd x ++ ((rd y ++ [.h]) ++ [.h, .b d]))
   [(.s d, .sv (.v (.os H.next (n + ys.length) esz))), (.h, .hp ((H.del id).new (ae (xs ++ ys)))), (.b d, .gone)] := by
 have := zy (ty := ty) (pos := pos) (af := af) (g := g) hN ht hz hx hH ho (by rw [cZ hes, hl]) hy ho2 hes2 hn2 hd hb h63
 rw [← List.flatMap_append] at this
 exact this
theorem FU {t1 el esz by_ : Nat} {x y : Operand} {ys zs : List AV} {H : Hp} (hN : d < N) (ht : se P t1 = some (el, esz, by_)) (hz : bu P el = some zs) (hx : cU x s = some .nsl) (hH : get s .h = some (.hp H))
  (hy : cU y s = some (.sl ys)) (hok : cK esz ys = true) (h0 : ys ≠ []) (hd : get s (.b d) = none) (hb : ys.length * by_ ≤ 140737488355328) (h63 : ys.length ≤ 9223372036854775807) :
  aY P N ⟨some d, .call { callee := .builtin .append, args := #[x, y], argTypes := #[t1, t1] }, ty, pos, af, g⟩ s (rd x ++ (rd y ++ [.h, .b d]))
   [(.s d, .sv (.v (.os H.next ys.length esz))), (.h, .hp (H.new (ae ys))), (.b d, .gone)] := Co hN ht hz hx hH hy hok h0 hd hb h63
def dC (K : Hp) (o : AV) (esz : Nat) (xs : List AV) : Prop := (o = .nsl ∧ xs = []) ∨ ∃ id, o = .os id xs.length esz ∧ K.obj id = some (ae xs)
def lC (K : Hp) (o : AV) (cs : List Hc) : Hp := match o with | .os id _ _ => (K.del id).new cs | _ => K.new cs
theorem jm {t1 el esz by_ : Nat} {x y : Operand} {o : AV} {xs ys zs : List AV} {H : Hp} (hN : d < N) (ht : se P t1 = some (el, esz, by_)) (hz : bu P el = some zs) (hx : cU x s = some o) (hH : get s .h = some (.hp H)) (ho : dC H o esz xs) (hes : ∀ e ∈ xs, e.cells.length = esz)
  (hy : cU y s = some (.sl ys)) (hok : cK esz ys = true) (h0 : ys ≠ []) (hd : get s (.b d) = none) (hb : (xs.length + ys.length) * by_ ≤ 140737488355328) (h63 : xs.length + ys.length ≤ 9223372036854775807) :
  aY P N ⟨some d, .call { callee := .builtin .append, args := #[x, y], argTypes := #[t1, t1] }, ty, pos, af, g⟩ s (rd x ++ (rd y ++ [.h, .b d]))
   [(.s d, .sv (.v (.os H.next (xs.length + ys.length) esz))), (.h, .hp (lC H o (ae (xs ++ ys)))), (.b d, .gone)] := by
 rcases ho with ⟨rfl, rfl⟩ | ⟨id, rfl, ho⟩
 ·have := FU (ty := ty) (pos := pos) (af := af) (g := g) hN ht hz hx hH hy hok h0 hd (by simpa using hb) (by simpa using h63)
  simpa [lC] using this
 ·exact iF hN ht hz hx hH ho hes rfl hy hok hd hb h63
theorem ed {t1 : TypeId} {x : Operand} {id off i n : Nat} {ys cs : List AV} {H : Hp} (hN : d < N) (hl : lk P t1 = some (true, n)) (hx : cU x s = some (.op id off)) (hH : get s .h = some (.hp H)) (ho : H.obj id = some (ae ys)) (hes : ∀ e ∈ ys, e.cells.length = n) (hoff : off = i * n) (he : ys[i]? = some (.agg cs)) :
  aY P N ⟨some d, .load t1 x, ty, pos, af, g⟩ s (rd x ++ [.h]) [(.s d, .sv (.v (.agg cs)))] := by
 subst hoff
 have hcs : cs.length = n := hes _ (List.mem_of_getElem? he)
 have hlt := (List.getElem?_eq_some_iff.1 he).1
 refine dI hN hl hx hH ho ?_
 have e : (((ae ys).map fun c => Sv.v (qA c)).drop (i * n)).take n = cs.map .v := by
  refine List.ext_getElem? fun j => ?_
  rw [List.getElem?_take]
  split
  ·rename_i hj
   rw [List.getElem?_drop, List.getElem?_map, gR hes he hj, List.getElem?_map]
   simp only [AV.cells, Option.map_map]
   rfl
  ·rename_i hj
   rw [List.getElem?_eq_none (by simp; omega)]
 simp only [vO, e, wI, hcs, if_true]
theorem c9 {t1 : TypeId} {x : Operand} {id off i f esz : Nat} {ys cs : List AV} {c : AV} {H : Hp} (hN : d < N) (hl : lk P t1 = some (false, 1)) (hx : cU x s = some (.op id off)) (hH : get s .h = some (.hp H)) (ho : H.obj id = some (ae ys)) (hes : ∀ e ∈ ys, e.cells.length = esz) (hoff : off = i * esz + f) (he : ys[i]? = some (.agg cs)) (hc : cs[f]? = some c) :
  aY P N ⟨some d, .load t1 x, ty, pos, af, g⟩ s (rd x ++ [.h]) [(.s d, .sv (.v c))] := by
 subst hoff
 have hcs : cs.length = esz := hes _ (List.mem_of_getElem? he)
 refine dI hN hl hx hH ho ?_
 have hf := (List.getElem?_eq_some_iff.1 hc).1
 simp only [vO]
 rw [List.getElem?_drop, List.getElem?_map, Nat.add_zero, gR hes he (by omega)]
 simp only [AV.cells, hc]
 rfl
theorem kq {t1 : TypeId} {x y : Operand} {id off i n : Nat} {b : Bool} {ys cs : List AV} {H : Hp} (hl : lk P t1 = some (b, n)) (hx : cU x s = some (.op id off)) (hH : get s .h = some (.hp H)) (ho : H.obj id = some (ae ys)) (hy : cU y s = some (.agg cs)) (hes : ∀ e ∈ ys, e.cells.length = n) (hoff : off = i * n) (hi : i < ys.length) (hn : cs.length = n) :
  aY P N ⟨none, .store t1 x y, ty, pos, af, g⟩ s (rd x ++ (rd y ++ [.h])) [(.h, .hp (H.set id (ae (ys.set i (.agg cs)))))] := by
 subst hoff
 rw [← qX (e := .agg cs) hes hi hn]
 refine Ce hl hx hH ho hy rfl hn ?_ ?_
 ·rw [sw hes, ← Nat.succ_mul]; exact Nat.mul_le_mul_right _ hi
 ·refine List.all_eq_true.2 fun x hx => ?_
  have := List.mem_of_mem_drop (List.mem_of_mem_take hx)
  obtain ⟨c, _, rfl⟩ := List.mem_map.1 this
  rfl
theorem uu {t1 : TypeId} {x y : Operand} {id off i f esz : Nat} {b : Bool} {ys cs : List AV} {av : AV} {H : Hp} (hl : lk P t1 = some (b, 1)) (hx : cU x s = some (.op id off)) (hH : get s .h = some (.hp H)) (ho : H.obj id = some (ae ys)) (hy : cU y s = some av) (hfl : av.flat = true) (hes : ∀ e ∈ ys, e.cells.length = esz) (hoff : off = i * esz + f) (he : ys[i]? = some (.agg cs)) (hf : f < esz) :
  aY P N ⟨none, .store t1 x y, ty, pos, af, g⟩ s (rd x ++ (rd y ++ [.h])) [(.h, .hp (H.set id (ae (ys.set i (.agg (cs.set f av))))))] := by
 subst hoff
 rw [← lR hes he hf]
 have hcs : cs.length = esz := hes _ (List.mem_of_getElem? he)
 obtain ⟨c, hc⟩ : ∃ c, cs[f]? = some c := ⟨_, List.getElem?_eq_getElem (by omega)⟩
 refine oY (old := c) hl hx hH ho hy hfl ?_
 rw [gR hes he hf]
 simp only [AV.cells, hc]
 rfl
theorem tQ {f : FuncId} {xs : Array Operand} {tys : Array TypeId} {«as» bs : List AV} {r : AV} {H : Hp} {esz : Nat} (id : Nat) (ys : List AV) (hN : d < N) (hf : aa P f = true) (hH : get s .h = some (.hp H)) (ha : k7 xs.toList s = some «as») (ho : H.obj id = some (ae ys))
  (hes : ∀ e ∈ ys, e.cells.length = esz) (hl : «as».map (ka id ys) = bs) (hp : Pure P f bs r) (hr : oP r = true) :
  aY P N ⟨some d, .call { callee := .value (.func f), args := xs, argTypes := tys }, ty, pos, af, g⟩ s (lF xs.toList ++ [.h]) [(.s d, .sv (.v r))] :=
 Cj id ys hN hf hH ha ho hes (by rw [List.take_of_length_le]; rw [cZ hes]; exact Nat.le_refl _) hl hp hr
end
theorem Rel.I9 {E : dX} {N : Nat} {G : Gh} {L : Loc} {a : Act} {w : World} {s : St} (h : Rel E N G L a w s) {H : Hp} {id esz : Nat} {ys : List AV} (hH : get s .h = some (.hp H)) (ho : H.obj id = some (ae ys)) (hes : ∀ e ∈ ys, e.cells.length = esz) :
  ∃ G' blk, xU G' G' id blk esz ys ∧ Rel E N G' L a w ((.h, .hp (H.del id)) :: s) := by
 obtain ⟨H0, gH, hok, hmay⟩ := h.heap
 rw [hH] at gH; cases gH
 obtain ⟨blk, arr, el, p1, _⟩ := hok.obj id _ ho
 obtain ⟨G', hle, hr', hkn⟩ := h.H5 hH ho p1
 exact ⟨G', blk, ⟨Gh.le.refl G', hle.ob _ _ p1, hes, hkn⟩, hr'⟩
def iG (id : Nat) (ys : List AV) : Sv → Sv
 | .v a => .v (ez id ys a)
 | x => x
theorem Kept.Ai {s : St} {Q : St → Prop} (k id : Nat) {ys : List AV} {cs ds : List Sv} {esz : Nat} {H : Hp} (hk : get s (.b k) = some (.bx cs)) (hH : get s .h = some (.hp H)) (ho : H.obj id = some (ae ys)) (hes : ∀ e ∈ ys, e.cells.length = esz) (hd : cs.map (iG id ys) = ds)
  (h : Kept ((.b k, .bx ds) :: (.h, .hp (H.del id)) :: s) Q) : Kept s Q := fun E N a' w ⟨G, L, hr⟩ => by
 subst hd
 obtain ⟨G', blk, hk2, hr'⟩ := hr.I9 hH ho hes
 have hkb : get ((.h, .hp (H.del id)) :: s) (.b k) = some (.bx cs) := by simpa [get] using hk
 refine h E N a' w ⟨G', L, hr'.IB hkb (by simp) fun j x x' hx hx' => ?_⟩
 rw [List.getElem?_map, hx] at hx'
 cases hx'
 obtain ⟨blk2, o, q1, q2, q3, ⟨arr, el, e1, e2, e3⟩, q5, q6⟩ := hr'.box k _ hkb rfl
 have hf := (e3 j x hx).1
 cases x with
 | v a => exact ⟨ou hf, fun v hv => V.ez hk2 hv⟩
 | _ => exact ⟨hf, fun v hv => hv⟩
theorem Kept.AI {s : St} {Q : St → Prop} (k i : Nat) {cs : List Sv} (hk : get s (.b k) = some (.bx cs)) (hi : cs[i]? = some (.v .nsl)) (h : Kept ((.b k, .bx (cs.set i (.v (.sl [])))) :: s) Q) : Kept s Q := fun E N a w ⟨G, L, hr⟩ => by
 refine h E N a w ⟨G, L, hr.IB hk (by simp) fun j x x' hx hx' => ?_⟩
 obtain ⟨blk2, o, q1, q2, q3, ⟨arr, el, e1, e2, e3⟩, q5, q6⟩ := hr.box k _ hk rfl
 rw [List.getElem?_set] at hx'
 split at hx'
 ·rename_i e
  subst e
  rw [hi] at hx; cases hx
  split at hx'
  ·cases hx'
   refine ⟨rfl, fun v hv => ?_⟩
   have hV : V G v .nsl := hv
   cases hV
   exact V.slE none 0
  ·cases hx'
 ·rw [hx] at hx'; cases hx'
  exact ⟨(e3 j x hx).1, fun v hv => hv⟩
def Hp.fin (H : Hp) : Prop := ∀ i, H.next ≤ i → H.obj i = none
theorem dK.fin {G : Gh} {w : World} {H : Hp} (h : dK G w H) : H.fin := fun i hi => by
 cases e : H.obj i with
 | none => rfl
 | some cs =>
  obtain ⟨blk, _, _, q1, _⟩ := h.obj i cs e
  have := (h.lt i blk q1).1; omega
theorem dW.fin {P : Program} {f : FuncId} {args : List AV} {H H' : Hp} {r : AV} (h : H.fin → dW P f args H r H') : dW P f args H r H' := fun G w cargs hg hk hH hV => h hH.fin G w cargs hg hk hH hV
def Hp.bump (H : Hp) (k : Nat) (cs : List Hc) : Hp := ⟨H.next + k + 1, fun i => if i = H.next + k then some cs else if i < H.next then H.obj i else none⟩
theorem Hp.cl {H : Hp} {k : Nat} {cs : List Hc} : (H.bump k cs).obj (H.next + k) = some cs := by simp [Hp.bump]
theorem Hp.kD {H : Hp} {k i : Nat} {cs : List Hc} (h : i < H.next) : (H.bump k cs).obj i = H.obj i := by
 have : i ≠ H.next + k := by omega
 simp [Hp.bump, h, this]
theorem Hp.lb {H : Hp} (h : H.fin) {cs : List Hc} : H.new cs = H.bump 0 cs := by
 simp only [Hp.new, Hp.bump, Hp.set]
 congr 1
 funext i
 by_cases h1 : i = H.next
 ·simp [h1]
 ·by_cases h2 : i < H.next
  ·simp [h1, h2]
  ·simp [h1, h2, h i (by omega)]
theorem Hp.ir {H : Hp} {k : Nat} {cs ds : List Hc} : ((H.bump k cs).del (H.next + k)).new ds = H.bump (k + 1) ds := by
 simp only [Hp.new, Hp.bump, Hp.set, Hp.del]
 congr 1
 funext i
 by_cases h1 : i = H.next + k + 1
 ·subst h1; simp [Nat.add_assoc]
 ·by_cases h2 : i = H.next + k
  ·subst h2; simp [show ¬ H.next + k = H.next + (k + 1) by omega, h1]; intro h5; omega
  ·simp [h1, h2, show ¬ i = H.next + (k + 1) by omega]
theorem Hp.uH {H : Hp} {k : Nat} {cs ds : List Hc} : (H.bump k cs).set (H.next + k) ds = H.bump k ds := by
 simp only [Hp.bump, Hp.set]
 congr 1
 funext i
 by_cases h1 : i = H.next + k
 ·simp [h1]
 ·simp [h1]
theorem Hp.lu {H : Hp} {k i : Nat} {cs : List Hc} (h : i < H.next) : ((H.bump k cs).del (H.next + k)).obj i = H.obj i := by
 have : i ≠ H.next + k := by omega
 simp [Hp.bump, Hp.del, h, this]
end Go.Proofs.YtpifnegikoldmaaGreatDoor.X
