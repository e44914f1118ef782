/- the document: fields that come into a oneof -/
import Derived.Test.YtgmdapgedlachaaGreatDoorZFD
import Derived.Test.YtgmdapgedlachaaGreatDoorZFG
import Derived.Test.YtgmdapgedlachaaGreatDoorZFF
set_option linter.unusedVariables false
set_option linter.unusedSimpArgs false
set_option linter.unusedSectionVars false
set_option maxRecDepth 100000
namespace Go.Proofs.YtgmdapgedlachaaGreatDoor.X
open Go Go.RowKit Go.Proofs
theorem sd : lk Tryz.prog 9 = some (false, 1) := by kernel_rfl
theorem Hf : D9 Tryz.prog 86 = some [(0, 1), (1, 1), (2, 1), (3, 1), (4, 1), (5, 1), (6, 1), (7, 1), (8, 1), (9, 1), (10, 3)] := by kernel_rfl
theorem OO : np Tryz.prog 86 = some [.int .i64 0, .int .i64 0, .int .i64 0, .int .i64 0, .int .i64 0, .int .i64 0, .int .i64 0, .int .u64 0, .int .i64 0, .nsl, .int .u64 0, .str [], .nsl] := by kernel_rfl
structure Mv (K : Hp) (o : AV) (K' : Hp) (o' : AV) (ops : List al) : Prop where
 fin : K'.fin
 nx : K.next ≤ K'.next
 az : ∀ j, j < K.next → (∀ n e, o ≠ .os j n e) → K'.obj j = K.obj j
 res : di K' o' 13 (ops.map al.av)
 fresh : o' = o ∨ ∃ id n e, o' = .os id n e ∧ K.next ≤ id
theorem Mv.same {K : Hp} {o : AV} {ops : List al} (hf : K.fin) (h : di K o 13 (ops.map al.av)) : Mv K o K o ops := ⟨hf, Nat.le_refl _, fun _ _ _ => rfl, h, .inl rfl⟩
theorem fY {K : Hp} (h : K.fin) (cs : List Hc) : (K.new cs).fin := fun i hi => by
 have h1 : K.next + 1 ≤ i := hi
 have e : (K.new cs).obj i = if i = K.next then some cs else K.obj i := rfl
 rw [e, if_neg (by omega), h i (by omega)]
theorem lU {K : Hp} (h : K.fin) (id : Nat) : (K.del id).fin := fun i hi => by
 have e : (K.del id).obj i = if i = id then none else K.obj i := rfl
 rw [e]
 split
 ·rfl
 ·exact h i hi
theorem lA {K : Hp} (h : K.fin) {id : Nat} (hi : id < K.next) (cs : List Hc) : (K.set id cs).fin := fun i hl => by
 have h1 : K.next ≤ i := hl
 have e : (K.set id cs).obj i = if i = id then some cs else K.obj i := rfl
 rw [e, if_neg (by omega)]; exact h i h1
theorem tP {K : Hp} (k : Nat) (cs : List Hc) : (K.bump k cs).fin := fun i hi => by
 have h1 : K.next + k + 1 ≤ i := hi
 have e : (K.bump k cs).obj i = if i = K.next + k then some cs else if i < K.next then K.obj i else none := rfl
 rw [e, if_neg (by omega), if_neg (by omega)]
theorem tU {K : Hp} (h : K.fin) (o : AV) (cs : List Hc) : (kM K o cs).fin := by
 cases o <;> first | exact fY h cs | exact fY (lU h _) cs
theorem mo {K : Hp} {o : AV} {cs : List Hc} : (kM K o cs).next = K.next + 1 := by cases o <;> rfl
theorem yT {K : Hp} {o : AV} {cs : List Hc} : (kM K o cs).obj K.next = some cs := by cases o <;> exact Hp.dd _ _
theorem mV {K : Hp} {o : AV} {cs : List Hc} {j : Nat} (hj : j < K.next) (ho : ∀ n e, o ≠ .os j n e) : (kM K o cs).obj j = K.obj j := by
 cases o
 case os id n e =>
  have hne : j ≠ id := fun e2 => ho n e (by rw [e2])
  show (if j = K.next then some cs else if j = id then none else K.obj j) = K.obj j
  rw [if_neg (by omega), if_neg hne]
 all_goals exact Hp.cr _ _ hj
theorem kg {K : Hp} (hf : K.fin) {o : AV} {e : Nat} {xs : List AV} (h : di K o e xs) {id n e' : Nat} (ho : o = .os id n e') : id < K.next := by
 rcases h with ⟨rfl, _⟩ | ⟨id', rfl, h2⟩
 ·cases ho
 ·cases ho
  apply Classical.byContradiction
  intro hn
  rw [hf id (by omega)] at h2; cases h2
theorem jX {K K' : Hp} {o : AV} {e : Nat} {xs : List AV} (h : di K o e xs) (hk : ∀ id n e', o = .os id n e' → K'.obj id = K.obj id) : di K' o e xs := by
 rcases h with h | ⟨id, h1, h2⟩
 ·exact .inl h
 ·exact .inr ⟨id, h1, by rw [hk id _ _ h1]; exact h2⟩
theorem Mv.app {K : Hp} {o : AV} {ops : List al} (hf : K.fin) (a : al) : Mv K o (kM K o (aZ (ops.map al.av ++ [a.av]))) (.os K.next ((ops.map al.av).length + 1) 13) (ops ++ [a]) :=
 ⟨tU hf _ _, by rw [mo]; omega, fun j hj ho => mV hj ho, .inr ⟨K.next, by simp, by rw [yT, List.map_append]; rfl⟩, .inr ⟨_, _, _, rfl, Nat.le_refl _⟩⟩
def jU (x : aS) (i : Nat) (y : Port) : Port := if (x.names.take i).any (fun s => s == y.f.name) then { y with f := { y.f with one := x.field } } else y
def dY (p : aQ) (x : aS) (i : Nat) : List Port := p.outs.map (jU x i)
theorem sP (x : aS) (i : Nat) (y : Port) : (jU x i y).f.name = y.f.name := by unfold jU; split <;> rfl
theorem u1 (x : aS) (i : Nat) (y : Port) : (jU x i y).reg = y.reg := by unfold jU; split <;> rfl
theorem sq {α : Type} {q : α → Bool} {g : α → α} (h : ∀ y, q (g y) = q y) : ∀ (l : List α) (k : Nat), bI q (l.map g) k = bI q l k
 | [], _ => rfl
 | a :: l, k => by simp only [List.map_cons, bI, h, sq h l (k + 1)]
theorem gF {p : aQ} {x : aS} {i : Nat} {n : aw} : bl (dY p x i) n = bl p.outs n := sq (fun y => by rw [sP]) _ _
theorem ga {p : aQ} {x : aS} {i : Nat} : (dY p x i).length = p.outs.length := by unfold dY; simp
theorem me {l : List Port} {n : aw} (h : 0 ≤ bl l n) : ∃ (k : Nat) (hk : k < l.length), bl l n = (k : Int) ∧ (l[k]).f.name = n ∧ aJ l n = l[k] := by
 rcases ao (fun x : Port => x.f.name == n) l 0 with ⟨q1, q2⟩ | ⟨i, hi, q1, q2, q3⟩
 ·have e : bl l n = -1 := q1
  omega
 ·refine ⟨i, hi, by rw [show bl l n = ((0 + i : Nat) : Int) from q1, Nat.zero_add], by simpa using q3, ?_⟩
  unfold aJ; rw [q2]; rfl
theorem pR {p : aQ} {x : aS} {i k : Nat} (hk : k < (dY p x i).length) (hk' : k < p.outs.length) : (dY p x i)[k] = jU x i p.outs[k] := by simp [dY]
theorem Cg (x : aS) (i : Nat) (y : Port) : ({ jU x i y with f := { (jU x i y).f with one := x.field } } : Port) = { y with f := { y.f with one := x.field } } := by unfold jU; split <;> rfl
theorem JC {p : aQ} {x : aS} : dY p x 0 = p.outs := by
 unfold dY
 have : jU x 0 = id := by funext y; unfold jU; simp
 rw [this, List.map_id]
theorem bV {l : List Port} {n : aw} (h : 0 ≤ bl l n) : bl l n < (l.length : Int) := by
 obtain ⟨k, hk, e, _⟩ := me h
 omega
theorem Cd {p : aQ} {x : aS} {i : Nat} {n : aw} (h : 0 ≤ bl p.outs n) : (aJ (dY p x i) n).reg = (aJ p.outs n).reg := by
 obtain ⟨k, hk, e1, e2, e3⟩ := me h
 obtain ⟨k', hk', e1', e2', e3'⟩ := me (l := dY p x i) (by rw [gF]; exact h)
 rw [gF, e1] at e1'
 have : k' = k := by omega
 subst this
 rw [e3, e3']
 rw [pR hk' hk, u1]
theorem zX {p : aQ} {x : aS} {i : Nat} (hi : i < x.names.length) (hnd : (p.outs.map fun y => y.f.name).Nodup) (h : 0 ≤ bl p.outs x.names[i]) :
  ((dY p x i).map Port.av).set (bl (dY p x i) x.names[i]).toNat (.agg ((aJ (dY p x i) x.names[i]).cells.set 6 (.str x.field))) = (dY p x (i + 1)).map Port.av := by
 obtain ⟨k, hk, e1, e2, e3⟩ := me (l := dY p x i) (n := x.names[i]) (by rw [gF]; exact h)
 have hk' : k < p.outs.length := by rw [ga] at hk; exact hk
 rw [e1, e3, Int.toNat_natCast]
 have ea : (.agg ((dY p x i)[k].cells.set 6 (.str x.field)) : AV) = ({ (dY p x i)[k] with f := { (dY p x i)[k].f with one := x.field } } : Port).av := rfl
 rw [ea, ← List.map_set]
 congr 1
 refine List.ext_getElem? fun j => ?_
 have hname : p.outs[k].f.name = x.names[i] := by
  rw [← e2, pR hk hk', sP]
 have htk : x.names.take (i + 1) = x.names.take i ++ [x.names[i]] := by rw [List.take_add_one, List.getElem?_eq_getElem hi]; rfl
 by_cases hj : j = k
 ·subst hj
  rw [List.getElem?_set_self hk]
  rw [pR hk hk', Cg]
  unfold dY
  rw [List.getElem?_map, List.getElem?_eq_getElem hk', Option.map_some]
  congr 1
  unfold jU
  rw [htk, List.any_append]
  simp [hname]
 ·rw [List.getElem?_set_ne (fun e => hj e.symm)]
  unfold dY
  rw [List.getElem?_map, List.getElem?_map]
  cases hy : p.outs[j]? with
  | none => rfl
  | some y =>
   simp only [Option.map_some]
   congr 1
   have hne : y.f.name ≠ x.names[i] := fun e => by
    rw [← hname] at e
    have hjl := (List.getElem?_eq_some_iff.1 hy).1
    have h1 : (p.outs.map fun y => y.f.name)[j]? = (p.outs.map fun y => y.f.name)[k]? := by
     rw [List.getElem?_map, List.getElem?_map, hy, List.getElem?_eq_getElem hk']; simp [e]
    exact hj ((List.getElem?_inj (by simpa using hjl) hnd).1 h1)
   unfold jU
   rw [htk, List.any_append]
   have : ([x.names[i]].any fun s => s == y.f.name) = false := by simp; exact fun e => hne e.symm
   rw [this, Bool.or_false]
def oQ (p : aQ) (x : aS) (i : Nat) : List Int := (x.names.take i).map fun s => (aJ p.outs s).reg
theorem zY {p : aQ} {x : aS} {i : Nat} (hi : i < x.names.length) : (oQ p x i).map eJ ++ [AV.int .i64 (aJ p.outs x.names[i]).reg] = (oQ p x (i + 1)).map eJ := by
 unfold oQ
 rw [List.take_add_one, List.getElem?_eq_getElem hi, List.map_append, List.map_append]; rfl
theorem Ce {p : aQ} {x : aS} {i : Nat} : (oQ p x i).length ≤ x.names.length := by unfold oQ; simp; omega
theorem Cf {p : aQ} {x : aS} : oQ p x x.names.length = x.names.map fun s => (aJ p.outs s).reg := by unfold oQ; rw [List.take_of_length_le (Nat.le_refl _)]
def BE (p : aQ) (x : aS) : al := { jb with kind := 6, aE := x.names.map fun s => (aJ p.outs s).reg }
theorem BG {p : aQ} {x : aS} (h : x.kind = 8) : aP p x = { p with ops := p.ops ++ [BE p x], outs := dY p x x.names.length } := by
 unfold aP dY
 have : jU x x.names.length = fun y : Port => if (x.names.any fun s => s == y.f.name) = true then { y with f := { y.f with one := x.field } } else y := by
  funext y; unfold jU; rw [List.take_of_length_le (Nat.le_refl _)]
 rw [this]
 simp [h, BE]
theorem Co {id n : Nat} {l : List Port} {s : aw} (hn : n = l.length) : [AV.os id n 9, .str s].map (mx id (l.map Port.av)) = [.sl (l.map Port.av), .str s] := by
 subst hn
 have e : (l.map Port.av).take l.length = l.map Port.av := List.take_of_length_le (by simp)
 simp [mx, gT, e]
theorem P0 {v : CV} {rest : List (aI × CV)} {H : Hp} {t el esz : Nat} {b0 b1 b2 b3 b4 b5 b6 b7 b8 c0 c1 c2 : Sv} {a a' u u' : List AV} (h1 : a = a') (h2 : u = u') :
  ((aI.s 6, v) :: (aI.b 5, CV.bx [b0, b1, b2, b3, b4, b5, b6, b7, b8, .ow t a, c0, c1, c2]) :: (aI.t t, CV.tk false el esz a) :: (aI.h, CV.hp (H.bump 1 (aZ u))) :: rest) = [(aI.s 6, v), (aI.b 5, CV.bx [b0, b1, b2, b3, b4, b5, b6, b7, b8, .ow t a', c0, c1, c2]), (aI.t t, CV.tk false el esz a'), (aI.h, CV.hp (H.bump 1 (aZ u')))] ++ rest := by rw [h1, h2]; rfl
theorem Nh {p : aQ} {id n : Nat} {o : AV} (l : List Port) (hn : n = l.length) (ho : ∀ m e, o ≠ .os id m e) : [Sv.v (.str p.name), .v (.sl (p.ins.map Port.av)), .v o, .v (.os id n 9), .v (.int .i64 p.aE), .v (.sl (p.fB.map eJ)), .v (.bool p.born)].map (kG id (l.map Port.av)) = [Sv.v (.str p.name), .v (.sl (p.ins.map Port.av)), .v o, .v (.sl (l.map Port.av)), .v (.int .i64 p.aE), .v (.sl (p.fB.map eJ)), .v (.bool p.born)] := by
 subst hn
 have e : (l.map Port.av).take l.length = l.map Port.av := List.take_of_length_le (by simp)
 have h : gT id (l.map Port.av) o = o := by
  cases o <;> first | rfl | skip
  rename_i i m e
  show (if i = id ∧ m ≤ (l.map Port.av).length then _ else _) = _
  rw [if_neg (fun h => ho m e (by rw [h.1]))]
 simp only [List.map_cons, List.map_nil, kG]
 rw [h]
 simp [gT, e]
theorem Mv.one {K : Hp} {o : AV} {ops : List al} {cs : List Hc} (hf : K.fin) (h : di K o 13 (ops.map al.av)) (a : al) : Mv K o ((kM (K.bump 1 cs) o (aZ (ops.map al.av ++ [a.av]))).del (K.next + 1)) (.os (K.next + 2) ((ops.map al.av).length + 1) 13) (ops ++ [a]) := by
 have hlo : ∀ j n e, o = .os j n e → j < K.next := fun j n e ho => kg hf h ho
 have hn : (K.bump 1 cs).next = K.next + 2 := rfl
 refine ⟨lU (tU (tP _ _) _ _) _, ?_, fun j hj ho => ?_, .inr ⟨K.next + 2, by simp, ?_⟩, .inr ⟨_, _, _, rfl, by omega⟩⟩
 ·show K.next ≤ (kM _ _ _).next; rw [mo, hn]; omega
 ·rw [Hp.B3, if_neg (by omega), mV (by rw [hn]; omega) ho, Hp.mS hj]
 ·rw [Hp.B3, if_neg (by omega)]
  have := @yT (K.bump 1 cs) o (aZ (ops.map al.av ++ [a.av]))
  rw [hn] at this
  rw [this, List.map_append]; rfl
theorem zt {K : Hp} (hf : K.fin) {o : AV} {e : Nat} {xs : List AV} {k : Nat} {cs : List Hc} (h : di K o e xs) : di (K.bump k cs) o e xs := jX h fun id n e' ho => Hp.mS (kg hf h ho)
def HC (K : Hp) (q : aQ) (o : AV) (r : AV) (K' : Hp) : Prop := ∃ o', r = ee q o' ∧ Mv K o K' o' q.ops
theorem rz (p : aQ) (o : AV) (x : aS) (K : Hp) (hf : K.fin) (hK : di K o 13 (p.ops.map al.av)) (hl : p.ops.length ≤ 1000) (ho : p.outs.length ≤ 100) (hk : x.kind = 1 ∨ x.kind = 2 ∨ x.kind = 3) : iL Tryz.prog 75 [ee p o, x.av, (aJ p.outs x.field).av] K (HC K (aP p x) o) := by
 refine (IS p o x K hK hl ho hk).Hq ⟨_, rfl, ?_⟩
 rcases hk with h | h | h
 ·rw [nw (p := p) (q := aP p x) (by rw [qT h]), ny (p := p) (q := aP p x) (by rw [qT h]), show (aP p x).ops = p.ops by rw [qT h]]
  exact Mv.same hf hK
 ·rw [nw (p := p) (q := aP p x) (by rw [qS h]), ny (p := p) (q := aP p x) (by rw [qS h]), show (aP p x).ops = p.ops by rw [qS h]]
  exact Mv.same hf hK
 ·rw [kR (lM (aJ p.outs x.field) x) (p := p) (q := aP p x) (by rw [qR h]), kS (lM (aJ p.outs x.field) x) (p := p) (q := aP p x) (by rw [qR h]), show (aP p x).ops = p.ops ++ [lM (aJ p.outs x.field) x] by rw [qR h]]
  exact Mv.app hf _
theorem rv (p : aQ) (o : AV) (x : aS) (K : Hp) (hf : K.fin) (hK : di K o 13 (p.ops.map al.av)) (hl : p.ops.length ≤ 1000) (ho : p.outs.length ≤ 100) (hr : 0 ≤ p.aE ∧ p.aE ≤ 1000) (hk : x.kind = 4 ∨ x.kind = 5) (hg : x.kind = 5 → 0 ≤ bl (aR p.outs x.field) x.also) : iL Tryz.prog 76 [ee p o, x.av, (aJ p.outs x.field).av] K (HC K (aP p x) o) := by
 refine (CN p o x K hK hl ho hr hk hg).Hq ⟨_, rfl, ?_⟩
 rcases hk with h | h
 ·rw [kR (lL (aJ p.outs x.field) p.aE) (p := p) (q := aP p x) (by rw [qQ h]), kS (lL (aJ p.outs x.field) p.aE) (p := p) (q := aP p x) (by rw [qQ h]), show (aP p x).ops = p.ops ++ [lL (aJ p.outs x.field) p.aE] by rw [qQ h]]
  exact Mv.app hf _
 ·rw [kR (nS (aJ p.outs x.field) (aJ (aR p.outs x.field) x.also) p.aE) (p := p) (q := aP p x) (by rw [qP h]), kS (nS (aJ p.outs x.field) (aJ (aR p.outs x.field) x.also) p.aE) (p := p) (q := aP p x) (by rw [qP h]), show (aP p x).ops = p.ops ++ [nS (aJ p.outs x.field) (aJ (aR p.outs x.field) x.also) p.aE] by rw [qP h]]
  exact Mv.app hf _
theorem EZ (p : aQ) (o : AV) (x : aS) (K : Hp) (hf : K.fin) (hK : di K o 13 (p.ops.map al.av)) (hl : p.ops.length ≤ 1000) (ho : p.outs.length ≤ 100) (hn : x.names.length ≤ 1000) (hk : x.kind = 8) (hnd : (p.outs.map fun y => y.f.name).Nodup) (hg : ∀ n ∈ x.names, 0 ≤ bl p.outs n) : iL Tryz.prog 78 [ee p o, x.av] K (HC K (aP p x) o) := by
 refine iL.ah Tryz.func78 rfl rfl (aH rfl) (aK.gn 7 II mixed (aB.n1 2 rfl (gx (aH rfl) Hf OO rfl rfl) (aG.kept (Kept.sT 5 9 170 3 1 rfl rfl rfl rfl (by decide) (Kept.FW 5 12 rfl rfl (Kept.now (aG.r 2 (aB.d3 rfl (iz («as» := []) (aH rfl) eD fz rfl rfl rfl (gQ rfl) rfl rfl) (aB.n3 4 rfl (jT (aH rfl) eD fz rfl rfl (Hp.dd K (aZ [])) (fun _ h => by cases h) rfl rfl (ba Port.cells (fun _ => rfl) _) rfl (by rw [List.length_map]; omega) (by rw [List.length_map]; omega)) ?_)))))))))
 refine aG.kept (Kept.ly rfl (show _ = K.bump 1 (aZ ((dY p x 0).map Port.av)) from (by rw [Hp.oU hf, JC]; exact Hp.ko)) (Kept.now (aG.r 999 ?_)))
 refine aG.lq [.s 6, .b 5, .t 170, .h, .s 2, .b 2, .s 3, .b 3, .s 4, .b 4, .s 5] (fun (i : Nat) => [(.s 6, .sv (.v (.int .i64 (i : Int)))), (.b 5, .bx [.v (.int .i64 6), .v (.int .i64 0), .v (.int .i64 0), .v (.int .i64 0), .v (.int .i64 0), .v (.int .i64 0), .v (.int .i64 0), .v (.int .u64 0), .v (.int .i64 0), .ow 170 ((oQ p x i).map eJ), .v (.int .u64 0), .v (.str []), .v (.sl [])]), (.t 170, .tk false 3 1 ((oQ p x i).map eJ)), (.h, .hp (K.bump 1 (aZ ((dY p x i).map Port.av))))]) (fun (i : Nat) => i ≤ x.names.length) (fun (i : Nat) => x.names.length - i) 0 rfl rfl (Nat.zero_le _) ?_
 rintro i hI
 refine aC (fun hc1 => ?_) (fun hc1 => ?_)
 ·have hi := cz hc1
  refine ⟨rfl, (aF.n1 1 rfl (bP (aH rfl) cY rfl rfl (ca hi) rfl) (aF.d1 rfl (xY (K.next + 1) ((dY p x i).map Port.av) (aH rfl) (Fn rfl) rfl rfl (by first | exact Hp.de | exact Hp.dd _ _) (lE _) (Co (by rw [ga]; simp)) (oH (dY p x i) _ (by rw [ga]; omega)) rfl) ?_))⟩
  refine ⟨by kernel_rfl, ⟨rfl, (aF.n1 1 rfl (bR (aH rfl) cN rfl rfl (by rw [gF]; exact (hg _ (List.getElem_mem hi))) (by have := bV (l := dY p x i) (n := x.names[i]'hi) (by rw [gF]; exact (hg _ (List.getElem_mem hi))); rw [ga] at this; rw [List.length_map]; omega)) ?_)⟩⟩
  refine aF.d1 rfl (da (aH rfl) ib rfl rfl (by first | exact Hp.de | exact Hp.dd _ _) (lE _) rfl (jP (by rw [gF]; exact (hg _ (List.getElem_mem hi)))) rfl) ?_
  refine aF.d3 rfl (aj (aH rfl) cI rfl rfl rfl rfl rfl (by have := @Ce p x i; rw [List.length_map]; simp only [List.length_cons, List.length_nil]; omega) rfl) ?_
  refine ⟨by kernel_rfl, (aB.n1 2 rfl (bR (aH rfl) cN rfl rfl (by rw [gF]; exact (hg _ (List.getElem_mem hi))) (by have := bV (l := dY p x i) (n := x.names[i]'hi) (by rw [gF]; exact (hg _ (List.getElem_mem hi))); rw [ga] at this; rw [List.length_map]; omega)) ?_)⟩
  refine aB.d1 rfl (zV sd rfl rfl (by first | exact Hp.de | exact Hp.dd _ _) rfl rfl (lE _) rfl (jP (by rw [gF]; exact (hg _ (List.getElem_mem hi)))) (aH rfl)) ?_
  exact ⟨Kept.ly rfl Hp.yM (Kept.c6 6 rfl (inc (by omega)) (Kept.az [.s 6, .b 5, .t 38, .h, .s 2, .b 2, .s 3, .b 3, .s 4, .b 4, .s 5] rfl (by decide) (Kept.cO 38 170 (by decide) rfl (Kept.now ⟨i + 1, by omega, by omega, P0 (by rw [Cd (hg _ (List.getElem_mem hi))]; exact zY hi) (zX hi hnd (hg _ (List.getElem_mem hi)))⟩))))⟩
 ·have hi := dA hc1
  refine aB.n3 2 rfl (lK (aH rfl) iT fy rfl rfl (zt hf hK) (fN _) rfl rfl (List.cons_ne_nil _ _) rfl (by rw [List.length_map]; simp only [List.length_cons, List.length_nil]; omega) (by rw [List.length_map]; simp only [List.length_cons, List.length_nil]; omega)) ?_
  refine aG.kept (Kept.GN 2 (K.next + 1) rfl rfl ((mV (by show K.next + 1 < K.next + 1 + 1; omega) (fun m e ho => by have := kg hf hK ho; omega)).trans Hp.de) (lE _) (Nh (p := p) (dY p x i) (by rw [ga]; simp) (fun m e h => by injection h with h1; have : K.next + 2 = K.next + 1 := h1; omega)) (Kept.now (aG.r 999 ?_)))
  have hil : i = x.names.length := (by omega)
  subst hil
  exact ⟨.inr rfl, _, _, ⟨_, (by rw [BG hk]; rfl), (by rw [show (aP p x).ops = p.ops ++ [BE p x] by rw [BG hk]]; have e := @Cf p x; rw [e]; exact Mv.one hf hK (BE p x))⟩, aM.r1 rfl (.cell fj rfl rfl rfl rfl .nil), rfl⟩
theorem eH : ie Tryz.prog 35 = some 7 := by kernel_rfl
theorem fk : lk Tryz.prog 58 = some (false, 1) := by kernel_rfl
theorem Kept.slnil {s : St} {Q : St → Prop} (k i : Nat) {cs : List AV} (hk : get s (.s k) = some (.sv (.v (.agg cs)))) (hi : cs[i]? = some .nsl) (h : Kept ((.s k, .sv (.v (.agg (cs.set i (.sl []))))) :: s) Q) : Kept s Q := fun E N a w ⟨G, L, hr⟩ => by
 have hv : V G (a.tmps.getD k undef) (.agg cs) := hr.slot k (.v (.agg cs)) hk
 refine h E N a w ⟨G, L, hr.re (y := .v (.agg (cs.set i (.sl [])))) ?_⟩
 show V G _ _
 generalize a.tmps.getD k undef = u at hv
 cases hv
 rename_i vs hl hf hv
 refine .agg vs _ (by simpa using hl) (fun j c e => ?_) (fun j c e => ?_)
 ·rw [List.getElem?_set] at e
  split at e
  ·split at e
   ·cases e; rfl
   ·cases e
  ·exact hf j c e
 ·rw [List.getElem?_set] at e
  split at e
  ·rename_i e2
   subst e2
   split at e
   ·cases e
    have := hv i .nsl hi
    generalize vs.getD i undef = u at this
    cases this
    exact V.slE none 0
   ·cases e
  ·exact hv j c e
def fH (all : List aQ) (os : List AV) : List AV := List.zipWith ee all os
theorem gU (all : List aQ) (os : List AV) : ∀ e ∈ fH all os, e.cells.length = 7 := fun e he => by
 obtain ⟨i, hi⟩ := List.mem_iff_getElem?.1 he
 unfold fH at hi
 rw [List.getElem?_zipWith] at hi
 split at hi
 ·cases hi; rfl
 ·cases hi
theorem dm {all : List aQ} {os : List AV} (h : os.length = all.length) : (fH all os).length = all.length := by unfold fH; simp [h]
theorem jH {all : List aQ} {os : List AV} {i : Nat} {p : aQ} {o : AV} (hp : all[i]? = some p) (ho : os[i]? = some o) : (fH all os)[i]? = some (ee p o) := by
 unfold fH; rw [List.getElem?_zipWith, hp, ho]
theorem wR {all : List aQ} {os : List AV} {i : Nat} {p : aQ} {o : AV} : (fH all os).set i (ee p o) = fH (all.set i p) (os.set i o) := by
 unfold fH
 refine List.ext_getElem? fun j => ?_
 simp only [List.getElem?_set, List.getElem?_zipWith, List.length_zipWith]
 by_cases h : i = j
 ·subst h
  simp only [if_true]
  by_cases h1 : i < all.length
  ·by_cases h2 : i < os.length
   ·rw [if_pos (by omega), if_pos h1, if_pos h2]
   ·rw [if_neg (by omega), if_pos h1, if_neg h2]
  ·rw [if_neg (by omega), if_neg h1]
 ·simp only [h, if_false]
theorem De {all : List aQ} {os : List AV} {p : aQ} {o : AV} (h : os.length = all.length) : fH all os ++ [ee p o] = fH (all ++ [p]) (os ++ [o]) := by
 unfold fH; rw [List.zipWith_append h.symm]; rfl
structure LH (H0 K : Hp) (A : Nat) (os : List AV) (all : List aQ) : Prop where
 fin : K.fin
 nx : H0.next ≤ K.next
 old : ∀ i, i < H0.next → K.obj i = H0.obj i
 lo : H0.next ≤ A
 len : os.length = all.length
 row : K.obj A = some (aZ (fH all os))
 ops : ∀ (i : Nat) o p, os[i]? = some o → all[i]? = some p → di K o 13 (p.ops.map al.av)
 ids : ∀ (i : Nat) id n e, os[i]? = some (.os id n e) → H0.next ≤ id ∧ id ≠ A
 dist : ∀ (i j : Nat) id n e n' e', os[i]? = some (.os id n e) → os[j]? = some (.os id n' e') → i = j
section
variable {H0 K K' : Hp} {A i : Nat} {os : List AV} {all : List aQ} {p q : aQ} {o o' : AV} {ops : List al}
theorem LH.alt (I : LH H0 K A os all) : A < K.next := by
 apply Classical.byContradiction
 intro hn
 have := I.row
 rw [I.fin A (by omega)] at this; cases this
theorem LH.vv (I : LH H0 K A os all) {id n e : Nat} (ho : os[i]? = some (.os id n e)) : id < K.next := by
 have hi := (List.getElem?_eq_some_iff.1 ho).1
 have hl := I.len
 exact kg I.fin (I.ops i _ _ ho (List.getElem?_eq_getElem (by omega))) rfl
theorem LH.EM (I : LH H0 K A os all) (ho : os[i]? = some o) (M : Mv K o K' o' ops) : K'.obj A = some (aZ (fH all os)) := by
 rw [M.az A I.alt fun n e h => (I.ids i A n e (h ▸ ho)).2 rfl, I.row]
theorem Mv.Ot (M : Mv K o K' o' ops) {id n e : Nat} (h : o' = .os id n e) : o = .os id n e ∨ K.next ≤ id := by
 rcases M.fresh with h1 | ⟨id2, n2, e2, h1, h2⟩
 ·exact .inl (h1 ▸ h)
 ·rw [h1] at h; cases h; exact .inr h2
theorem LH.Od (I : LH H0 K A os all) (hp : all[i]? = some p) (ho : os[i]? = some o) (M : Mv K o K' o' q.ops) {B : Nat} {L : Hp} (hBf : L.fin) (hB1 : B = A ∨ K'.next ≤ B) (hLn : K'.next ≤ L.next) (hBr : L.obj B = some (aZ (fH (all.set i q) (os.set i o')))) (hLo : ∀ j, j < K'.next → j ≠ B → L.obj j = K'.obj j) : LH H0 L B (os.set i o') (all.set i q) := by
 have hA := I.alt
 have hnx := M.nx
 have hlo := I.lo
 have hB0 : H0.next ≤ B := by have := I.nx; rcases hB1 with h | h <;> omega
 have hget : ∀ (j : Nat) (o2 : AV), (os.set i o')[j]? = some o2 → (j = i ∧ o2 = o') ∨ (j ≠ i ∧ os[j]? = some o2) := fun j o2 h => by
  rw [List.getElem?_set] at h
  split at h
  ·rename_i e
   split at h
   ·cases h; exact .inl ⟨e.symm, rfl⟩
   ·cases h
  ·rename_i e; exact .inr ⟨fun h2 => e h2.symm, h⟩
 have hid : ∀ (j id n e : Nat), (os.set i o')[j]? = some (AV.os id n e) → H0.next ≤ id ∧ id ≠ B ∧ id < K'.next := fun j id n e h => by
  rcases hget j _ h with ⟨rfl, h2⟩ | ⟨hne, h2⟩
  ·have hlt := kg M.fin M.res h2.symm
   rcases M.Ot h2.symm with h3 | h3
   ·rw [h3] at ho
    obtain ⟨q1, q2⟩ := I.ids j id n e ho
    have := I.vv ho
    exact ⟨q1, by rcases hB1 with h | h <;> omega, hlt⟩
   ·have hk : K'.obj A = some (aZ (fH all os)) := I.EM ho M
    exact ⟨by have := I.nx; omega, by rcases hB1 with h | h <;> omega, hlt⟩
  ·obtain ⟨q1, q2⟩ := I.ids j id n e h2
   have := I.vv h2
   exact ⟨q1, by rcases hB1 with h | h <;> omega, by omega⟩
 refine ⟨hBf, by have := I.nx; omega, fun j hj => ?_, hB0, by simp [I.len], hBr, fun j o2 p2 h1 h2 => ?_, fun j id n e h => ⟨(hid j id n e h).1, (hid j id n e h).2.1⟩, fun j k id n e n' e' h1 h2 => ?_⟩
 ·have h1 := I.nx
  rw [hLo j (by omega) (by omega), M.az j (by omega) fun n e h => by have := (I.ids i j n e (h ▸ ho)).1; omega]
  exact I.old j hj
 ·have hlift : ∀ (id n e : Nat), o2 = .os id n e → L.obj id = K'.obj id := fun id n e h => by
   rw [h] at h1
   obtain ⟨_, q2, q3⟩ := hid j id n e h1
   exact hLo id q3 q2
  rcases hget j _ h1 with ⟨rfl, rfl⟩ | ⟨hne, h3⟩
  ·rw [List.getElem?_set] at h2
   simp only [if_true] at h2
   split at h2
   ·cases h2; exact jX M.res hlift
   ·cases h2
  ·rw [List.getElem?_set, if_neg (fun h => hne h.symm)] at h2
   refine jX (I.ops j o2 p2 h3 h2) fun id n e h => ?_
   rw [hlift id n e h]
   rw [h] at h3
   exact M.az id (I.vv h3) fun n2 e2 h4 => hne (I.dist j i id n e n2 e2 h3 (h4 ▸ ho))
 ·rcases hget j _ h1 with ⟨rfl, h3⟩ | ⟨hne, h3⟩ <;> rcases hget k _ h2 with ⟨rfl, h4⟩ | ⟨hne2, h4⟩
  ·rfl
  ·rcases M.Ot h3.symm with h5 | h5
   ·exact absurd (I.dist k j id n' e' n e h4 (h5 ▸ ho)) hne2
   ·have := I.vv h4; omega
  ·rcases M.Ot h4.symm with h5 | h5
   ·exact absurd (I.dist j k id n e n' e' h3 (h5 ▸ ho)) hne
   ·have := I.vv h3; omega
  ·exact I.dist j k id n e n' e' h3 h4
theorem LH.put (I : LH H0 K A os all) (hp : all[i]? = some p) (ho : os[i]? = some o) (M : Mv K o K' o' q.ops) : LH H0 (K'.set A (aZ ((fH all os).set i (ee q o')))) A (os.set i o') (all.set i q) := by
 have hA : A < K'.next := Nat.lt_of_lt_of_le I.alt M.nx
 refine I.Od hp ho M (lA M.fin hA _) (.inl rfl) (Nat.le_refl _) (by rw [wR]; exact Hp.bN) fun j _ hj => ?_
 show (if j = A then _ else K'.obj j) = _
 rw [if_neg hj]
theorem LH.more (I : LH H0 K A os all) {L : Hp} {B : Nat} {w : aQ} (hw : w.ops = []) (hBf : L.fin) (hB : K.next ≤ B) (hLn : K.next ≤ L.next) (hBr : L.obj B = some (aZ (fH (all ++ [w]) (os ++ [AV.nsl])))) (hLo : ∀ j, j < K.next → j ≠ A → L.obj j = K.obj j) : LH H0 L B (os ++ [.nsl]) (all ++ [w]) := by
 have hnx := I.nx
 have hget : ∀ (j : Nat) (o2 : AV), (os ++ [AV.nsl])[j]? = some o2 → os[j]? = some o2 ∨ (j = os.length ∧ o2 = .nsl) := fun j o2 h => by
  rcases Nat.lt_or_ge j os.length with q | q
  ·rw [List.getElem?_append_left q] at h; exact .inl h
  ·rw [List.getElem?_append_right q] at h
   have h2 := (List.getElem?_eq_some_iff.1 h).1
   simp at h2
   have : j - os.length = 0 := by omega
   rw [this] at h
   cases h
   exact .inr ⟨by omega, rfl⟩
 refine ⟨hBf, by omega, fun j hj => by have := I.lo; rw [hLo j (by omega) (by omega), I.old j hj], by have := I.nx; omega, by simp [I.len], hBr, fun j o2 p2 h1 h2 => ?_, fun j id n e h => ?_, fun j k id n e n' e' h1 h2 => ?_⟩
 ·rcases hget j _ h1 with h | ⟨rfl, rfl⟩
  ·have hj := (List.getElem?_eq_some_iff.1 h).1
   rw [List.getElem?_append_left (by have := I.len; omega)] at h2
   exact jX (I.ops j o2 p2 h h2) fun id n e h3 => (by rw [h3] at h; exact hLo id (I.vv h) (I.ids j id n e h).2)
  ·rw [I.len, List.getElem?_append_right (Nat.le_refl _), Nat.sub_self] at h2
   cases h2
   exact .inl ⟨rfl, by rw [hw]; rfl⟩
 ·rcases hget j _ h with h | ⟨_, h⟩
  ·have := I.vv h
   exact ⟨(I.ids j id n e h).1, by omega⟩
  ·cases h
 ·rcases hget j _ h1 with h | ⟨_, h⟩
  ·rcases hget k _ h2 with h' | ⟨_, h'⟩
   ·exact I.dist j k id n e n' e' h h'
   ·cases h'
  ·cases h
end
theorem three {K : Hp} (hf : K.fin) {a b c : List Hc} : ((((K.new a).del K.next).new b).del (K.next + 1)).new c = K.bump 2 c := by
 rw [Hp.oU hf, show ((K.bump 0 a).del K.next).new b = K.bump 1 b from Hp.ko]
 exact Hp.ko
theorem Bn {all : List aQ} {os : List AV} (h : os.length = all.length) {i : Nat} (hi : i < all.length) : (fH all os)[i]? = some (ee (all.getD i bS) (os.getD i .nsl)) :=
 jH (by rw [List.getD_eq_getElem?_getD, List.getElem?_eq_getElem hi]; rfl) (by rw [List.getD_eq_getElem?_getD, List.getElem?_eq_getElem (by omega)]; rfl)
theorem C3 {l : List Port} (h : l ≠ []) : (l.map Port.av)[(0 : Int).toNat]? = some (.agg (l.headD ft).cells) := by
 cases l with
 | nil => exact absurd rfl h
 | cons a l => rfl
theorem LH.Oc {H0 K : Hp} {A i : Nat} {os : List AV} {all : List aQ} {p q w : aQ} {o o' : AV} (I : LH H0 K A os all) (hp : all[i]? = some p) (ho : os[i]? = some o) {K1 : Hp} (M : Mv K o K1 o' q.ops) (hw : w.ops = []) :
  LH H0 ((K1.bump 2 (aZ (fH (all ++ [w]) (os ++ [AV.nsl])))).set (K1.next + 2) (aZ ((fH (all ++ [w]) (os ++ [AV.nsl])).set i (ee q o')))) (K1.next + 2) ((os ++ [AV.nsl]).set i o') ((all ++ [w]).set i q) := by
 have hi := (List.getElem?_eq_some_iff.1 hp).1
 have hl := I.len
 have J := I.put hp ho M
 have e1 : (os ++ [AV.nsl]).set i o' = os.set i o' ++ [.nsl] := List.set_append_left _ _ (by omega)
 have e2 : (all ++ [w]).set i q = all.set i q ++ [w] := List.set_append_left _ _ hi
 have hz : (fH (all ++ [w]) (os ++ [AV.nsl])).set i (ee q o') = fH (all.set i q ++ [w]) (os.set i o' ++ [.nsl]) := by rw [wR, e1, e2]
 rw [e1, e2]
 have hn : (K1.bump 2 (aZ (fH (all ++ [w]) (os ++ [AV.nsl])))).next = K1.next + 3 := rfl
 refine J.more hw (lA (tP _ _) (by rw [hn]; omega) _) (show K1.next ≤ K1.next + 2 by omega) (show K1.next ≤ K1.next + 3 by omega) (by rw [hz]; exact Hp.bN) fun j hj hA => ?_
 have hj' : j < K1.next := hj
 show (if j = K1.next + 2 then _ else (K1.bump 2 _).obj j) = if j = A then _ else K1.obj j
 rw [if_neg (by omega), if_neg hA, Hp.mS hj']
theorem LH.Ob {H0 K K' : Hp} {A i : Nat} {os : List AV} {all : List aQ} {p q : aQ} {o o' : AV} {ops : List al} (I : LH H0 K A os all) (hp : all[i]? = some p) (ho : os[i]? = some o) (M : Mv K o K' o' ops) (hq : q.ops = ops) : LH H0 (K'.set A (aZ ((fH all os).set i (ee q o')))) A (os.set i o') (all.set i q) := by
 subst hq; exact I.put hp ho M
theorem LH.NL {H0 K : Hp} {A i : Nat} {os : List AV} {all : List aQ} {p q w : aQ} {o o' : AV} {ops : List al} (I : LH H0 K A os all) (hp : all[i]? = some p) (ho : os[i]? = some o) {K1 : Hp} (M : Mv K o K1 o' ops) (hw : w.ops = []) (hq : q.ops = ops) :
  LH H0 ((K1.bump 2 (aZ (fH (all ++ [w]) (os ++ [AV.nsl])))).set (K1.next + 2) (aZ ((fH (all ++ [w]) (os ++ [AV.nsl])).set i (ee q o')))) (K1.next + 2) ((os ++ [AV.nsl]).set i o') ((all ++ [w]).set i q) := by
 subst hq; exact I.Oc hp ho M hw
def OA (H0 : Hp) (all : List aQ) (r : AV) (K' : Hp) : Prop := ∃ A os, r = .os A all.length 7 ∧ LH H0 K' A os all
def x4 (f : Port) (n : Int) (k : Nat) : al := { jb with kind := 4, a := f.reg, b := n, part := k }
def qt (f : Port) (n : Int) : al := { jb with kind := 5, a := f.reg, b := n, part := f.part }
def N3 (f : Port) (x : aS) : aQ := bT { bS with name := x.dest, born := true, aE := 1, ins := [{ f with reg := 0 }], outs := [{ f with reg := 0 }] }
def N4 (x : aS) (n : Int) (k : Nat) : Port := ⟨{ eY with name := x.also, num := x.num, ty := 15, ref := x.dest }, n, k⟩
def Jy (p : aQ) (x : aS) (all : List aQ) : aQ := { p with ops := p.ops ++ [x4 (aJ p.outs x.field) p.aE all.length], aE := p.aE + 1, outs := bb (aR p.outs x.field) (N4 x p.aE all.length) }
def Jx (p : aQ) (x : aS) (all : List aQ) : aQ := { p with ops := p.ops ++ [qt (aJ p.outs x.field) p.aE], aE := p.aE + 1, outs := bb (aR p.outs x.field) { ((all.getD (aJ p.outs x.field).part.toNat bS).outs.headD ft) with reg := p.aE } }
theorem Gt {all : List aQ} {i : Nat} {x : aS} {p : aQ} (hp : all[i]? = some p) (h : x.kind = 6) : au all i x = (all ++ [N3 (aJ p.outs x.field) x]).set i (Jy p x all) := by
 have hg : all.getD i bS = p := by rw [List.getD_eq_getElem?_getD, hp]; rfl
 unfold au
 dsimp only
 rw [hg, if_pos h]; rfl
theorem Gs {all : List aQ} {i : Nat} {x : aS} {p : aQ} (hp : all[i]? = some p) (h : x.kind = 7) : au all i x = all.set i (Jx p x all) := by
 have hg : all.getD i bS = p := by rw [List.getD_eq_getElem?_getD, hp]; rfl
 unfold au
 dsimp only
 rw [hg, if_neg (by omega), if_pos h]; rfl
theorem Gq {all : List aQ} {i : Nat} {x : aS} {p : aQ} (hp : all[i]? = some p) (h6 : x.kind ≠ 6) (h7 : x.kind ≠ 7) : au all i x = all.set i (aP p x) := by
 have hg : all.getD i bS = p := by rw [List.getD_eq_getElem?_getD, hp]; rfl
 unfold au
 dsimp only
 rw [hg, if_neg h6, if_neg h7]
theorem xC (H0 K : Hp) (A : Nat) (os : List AV) (all : List aQ) (at_ : Nat) (x : aS) (p : aQ) (o : AV) (I : LH H0 K A os all) (hp : all[at_]? = some p) (ho : os[at_]? = some o) (hal : all.length ≤ 100) (hl : p.ops.length ≤ 1000) (hou : p.outs.length ≤ 100) (hr : 0 ≤ p.aE ∧ p.aE ≤ 1000) (hk : x.kind = 6 ∨ x.kind = 7) (h7 : x.kind = 7 → 0 ≤ (aJ p.outs x.field).part ∧ (aJ p.outs x.field).part < (all.length : Int) ∧ (all.getD (aJ p.outs x.field).part.toNat bS).outs ≠ []) : iL Tryz.prog 77 [.os A all.length 7, .int .i64 (at_ : Int), x.av, (aJ p.outs x.field).av] K (OA H0 (au all at_ x)) := by
 have hat := (List.getElem?_eq_some_iff.1 hp).1
 have hln := I.len
 refine iL.ah Tryz.func77 rfl rfl (aH rfl) (aK.seq (aK.region (aD.run II 3 rfl (aD.nil (aK.seq (aK.region (aD.run II 2 rfl (aD.c1 rfl (bR (aH rfl) eH rfl rfl (Int.natCast_nonneg _) (by omega)) (aD.c1 rfl (eE (aH rfl) fj rfl rfl I.row (gU _ _) rfl (jH hp ho)) (aD.run II 2 rfl (aD.nil (aK.seq (aK.region (aD.run II 3 rfl (aD.nil (aK.seq (aK.region (aD.run II 1 rfl ?_))))))))))))))))))
 refine aD.c1 rfl (iU (aH rfl) rfl rfl (AS (by omega) (by omega))) (aD.run II 2 rfl (aD.nil (aK.seq (aK.region (aD.run II 4 rfl (aD.c1 rfl (aX (aH rfl) (Fn rfl) rfl (jN _ _ (by omega))) (aD.run II 2 rfl (aD.nil (aK.seq (aK.seq (aK.region (aD.run II 3 rfl (aD.nil (aK.cond rfl (fun hc1 => ?_) (fun hc1 => ?_)))))))))))))))
 ·refine aK.seq (aK.region (aD.run II 3 rfl (aD.nil (aK.seq (aK.region (aD.run II 2 rfl (aD.nil (aK.seq (aK.region (aD.run II 6 rfl (aD.c1 rfl (gx (aH rfl) Ab Ms rfl rfl) (aD.cy (Kept.slnil 41 5 rfl rfl (Kept.now (aD.c1 rfl (aX (aH rfl) (Fn rfl) rfl (zO { bS with name := x.dest, born := true, aE := 1, ins := [{ (aJ p.outs x.field) with reg := 0 }], outs := [{ (aJ p.outs x.field) with reg := 0 }] } (.nsl) (by show 1 ≤ 1000; decide) (by show 0 ≤ 100000; decide))) ?_)))))))))))))))
  refine aD.run II 2 rfl (aD.nil (aK.seq (aK.region (aD.run II 9 rfl (aD.c3 rfl (lK (aH rfl) iT fy rfl rfl (I.ops _ _ _ ho hp) (fN _) rfl rfl (List.cons_ne_nil _ _) rfl (by rw [List.length_map]; simp only [List.length_cons, List.length_nil]; omega) (by rw [List.length_map]; simp only [List.length_cons, List.length_nil]; omega)) ?_)))))
  refine aD.run II 2 rfl (aD.nil (aK.seq (aK.region (aD.run II 5 rfl (aD.c1 rfl (aX (aH rfl) (Fn rfl) rfl (oI _ _ _ _)) (aD.run II 2 rfl (aD.nil (aK.seq (aK.region (aD.run II 9 rfl (aD.nil (aK.seq (aK.region (aD.run II 3 rfl (aD.c1 rfl (aX (aH rfl) (Fn rfl) rfl (iw (aR p.outs x.field) (N4 x p.aE all.length) (by have := bQ p.outs x.field; omega))) ?_)))))))))))))))
  refine aD.run II 2 rfl (aD.nil (aK.seq (aK.drawn mixed rfl (aY.c3 rfl (iz («as» := []) (aH rfl) nN ku rfl rfl rfl (gQ rfl) rfl rfl) (aY.run II 1 rfl (aY.c3 rfl (JA (aH rfl) nN ku rfl rfl (Hp.dd _ (aZ [])) (fun _ h => by cases h) rfl rfl ((Hp.cr _ _ (by rw [mo]; have := I.alt; omega)).trans (I.EM ho (Mv.app I.fin (x4 (aJ p.outs x.field) p.aE all.length)))) (gU _ _) (dm hln) rfl (by rw [dm hln]; omega) (by rw [dm hln]; omega)) ?_))))))
  refine aY.run II 2 rfl (aY.c3 rfl (jT (aH rfl) nN ku rfl rfl (Hp.dd _ _) (gU _ _) (by simp) rfl rfl rfl (by rw [dm hln]; simp only [List.length_cons, List.length_nil]; omega) (by rw [dm hln]; simp only [List.length_cons, List.length_nil]; omega)) ?_)
  refine aY.run II 1 rfl (aY.nil (by kernel_rfl) (Kept.now (aK.seq (aK.cy (Kept.ly rfl (show _ = (kM K o (aZ (p.ops.map al.av ++ [(x4 (aJ p.outs x.field) p.aE all.length).av]))).bump 2 (aZ (fH (all ++ [N3 (aJ p.outs x.field) x]) (os ++ [.nsl]))) from (three (tU I.fin _ _)).trans (congrArg _ (congrArg aZ (De hln)))) (Kept.now (aK.region (aD.run II 3 rfl (aD.c1 rfl (bR (aH rfl) eH rfl rfl (Int.natCast_nonneg _) (by rw [dm hln]; simp only [List.length_cons, List.length_nil]; omega)) ?_)))))))))
  refine aD.c1 rfl (lI fj rfl rfl Hp.de rfl (gU _ _) rfl (by rw [dm (by simp [hln])]; simp; omega) rfl) ?_
  exact aD.nil (aK.seq (aK.region (aD.run II 2 rfl (aD.nil (aK.ret (⟨.inr rfl, _, _, ⟨(kM K o (aZ (p.ops.map al.av ++ [(x4 (aJ p.outs x.field) p.aE all.length).av]))).next + 2, (os ++ [AV.nsl]).set at_ (.os K.next ((p.ops.map al.av).length + 1) 13), (by rw [Gt hp (by simpa using hc1), List.length_set, List.length_append, dm hln, Nat.zero_add all.length]; rfl), (by rw [Gt hp (by simpa using hc1)]; exact I.NL (q := Jy p x all) hp ho (Mv.app I.fin (x4 (aJ p.outs x.field) p.aE all.length)) rfl rfl)⟩, aM.r1 rfl (.tmp rfl .nil), rfl⟩))))))
 ·refine aK.skip (aK.seq (aK.region (aD.run II 9 rfl (aD.c3 rfl (lK (aH rfl) iT fy rfl rfl (I.ops _ _ _ ho hp) (fN _) rfl rfl (List.cons_ne_nil _ _) rfl (by rw [List.length_map]; simp only [List.length_cons, List.length_nil]; omega) (by rw [List.length_map]; simp only [List.length_cons, List.length_nil]; omega)) ?_))))
  refine aD.run II 2 rfl (aD.nil (aK.seq (aK.region (aD.run II 3 rfl (aD.c1 rfl (bR (aH rfl) eH rfl rfl (h7 (by have : x.kind ≠ 6 := (by simpa using hc1); omega)).1 (h7 (by have : x.kind ≠ 6 := (by simpa using hc1); omega)).2.1) ?_)))))
  refine aD.run II 1 rfl (aD.c1 rfl (da (aH rfl) fk rfl rfl (I.EM ho (Mv.app I.fin (qt (aJ p.outs x.field) p.aE))) (gU _ _) rfl (Bn hln (by have := (h7 (by have : x.kind ≠ 6 := (by simpa using hc1); omega)).2.1; have := (h7 (by have : x.kind ≠ 6 := (by simpa using hc1); omega)).1; omega)) rfl) ?_)
  refine aD.c1 rfl (ak (aH rfl) cN rfl rfl (by decide) (C3 (h7 (by have : x.kind ≠ 6 := (by simpa using hc1); omega)).2.2) rfl) ?_
  refine aD.run II 3 rfl (aD.nil (aK.seq (aK.region (aD.run II 3 rfl (aD.nil (aK.seq (aK.region (aD.run II 3 rfl (aD.c1 rfl (aX (aH rfl) (Fn rfl) rfl (iw (aR p.outs x.field) { (all.getD (aJ p.outs x.field).part.toNat bS).outs.headD ft with reg := p.aE } (by have := bQ p.outs x.field; omega))) ?_)))))))))
  refine aD.run II 2 rfl (aD.nil (aK.seq (aK.region (aD.run II 3 rfl (aD.c1 rfl (bR (aH rfl) eH rfl rfl (Int.natCast_nonneg _) (by omega)) (aD.c1 rfl (lI fj rfl rfl (I.EM ho (Mv.app I.fin (qt (aJ p.outs x.field) p.aE))) rfl (gU _ _) rfl (by rw [dm hln]; exact hat) rfl) ?_))))))
  exact aD.nil (aK.seq (aK.region (aD.run II 2 rfl (aD.nil (aK.ret (⟨.inr rfl, _, _, ⟨A, os.set at_ (.os K.next ((p.ops.map al.av).length + 1) 13), (by rw [Gs hp (by have : x.kind ≠ 6 := (by simpa using hc1); omega), List.length_set]), (by rw [Gs hp (by have : x.kind ≠ 6 := (by simpa using hc1); omega)]; exact I.Ob (q := Jx p x all) hp ho (Mv.app I.fin (qt (aJ p.outs x.field) p.aE)) rfl)⟩, aM.r1 rfl (.tmp rfl .nil), rfl⟩))))))
def BD (x : aS) (n : Int) : al := { jb with kind := 7, a := n, dv := x.dv }
theorem BF {p : aQ} {x : aS} (h : x.kind = 9) : aP p x = { p with ops := p.ops ++ [BD x p.aE], aE := p.aE + 1, outs := bb p.outs (dV x.field x.num x.ty p.aE) } := by unfold aP; simp [h, BD]
theorem vj {p : aQ} {x : aS} (h : x.kind = 10) : aP p x = { p with outs := aR p.outs x.field } := by unfold aP; simp [h]
theorem IB (H0 K : Hp) (A : Nat) (os : List AV) (all : List aQ) (at_ : Nat) (x : aS) (p : aQ) (o : AV) (I : LH H0 K A os all) (hp : all[at_]? = some p) (ho : os[at_]? = some o) (hal : all.length ≤ 100) (hl : p.ops.length ≤ 1000) (hou : p.outs.length ≤ 100) (hr : 0 ≤ p.aE ∧ p.aE ≤ 1000) (hk : 1 ≤ x.kind ∧ x.kind ≤ 10) (hn : x.names.length ≤ 1000) (h5 : x.kind = 5 → 0 ≤ bl (aR p.outs x.field) x.also) (h7 : x.kind = 7 → 0 ≤ (aJ p.outs x.field).part ∧ (aJ p.outs x.field).part < (all.length : Int) ∧ (all.getD (aJ p.outs x.field).part.toNat bS).outs ≠ []) (h8 : x.kind = 8 → (p.outs.map fun y => y.f.name).Nodup ∧ ∀ n ∈ x.names, 0 ≤ bl p.outs n) : iL Tryz.prog 42 [.os A all.length 7, .int .i64 (at_ : Int), x.av] K (OA H0 (au all at_ x)) := by
 have hat := (List.getElem?_eq_some_iff.1 hp).1
 have hln := I.len
 refine iL.ah Tryz.func42 rfl rfl (aH rfl) (aK.go II mixed (aB.n1 0 rfl (bR (aH rfl) eH rfl rfl (Int.natCast_nonneg _) (by omega)) (aB.n1 7 rfl (eE (aH rfl) fj rfl rfl I.row (gU _ _) rfl (jH hp ho)) (aG.jn 999 0 [.h, .s 0, .s 1, .s 5, .b 5, .s 7, .b 7] (fun (_ : Unit) => [(.s 8, .sv (.lp 8 0)), (.b 8, .bx [.v (.str (aJ p.outs x.field).f.name), .v (.int .i64 (aJ p.outs x.field).f.num), .v (.int .i64 (aJ p.outs x.field).f.ty), .v (.str (aJ p.outs x.field).f.ref), .v (.bool (aJ p.outs x.field).f.rep), .v (.bool (aJ p.outs x.field).f.loose), .v (.str (aJ p.outs x.field).f.one), .v (.int .i64 (aJ p.outs x.field).reg), .v (.int .i64 (aJ p.outs x.field).part)])]) (fun (_ : Unit) => True) rfl ?_ ?_))))
 ·refine aB.jc rfl (Fn rfl) rfl (oH _ _ (by omega)) (aC (fun hc1 => ?_) (fun hc1 => ?_))
  ·exact aB.d1 rfl (ak (aH rfl) cN rfl rfl (of_decide_eq_true hc1) (jP (of_decide_eq_true hc1)) rfl) (.bc [.s 8, .b 8, .h, .s 0, .s 1, .s 5, .b 5, .s 7, .b 7] rfl ⟨(), trivial, rfl⟩)
  ·exact .bc [.s 8, .b 8, .h, .s 0, .s 1, .s 5, .b 5, .s 7, .b 7] rfl ⟨(), trivial, by rw [C4 (of_decide_eq_false hc1)]; rfl⟩
 ·rintro _ hF6
  refine aG.jn 999 999 [.s 0, .s 1] (fun ((o1, K1) : AV × Hp) => [(.s 7, .sv (.lp 7 0)), (.b 7, .bx [.v (.str (aP p x).name), .v (.sl ((aP p x).ins.map Port.av)), .v o1, .v (.sl ((aP p x).outs.map Port.av)), .v (.int .i64 (aP p x).aE), .v (.sl ((aP p x).fB.map eJ)), .v (.bool (aP p x).born)]), (.h, .hp K1)]) (fun ((o1, K1) : AV × Hp) => Mv K o K1 o1 (aP p x).ops ∧ x.kind ≠ 6 ∧ x.kind ≠ 7) rfl ?_ ?_
  ·refine aC (fun hc2 => ?_) (fun hc2 => ?_)
   ·refine aB.cq 999 (aH rfl) (Fn rfl) rfl rfl (rz p o x K I.fin (I.ops _ _ _ ho hp) hl hou (.inl (by simpa using hc2))) (fun r1 K1 hP1 => ?_)
    obtain ⟨o1, rfl, hM⟩ := hP1
    exact .bc [.s 7, .b 7, .h, .s 0, .s 1] rfl ⟨(o1, _), ⟨hM, by have : x.kind = 1 := (by simpa using hc2); omega, by have : x.kind = 1 := (by simpa using hc2); omega⟩, rfl⟩
   ·refine aC (fun hc3 => ?_) (fun hc3 => ?_)
    ·refine aB.cq 999 (aH rfl) (Fn rfl) rfl rfl (rz p o x K I.fin (I.ops _ _ _ ho hp) hl hou (.inr (.inl (by simpa using hc3)))) (fun r2 K2 hP2 => ?_)
     obtain ⟨o1, rfl, hM⟩ := hP2
     exact .bc [.s 7, .b 7, .h, .s 0, .s 1] rfl ⟨(o1, _), ⟨hM, by have : x.kind = 2 := (by simpa using hc3); omega, by have : x.kind = 2 := (by simpa using hc3); omega⟩, rfl⟩
    ·refine aC (fun hc4 => ?_) (fun hc4 => ?_)
     ·refine aB.cq 999 (aH rfl) (Fn rfl) rfl rfl (rz p o x K I.fin (I.ops _ _ _ ho hp) hl hou (.inr (.inr (by simpa using hc4)))) (fun r3 K3 hP3 => ?_)
      obtain ⟨o1, rfl, hM⟩ := hP3
      exact .bc [.s 7, .b 7, .h, .s 0, .s 1] rfl ⟨(o1, _), ⟨hM, by have : x.kind = 3 := (by simpa using hc4); omega, by have : x.kind = 3 := (by simpa using hc4); omega⟩, rfl⟩
     ·refine aC (fun hc5 => ?_) (fun hc5 => ?_)
      ·refine aB.cq 999 (aH rfl) (Fn rfl) rfl rfl (rv p o x K I.fin (I.ops _ _ _ ho hp) hl hou hr (.inl (by simpa using hc5)) h5) (fun r4 K4 hP4 => ?_)
       obtain ⟨o1, rfl, hM⟩ := hP4
       exact .bc [.s 7, .b 7, .h, .s 0, .s 1] rfl ⟨(o1, _), ⟨hM, by have : x.kind = 4 := (by simpa using hc5); omega, by have : x.kind = 4 := (by simpa using hc5); omega⟩, rfl⟩
      ·refine aC (fun hc6 => ?_) (fun hc6 => ?_)
       ·refine aB.cq 999 (aH rfl) (Fn rfl) rfl rfl (rv p o x K I.fin (I.ops _ _ _ ho hp) hl hou hr (.inr (by simpa using hc6)) h5) (fun r5 K5 hP5 => ?_)
        obtain ⟨o1, rfl, hM⟩ := hP5
        exact .bc [.s 7, .b 7, .h, .s 0, .s 1] rfl ⟨(o1, _), ⟨hM, by have : x.kind = 5 := (by simpa using hc6); omega, by have : x.kind = 5 := (by simpa using hc6); omega⟩, rfl⟩
       ·refine aC (fun hc7 => ?_) (fun hc7 => ?_)
        ·refine aB.cq 999 (aH rfl) (Fn rfl) rfl rfl (xC H0 K A os all at_ x p o I hp ho hal hl hou hr (.inl (by simpa using hc7)) h7) (fun r6 K6 hP6 => ?_)
         obtain ⟨A1, C7, rfl, hL⟩ := hP6
         exact ⟨.inr rfl, _, _, ⟨A1, C7, rfl, hL⟩, aM.r1 rfl (.tmp rfl .nil), rfl⟩
        ·refine aC (fun hc8 => ?_) (fun hc8 => ?_)
         ·refine aB.cq 999 (aH rfl) (Fn rfl) rfl rfl (xC H0 K A os all at_ x p o I hp ho hal hl hou hr (.inr (by simpa using hc8)) h7) (fun r7 K7 hP7 => ?_)
          obtain ⟨A1, C7, rfl, hL⟩ := hP7
          exact ⟨.inr rfl, _, _, ⟨A1, C7, rfl, hL⟩, aM.r1 rfl (.tmp rfl .nil), rfl⟩
         ·refine aC (fun hc9 => ?_) (fun hc9 => ?_)
          ·refine aB.cq 999 (aH rfl) (Fn rfl) rfl rfl (EZ p o x K I.fin (I.ops _ _ _ ho hp) hl hou hn (by simpa using hc9) (h8 (by simpa using hc9)).1 (h8 (by simpa using hc9)).2) (fun r8 K8 hP8 => ?_)
           obtain ⟨o1, rfl, hM⟩ := hP8
           exact .bc [.s 7, .b 7, .h, .s 0, .s 1] rfl ⟨(o1, _), ⟨hM, by have : x.kind = 8 := (by simpa using hc9); omega, by have : x.kind = 8 := (by simpa using hc9); omega⟩, rfl⟩
          ·refine aC (fun hc10 => ?_) (fun hc10 => ?_)
           ·refine aB.n3 5 rfl (lK (aH rfl) iT fy rfl rfl (I.ops _ _ _ ho hp) (fN _) rfl rfl (List.cons_ne_nil _ _) rfl (by rw [List.length_map]; simp only [List.length_cons, List.length_nil]; omega) (by rw [List.length_map]; simp only [List.length_cons, List.length_nil]; omega)) ?_
            exact aB.d1 rfl (iU (aH rfl) rfl rfl (AS (by omega) (by omega))) (⟨rfl, (aF.d1 rfl (aX (aH rfl) (Fn rfl) rfl (oI _ _ _ _)) (aF.d1 rfl (aX (aH rfl) (Fn rfl) rfl (iw p.outs (dV x.field x.num x.ty p.aE) (by omega))) (⟨by kernel_rfl, ⟨Kept.az [.s 7, .b 7, .h, .s 0, .s 1] rfl (by decide) (Kept.now ⟨(.os K.next ((p.ops.map al.av).length + 1) 13, kM K o (aZ (p.ops.map al.av ++ [(BD x p.aE).av]))), ⟨by rw [BF (by simpa using hc10)]; exact Mv.app I.fin (BD x p.aE), by have : x.kind = 9 := (by simpa using hc10); omega, by have : x.kind = 9 := (by simpa using hc10); omega⟩, by rw [BF (by simpa using hc10)]; rfl⟩)⟩⟩)))⟩)
           ·exact aB.jc rfl (Fn rfl) rfl (jN _ _ (by omega)) (.bc [.s 7, .b 7, .h, .s 0, .s 1] rfl ⟨(o, K), ⟨by rw [vj (show x.kind = 10 by have a1 : x.kind ≠ 1 := (by simpa using hc2); have a2 : x.kind ≠ 2 := (by simpa using hc3); have a3 : x.kind ≠ 3 := (by simpa using hc4); have a4 : x.kind ≠ 4 := (by simpa using hc5); have a5 : x.kind ≠ 5 := (by simpa using hc6); have a6 : x.kind ≠ 6 := (by simpa using hc7); have a7 : x.kind ≠ 7 := (by simpa using hc8); have a8 : x.kind ≠ 8 := (by simpa using hc9); have a9 : x.kind ≠ 9 := (by simpa using hc10); omega)]; exact Mv.same I.fin (show di K o 13 (p.ops.map al.av) from I.ops _ _ _ ho hp), by have := (show x.kind = 10 by have a1 : x.kind ≠ 1 := (by simpa using hc2); have a2 : x.kind ≠ 2 := (by simpa using hc3); have a3 : x.kind ≠ 3 := (by simpa using hc4); have a4 : x.kind ≠ 4 := (by simpa using hc5); have a5 : x.kind ≠ 5 := (by simpa using hc6); have a6 : x.kind ≠ 6 := (by simpa using hc7); have a7 : x.kind ≠ 7 := (by simpa using hc8); have a8 : x.kind ≠ 8 := (by simpa using hc9); have a9 : x.kind ≠ 9 := (by simpa using hc10); omega); omega, by have := (show x.kind = 10 by have a1 : x.kind ≠ 1 := (by simpa using hc2); have a2 : x.kind ≠ 2 := (by simpa using hc3); have a3 : x.kind ≠ 3 := (by simpa using hc4); have a4 : x.kind ≠ 4 := (by simpa using hc5); have a5 : x.kind ≠ 5 := (by simpa using hc6); have a6 : x.kind ≠ 6 := (by simpa using hc7); have a7 : x.kind ≠ 7 := (by simpa using hc8); have a8 : x.kind ≠ 8 := (by simpa using hc9); have a9 : x.kind ≠ 9 := (by simpa using hc10); omega); omega⟩, by rw [vj (show x.kind = 10 by have a1 : x.kind ≠ 1 := (by simpa using hc2); have a2 : x.kind ≠ 2 := (by simpa using hc3); have a3 : x.kind ≠ 3 := (by simpa using hc4); have a4 : x.kind ≠ 4 := (by simpa using hc5); have a5 : x.kind ≠ 5 := (by simpa using hc6); have a6 : x.kind ≠ 6 := (by simpa using hc7); have a7 : x.kind ≠ 7 := (by simpa using hc8); have a8 : x.kind ≠ 8 := (by simpa using hc9); have a9 : x.kind ≠ 9 := (by simpa using hc10); omega)]; rfl⟩)
  ·rintro ⟨o1, K1⟩ hF25
   refine aB.n1 0 rfl (bR (aH rfl) eH rfl rfl (Int.natCast_nonneg _) (by omega)) (aB.d1 rfl (lI fj rfl rfl (I.EM ho hF25.1) rfl (gU _ _) rfl (by rw [dm hln]; exact hat) rfl) ?_)
   exact ⟨.inr rfl, _, _, ⟨A, os.set at_ o1, (by rw [Gq hp hF25.2.1 hF25.2.2, List.length_set]), (by rw [Gq hp hF25.2.1 hF25.2.2]; exact I.put (q := aP p x) hp ho hF25.1)⟩, aM.r1 rfl (.tmp rfl .nil), rfl⟩
open Go Go.RowKit
structure cS (names : List aw) (aE : Int) (l : List Port) : Prop where
 reg : ∀ x ∈ l, 0 ≤ x.reg ∧ x.reg < aE
 dist : (l.map (·.reg)).Nodup
 part : ∀ x ∈ l, (x.f.ty = 15 → ∃ j : Nat, x.part = (j : Int) ∧ names[j]? = some x.f.ref) ∧ (x.f.ty ≠ 15 → x.part = -1)
theorem Fit.bX {names : List aw} {p : aQ} {m : aU} (h : Fit names p m) : cS names p.aE p.outs := ⟨h.reg, h.dist, h.part⟩
theorem cS.fit {names : List aw} {p : aQ} {m : aU} (h : cS names p.aE p.outs) (hr : 0 ≤ p.aE) (ho : p.outs.map (·.f) = m.fields) : Fit names p m := ⟨hr, ho, h.reg, h.dist, h.part⟩
section
variable {names : List aw} {aE : Int} {l : List Port}
theorem cS.mono {regs' : Int} (h : cS names aE l) (hr : aE ≤ regs') : cS names regs' l := ⟨fun x hx => by have := h.reg x hx; omega, h.dist, h.part⟩
theorem cS.fV (h : cS names aE l) (n : aw) : cS names aE (aR l n) := by
 have hs : ∀ x ∈ aR l n, x ∈ l := fun x hx => (List.mem_filter.1 hx).1
 exact ⟨fun x hx => h.reg x (hs x hx), (List.Sublist.map _ List.filter_sublist).nodup h.dist, fun x hx => h.part x (hs x hx)⟩
theorem cS.with (h : cS names aE l) {x : Port} (h1 : 0 ≤ x.reg ∧ x.reg < aE) (h2 : x.reg ∉ l.map (·.reg)) (h3 : (x.f.ty = 15 → ∃ j : Nat, x.part = (j : Int) ∧ names[j]? = some x.f.ref) ∧ (x.f.ty ≠ 15 → x.part = -1)) : cS names aE (bb l x) := by
 refine ⟨fun y hy => ?_, ?_, fun y hy => ?_⟩
 ·rcases pC hy with rfl | hy
  ·exact h1
  ·exact h.reg y hy
 ·rw [((yh l x).map _).nodup_iff]
  exact List.nodup_cons.2 ⟨h2, h.dist⟩
 ·rcases pC hy with rfl | hy
  ·exact h3
  ·exact h.part y hy
theorem cS.new (h : cS names aE l) {n : Int} (hn : aE ≤ n) : n ∉ l.map (·.reg) := by
 intro hx
 obtain ⟨y, hy, e⟩ := List.mem_map.1 hx
 have := h.reg y hy
 omega
theorem cS.back (h : cS names aE l) (hu : (l.map (fun x => x.f.name)).Nodup) {f : Port} (hf : f ∈ l) : f.reg ∉ (aR l f.f.name).map (·.reg) := by
 intro hx
 obtain ⟨y, hy, e⟩ := List.mem_map.1 hx
 obtain ⟨hy1, hy2⟩ := List.mem_filter.1 hy
 obtain ⟨i, hi⟩ := List.mem_iff_getElem?.1 hy1
 obtain ⟨j, hj⟩ := List.mem_iff_getElem?.1 hf
 have hi' := (List.getElem?_eq_some_iff.1 hi)
 have hj' := (List.getElem?_eq_some_iff.1 hj)
 obtain ⟨hil, rfl⟩ := hi'
 obtain ⟨hjl, rfl⟩ := hj'
 have hp : l.Pairwise fun a b => a.reg ≠ b.reg := List.pairwise_map.1 h.dist
 by_cases hij : i = j
 ·subst hij; simp at hy2
 ·rcases Nat.lt_or_gt_of_ne hij with q | q
  ·exact List.pairwise_iff_getElem.1 hp i j hil hjl q e
  ·exact List.pairwise_iff_getElem.1 hp j i hjl hil q e.symm
end
theorem iq (l : List ae) : bE l [] = l := by
 unfold bE
 exact List.filter_eq_self.2 fun a _ => by simp
theorem gA (l : List ae) (n : aw) : bE l [n] = l.filter fun f => !(f.name == n) := by
 unfold bE
 congr 1
 funext f
 simp
theorem ux (l : List ae) (n k : aw) : bE l [n, k] = (l.filter fun f => !(f.name == n)).filter fun f => !(f.name == k) := by
 unfold bE
 rw [List.filter_filter]
 congr 1
 funext f
 simp [Bool.and_comm]
theorem iJ {l base : List ae} {x : ae} (hb : dP (·.num) base) (hp : l.Perm (x :: base)) (hs : dP (·.num) (bO (fun y x : ae => decide (y.num > x.num)) l)) :
  bO (fun y x : ae => decide (y.num > x.num)) l = ct (fun y : ae => decide (y.num > x.num)) x base := by
 have hn : l.Pairwise fun a b => a.num ≠ b.num := ((iG _ l).pairwise_iff (fun h e => h e.symm)).1 hs.ne
 have hn2 : (x :: base).Pairwise fun a b => a.num ≠ b.num := (hp.pairwise_iff (fun h e => h e.symm)).1 hn
 have hx := (List.pairwise_cons.1 hn2).1
 have hr : dP (·.num) (ct (fun y : ae => decide (y.num > x.num)) x base) := hb.ins (k := fun f : ae => f.num) fun y hy e => hx y hy e.symm
 exact Hj hr (hp.trans (fA _ x base).symm)
theorem Fz {l base : List ae} {x y : ae} (hb : dP (·.num) base) (hp : l.Perm (y :: x :: base)) (hs : dP (·.num) (bO (fun y x : ae => decide (y.num > x.num)) l)) :
  dP (·.num) (ct (fun y : ae => decide (y.num > x.num)) x base) := by
 have hn : l.Pairwise fun a b => a.num ≠ b.num := ((iG _ l).pairwise_iff (fun h e => h e.symm)).1 hs.ne
 have hn2 : (y :: x :: base).Pairwise fun a b => a.num ≠ b.num := (hp.pairwise_iff (fun h e => h e.symm)).1 hn
 have hx := (List.pairwise_cons.1 (List.pairwise_cons.1 hn2).2).1
 exact hb.ins (k := fun f : ae => f.num) fun y hy e => hx y hy e.symm
theorem AJ {x : aS} (h1 : x.kind ≠ 1) (h3 : x.kind ≠ 3) (h8 : x.kind ≠ 8) (f : ae) : x.changed f = f := by
 unfold aS.changed
 rw [if_neg h8]
 rw [if_neg h1, if_neg h3]
 split <;> rfl
theorem dR {x : aS} (h1 : x.kind ≠ 1) (h3 : x.kind ≠ 3) (h8 : x.kind ≠ 8) (l : List ae) : l.map x.changed = l := by
 conv => rhs; rw [← List.map_id l]
 exact List.map_congr_left fun f _ => AJ h1 h3 h8 f
theorem q9 {x : aS} (h8 : x.kind ≠ 8) {f : ae} (h : f.name ≠ x.field) : x.changed f = f := by
 unfold aS.changed
 rw [if_neg h8, if_neg h]
def aS.eL (s : aL) (m : aU) (x : aS) : List ae := (bE m.fields x.goes).map x.changed ++ x.comes s (m.aV x.field)
def MY : ae → ae → Bool := fun y x => decide (y.num > x.num)
theorem EA {names : List aw} {s t : aL} {x : aS} {m : aU} {at_ : Nat} (A : c4 s x t m at_) {p : aQ} (hF : Fit names p m) (h6 : x.kind ≠ 6) (h7 : x.kind ≠ 7) (hs : dP (·.num) (bO MY (x.eL s m))) :
  (aP p x).outs.map (·.f) = bO MY (x.eL s m) ∧ cS names (aP p x).aE (aP p x).outs ∧ p.aE ≤ (aP p x).aE := by
 have hm : m ∈ s.msgs := List.mem_of_getElem? A.eq
 have hfn := A.iV.fn m hm
 have hfr := A.iV.fr m hm
 have hnames : (p.outs.map (fun y => y.f.name)).Nodup := by
  have : p.outs.map (fun y => y.f.name) = (p.outs.map (·.f)).map (·.name) := by rw [List.map_map]; rfl
  rw [this, hF.outs]; exact hfn
 have hk : 1 ≤ x.kind ∧ x.kind ≤ 10 := by
  have := A.rt
  simp only [aS.right, Bool.and_eq_true, decide_eq_true_eq] at this
  obtain ⟨⟨⟨⟨⟨⟨⟨⟨⟨⟨q1, q2⟩, _⟩, _⟩, _⟩, _⟩, _⟩, _⟩, _⟩, _⟩, _⟩ := this
  exact ⟨q1, q2⟩
 have hport : m.dh x.field = true → aJ p.outs x.field ∈ p.outs ∧ (aJ p.outs x.field).f = m.aV x.field ∧ (aJ p.outs x.field).f.name = x.field := fun h => by
  have hh := fT h
  exact fq hF.outs ⟨_, hh.1, hh.2⟩
 have hback : m.dh x.field = true → (aJ p.outs x.field).reg ∉ (aR p.outs x.field).map (·.reg) := fun h => by
  obtain ⟨q1, q2, q3⟩ := hport h
  have := hF.bX.back hnames q1
  rwa [q3] at this
 have h0 := hF.rn
 have : x.kind = 1 ∨ x.kind = 2 ∨ x.kind = 3 ∨ x.kind = 4 ∨ x.kind = 5 ∨ x.kind = 8 ∨ x.kind = 9 ∨ x.kind = 10 := by omega
 rcases this with h | h | h | h | h | h | h | h
 ·have hhas : m.dh x.field = true := by have := A.has; simpa [aS.bk, h] using this
  obtain ⟨q1, q2, q3⟩ := hport hhas
  have r1 := hF.reg _ q1
  have r2 := hF.part _ q1
  obtain ⟨f1, f2⟩ := fT hhas
  have ef : x.eL s m = m.fields.map x.changed := by simp [aS.eL, aS.goes, aS.comes, h, iq]
  have ec : x.changed (m.aV x.field) = { m.aV x.field with name := x.dest } := by simp [aS.changed, h, f2]
  have hp := BQ (·.name) hfn f1 (g := x.changed) fun y _ hy => q9 (by omega) (by rw [f2] at hy; exact hy)
  rw [ec, f2, ← ef] at hp
  refine ⟨?_, ?_, by simp [aP, h] <;> omega⟩
  ·simp only [aP, h, if_true]
   rw [ev, dI, hF.outs, q2]
   exact (iJ (hfr.filter _) hp hs).symm
  ·simp only [aP, h, if_true]
   exact (hF.bX.fV x.field).with r1 (hback hhas) r2
 ·have hhas : m.dh x.field = true := by have := A.has; simpa [aS.bk, h] using this
  obtain ⟨q1, q2, q3⟩ := hport hhas
  have r1 := hF.reg _ q1
  have r2 := hF.part _ q1
  have ef : x.eL s m = (m.fields.filter fun f => !(f.name == x.field)) ++ [{ m.aV x.field with num := x.num }] := by
   simp only [aS.eL, aS.goes, aS.comes, h]
   simp only [show ¬ (2 : Int) = 1 by decide, if_true, true_or, gA]
   rw [dR (by omega) (by omega) (by omega)]
  have hp : (x.eL s m).Perm ({ m.aV x.field with num := x.num } :: m.fields.filter fun f => !(f.name == x.field)) := by rw [ef]; exact List.perm_append_comm
  refine ⟨?_, ?_, by simp [aP, h] <;> omega⟩
  ·simp only [aP, h, show ¬ (2 : Int) = 1 by decide, if_false, if_true]
   rw [ev, dI, hF.outs, q2]
   exact (iJ (hfr.filter _) hp hs).symm
  ·simp only [aP, h, show ¬ (2 : Int) = 1 by decide, if_false, if_true]
   exact (hF.bX.fV x.field).with r1 (hback hhas) r2
 ·have hhas : m.dh x.field = true := by have := A.has; simpa [aS.bk, h] using this
  obtain ⟨q1, q2, q3⟩ := hport hhas
  have r1 := hF.reg _ q1
  have r2 := hF.part _ q1
  obtain ⟨f1, f2⟩ := fT hhas
  have hty : (m.aV x.field).ty ≠ 15 ∧ x.ty ≠ 15 := by
   have ha := A.ask
   have ht := A.rt
   simp only [aS.asked, h, if_true, Bool.and_eq_true, decide_eq_true_eq] at ha
   simp only [aS.right, Bool.and_eq_true, aS.typed, h, if_true] at ht
   have hw : c8 x.ty = true := ht.1.1.2
   simp only [c8, Bool.or_eq_true, Bool.and_eq_true, decide_eq_true_eq] at hw
   omega
  have ef : x.eL s m = m.fields.map x.changed := by simp [aS.eL, aS.goes, aS.comes, h, iq]
  have ec : x.changed (m.aV x.field) = { m.aV x.field with ty := x.ty } := by simp [aS.changed, h, f2]
  have hp := BQ (·.name) hfn f1 (g := x.changed) fun y _ hy => q9 (by omega) (by rw [f2] at hy; exact hy)
  rw [ec, f2, ← ef] at hp
  have hpt := (hF.part _ q1).2 (by rw [q2]; exact hty.1)
  refine ⟨?_, ?_, by simp [aP, h] <;> omega⟩
  ·simp only [aP, h, show ¬ (3 : Int) = 1 by decide, show ¬ (3 : Int) = 2 by decide, if_false, if_true]
   rw [ev, dI, hF.outs, q2]
   exact (iJ (hfr.filter _) hp hs).symm
  ·simp only [aP, h, show ¬ (3 : Int) = 1 by decide, show ¬ (3 : Int) = 2 by decide, if_false, if_true]
   exact (hF.bX.fV x.field).with r1 (hback hhas) ⟨fun e => absurd e hty.2, fun _ => hpt⟩
 ·have hhas : m.dh x.field = true := by have := A.has; simpa [aS.bk, h] using this
  obtain ⟨q1, q2, q3⟩ := hport hhas
  have r1 := hF.reg _ q1
  have r2 := hF.part _ q1
  have ef : x.eL s m = (m.fields.filter fun f => !(f.name == x.field)) ++ [{ eY with name := x.dest, num := x.num, ty := 3 }, { eY with name := x.also, num := x.other, ty := 3 }] := by
   simp only [aS.eL, aS.goes, aS.comes, h]
   simp only [show ¬ (4 : Int) = 2 by decide, if_false, if_true, true_or, or_true, gA]
   rw [dR (by omega) (by omega) (by omega)]
  have hp : (x.eL s m).Perm ({ eY with name := x.also, num := x.other, ty := 3 } :: { eY with name := x.dest, num := x.num, ty := 3 } :: m.fields.filter fun f => !(f.name == x.field)) := by
   rw [ef]
   exact List.perm_append_comm.trans (List.Perm.swap _ _ _)
  have hr := Fz (hfr.filter _) hp hs
  have hp2 := hp.trans ((fA (fun y : ae => decide (y.num > x.num)) { eY with name := x.dest, num := x.num, ty := 3 } (m.fields.filter fun f => !(f.name == x.field))).symm.cons { eY with name := x.also, num := x.other, ty := 3 })
  refine ⟨?_, ?_, by simp [aP, h] <;> omega⟩
  ·simp only [aP, h, show ¬ (4 : Int) = 1 by decide, show ¬ (4 : Int) = 2 by decide, show ¬ (4 : Int) = 3 by decide, if_false, if_true]
   rw [ev, ev, dI, hF.outs]
   exact (iJ hr hp2 hs).symm
  ·simp only [aP, h, show ¬ (4 : Int) = 1 by decide, show ¬ (4 : Int) = 2 by decide, show ¬ (4 : Int) = 3 by decide, if_false, if_true]
   have hw := hF.bX.fV x.field
   have g1 : cS names (p.aE + 1) (bb (aR p.outs x.field) (dV x.dest x.num 3 p.aE)) := (hw.mono (by omega)).with ⟨h0, by show p.aE < p.aE + 1; omega⟩ (hw.new (Int.le_refl _)) ⟨fun e => absurd (show (3 : Int) = 15 from e) (by decide), fun _ => rfl⟩
   exact (g1.mono (by omega)).with ⟨by show 0 ≤ p.aE + 1; omega, by show p.aE + 1 < p.aE + 2; omega⟩ (g1.new (Int.le_refl _)) ⟨fun e => absurd (show (3 : Int) = 15 from e) (by decide), fun _ => rfl⟩
 ·have hhas : m.dh x.field = true ∧ m.dh x.also = true := by have := A.has; simpa [aS.bk, h] using this
  obtain ⟨q1, q2, q3⟩ := hport hhas.1
  have ef : x.eL s m = ((m.fields.filter fun f => !(f.name == x.field)).filter fun f => !(f.name == x.also)) ++ [{ eY with name := x.dest, num := x.num, ty := 4 }] := by
   simp only [aS.eL, aS.goes, aS.comes, h]
   simp only [show ¬ (5 : Int) = 2 by decide, show ¬ (5 : Int) = 4 by decide, show ¬ (5 : Int) = 6 by decide, show ¬ (5 : Int) = 7 by decide, show ¬ (5 : Int) = 10 by decide, or_false, false_or, if_false, if_true, ux]
   rw [dR (by omega) (by omega) (by omega)]
  have hp : (x.eL s m).Perm ({ eY with name := x.dest, num := x.num, ty := 4 } :: ((m.fields.filter fun f => !(f.name == x.field)).filter fun f => !(f.name == x.also))) := by rw [ef]; exact List.perm_append_comm
  refine ⟨?_, ?_, by simp [aP, h] <;> omega⟩
  ·simp only [aP, h, show ¬ (5 : Int) = 1 by decide, show ¬ (5 : Int) = 2 by decide, show ¬ (5 : Int) = 3 by decide, show ¬ (5 : Int) = 4 by decide, if_false, if_true]
   rw [ev, dI, dI, hF.outs]
   exact (iJ ((hfr.filter _).filter _) hp hs).symm
  ·simp only [aP, h, show ¬ (5 : Int) = 1 by decide, show ¬ (5 : Int) = 2 by decide, show ¬ (5 : Int) = 3 by decide, show ¬ (5 : Int) = 4 by decide, if_false, if_true]
   have hw := (hF.bX.fV x.field).fV x.also
   exact (hw.mono (by omega)).with ⟨h0, by show p.aE < p.aE + 1; omega⟩ (hw.new (Int.le_refl _)) ⟨fun e => absurd (show (4 : Int) = 15 from e) (by decide), fun _ => rfl⟩
 ·have ef : x.eL s m = m.fields.map x.changed := by simp [aS.eL, aS.goes, aS.comes, h, iq]
  have hnum : ∀ f, (x.changed f).num = f.num ∧ (x.changed f).ty = f.ty ∧ (x.changed f).ref = f.ref := fun f => by
   unfold aS.changed
   rw [if_pos h]
   split <;> exact ⟨rfl, rfl, rfl⟩
  have eo : (aP p x).outs = p.outs.map fun y => { y with f := x.changed y.f } := by
   simp only [aP, h, show ¬ (8 : Int) = 1 by decide, show ¬ (8 : Int) = 2 by decide, show ¬ (8 : Int) = 3 by decide, show ¬ (8 : Int) = 4 by decide, show ¬ (8 : Int) = 5 by decide, if_false, if_true]
   refine List.map_congr_left fun y _ => ?_
   unfold aS.changed
   rw [if_pos h]
   split <;> rfl
  have er : (aP p x).aE = p.aE := by
   simp only [aP, h, show ¬ (8 : Int) = 1 by decide, show ¬ (8 : Int) = 2 by decide, show ¬ (8 : Int) = 3 by decide, show ¬ (8 : Int) = 4 by decide, show ¬ (8 : Int) = 5 by decide, if_false, if_true]
  have hr : dP (·.num) (m.fields.map x.changed) := List.pairwise_map.2 (hfr.imp fun {a b} hab => by
   show (x.changed a).num < (x.changed b).num
   rw [(hnum a).1, (hnum b).1]; exact hab)
  refine ⟨?_, ?_, by rw [er]; omega⟩
  ·rw [eo, ef]
   have e2 : (p.outs.map fun y => { y with f := x.changed y.f }).map (·.f) = m.fields.map x.changed := by
    rw [← hF.outs, List.map_map, List.map_map]; rfl
   rw [e2]
   exact (ma (k := fun f : ae => f.num) hr).symm
  ·rw [eo, er]
   refine ⟨fun y hy => ?_, ?_, fun y hy => ?_⟩
   ·obtain ⟨z, hz, rfl⟩ := List.mem_map.1 hy
    exact hF.reg z hz
   ·rw [List.map_map]; exact hF.dist
   ·obtain ⟨z, hz, rfl⟩ := List.mem_map.1 hy
    have := hF.part z hz
    show ((x.changed z.f).ty = 15 → _) ∧ ((x.changed z.f).ty ≠ 15 → _)
    rw [(hnum z.f).2.1, (hnum z.f).2.2]
    exact this
 ·have ef : x.eL s m = m.fields ++ [{ eY with name := x.field, num := x.num, ty := x.ty }] := by
   simp only [aS.eL, aS.goes, aS.comes, h]
   simp only [show ¬ (9 : Int) = 2 by decide, show ¬ (9 : Int) = 4 by decide, show ¬ (9 : Int) = 5 by decide, show ¬ (9 : Int) = 6 by decide, show ¬ (9 : Int) = 7 by decide, show ¬ (9 : Int) = 10 by decide, or_false, if_false, if_true, iq]
   rw [dR (by omega) (by omega) (by omega)]
  have hp : (x.eL s m).Perm ({ eY with name := x.field, num := x.num, ty := x.ty } :: m.fields) := by rw [ef]; exact List.perm_append_comm
  have hty : x.ty ≠ 15 := by
   have ht := A.rt
   simp only [aS.right, Bool.and_eq_true, aS.typed, h, show ¬ (9 : Int) = 3 by decide, if_false, if_true] at ht
   have hw := ht.1.1.2
   intro e
   rw [e] at hw
   exact absurd hw (by decide)
  refine ⟨?_, ?_, by simp [aP, h] <;> omega⟩
  ·simp only [aP, h, show ¬ (9 : Int) = 1 by decide, show ¬ (9 : Int) = 2 by decide, show ¬ (9 : Int) = 3 by decide, show ¬ (9 : Int) = 4 by decide, show ¬ (9 : Int) = 5 by decide, show ¬ (9 : Int) = 8 by decide, if_false, if_true]
   rw [ev, hF.outs]
   exact (iJ hfr hp hs).symm
  ·simp only [aP, h, show ¬ (9 : Int) = 1 by decide, show ¬ (9 : Int) = 2 by decide, show ¬ (9 : Int) = 3 by decide, show ¬ (9 : Int) = 4 by decide, show ¬ (9 : Int) = 5 by decide, show ¬ (9 : Int) = 8 by decide, if_false, if_true]
   exact (hF.bX.mono (by omega)).with ⟨h0, by show p.aE < p.aE + 1; omega⟩ (hF.bX.new (Int.le_refl _)) ⟨fun e => absurd e hty, fun _ => rfl⟩
 ·have ef : x.eL s m = m.fields.filter fun f => !(f.name == x.field) := by
   simp only [aS.eL, aS.goes, aS.comes, h]
   simp only [show ¬ (10 : Int) = 2 by decide, show ¬ (10 : Int) = 4 by decide, show ¬ (10 : Int) = 5 by decide, show ¬ (10 : Int) = 6 by decide, show ¬ (10 : Int) = 7 by decide, show ¬ (10 : Int) = 9 by decide, or_true, if_false, if_true, gA, List.append_nil]
   rw [dR (by omega) (by omega) (by omega)]
  refine ⟨?_, ?_, by simp [aP, h] <;> omega⟩
  ·simp only [aP, h, show ¬ (10 : Int) = 1 by decide, show ¬ (10 : Int) = 2 by decide, show ¬ (10 : Int) = 3 by decide, show ¬ (10 : Int) = 4 by decide, show ¬ (10 : Int) = 5 by decide, show ¬ (10 : Int) = 8 by decide, show ¬ (10 : Int) = 9 by decide, if_false]
   rw [dI, hF.outs, ef]
   exact (ma (k := fun f : ae => f.num) (hfr.filter _)).symm
  ·simp only [aP, h, show ¬ (10 : Int) = 1 by decide, show ¬ (10 : Int) = 2 by decide, show ¬ (10 : Int) = 3 by decide, show ¬ (10 : Int) = 4 by decide, show ¬ (10 : Int) = 5 by decide, show ¬ (10 : Int) = 8 by decide, show ¬ (10 : Int) = 9 by decide, if_false]
   exact hF.bX.fV x.field
theorem kc {names : List aw} {s : aw} {k : Nat} (hk : names[k]? = some s) (hu : ∀ j, names[j]? = some s → j = k) : cW names s = k := by
 obtain ⟨hlt, hs⟩ := List.getElem?_eq_some_iff.1 hk
 have hr : names.length - 1 - k < names.reverse.length := by rw [List.length_reverse]; omega
 have hfi : names.reverse.findIdx (· == s) = names.length - 1 - k := by
  rw [List.findIdx_eq hr]
  refine ⟨?_, fun j hj => ?_⟩
  ·rw [List.getElem_reverse]
   have : names.length - 1 - (names.length - 1 - k) = k := by omega
   simp only [this, hs, beq_self_eq_true]
  ·rw [List.getElem_reverse]
   have hlt2 : names.length - 1 - j < names.length := by omega
   have hne : names[names.length - 1 - j] ≠ s := fun e => by
    have := hu (names.length - 1 - j) (by rw [List.getElem?_eq_getElem hlt2, e])
    omega
   simp [hne]
 unfold cW
 rw [hfi]; omega
theorem kj {names : List aw} {p : aQ} {m : aU} (h : Fit names p m) : Fit names (bT p) m := ⟨h.rn, h.outs, h.reg, h.dist, h.part⟩
section
variable {s t : aL} {x : aS} {m : aU} {at_ : Nat}
theorem jG (hs : s.lN) {i j : Nat} {a b : aU} (hi : s.msgs[i]? = some a) (hj : s.msgs[j]? = some b) (e : a.name = b.name) : i = j := by
 have hn := (List.nodup_append.1 hs.nd).2.1
 obtain ⟨h1, rfl⟩ := List.getElem?_eq_some_iff.1 hi
 obtain ⟨h2, rfl⟩ := List.getElem?_eq_some_iff.1 hj
 have hp : s.msgs.Pairwise fun a b => a.name ≠ b.name := List.pairwise_map.1 hn
 rcases Nat.lt_trichotomy i j with q | q | q
 ·exact absurd e (List.pairwise_iff_getElem.1 hp i j h1 h2 q)
 ·exact q
 ·exact absurd e.symm (List.pairwise_iff_getElem.1 hp j i h2 h1 q)
def mF (s : aL) (m : aU) (x : aS) : aU := { m with fields := x.eL s m }
theorem mem_set {l : List aU} {i : Nat} {a y : aU} (h : y ∈ l.set i a) : (y = a ∧ i < l.length) ∨ ∃ j, j ≠ i ∧ l[j]? = some y := by
 obtain ⟨j, hj⟩ := List.mem_iff_getElem?.1 h
 rw [List.getElem?_set] at hj
 split at hj
 ·rename_i e
  split at hj
  ·rename_i hl; cases hj; exact .inl ⟨rfl, by omega⟩
  ·cases hj
 ·rename_i e; exact .inr ⟨j, fun q => e q.symm, hj⟩
theorem c4.plain (A : c4 s x t m at_) (h6 : x.kind ≠ 6) (h7 : x.kind ≠ 7) : t = (⟨s.enums, s.msgs.set at_ (mF s m x)⟩ : aL).sorted := by
 have := A.out
 rw [z8 h6 h7] at this
 exact this
theorem c4.mem (A : c4 s x t m at_) (h6 : x.kind ≠ 6) (h7 : x.kind ≠ 7) {y : aU} : y ∈ t.msgs ↔ y = (mF s m x).sort ∨ ∃ j, j ≠ at_ ∧ s.msgs[j]? = some y := by
 have hp : t.msgs.Perm ((s.msgs.set at_ (mF s m x)).map aU.sort) := by rw [A.plain h6 h7]; exact ln _
 rw [hp.mem_iff]
 constructor
 ·intro h
  obtain ⟨z, hz, rfl⟩ := List.mem_map.1 h
  rcases mem_set hz with ⟨rfl, _⟩ | ⟨j, hj, e⟩
  ·exact .inl rfl
  ·have hm := List.mem_of_getElem? e
   refine .inr ⟨j, hj, ?_⟩
   rw [aU.kz (A.iV.fr z hm) (A.iV.br z hm)]; exact e
 ·rintro (rfl | ⟨j, hj, e⟩)
  ·exact List.mem_map_of_mem (List.mem_iff_getElem?.2 ⟨at_, List.getElem?_set_self A.lt⟩)
  ·have hm := List.mem_of_getElem? e
   refine List.mem_map.2 ⟨y, (List.mem_iff_getElem?.2 ⟨j, ?_⟩), aU.kz (A.iV.fr y hm) (A.iV.br y hm)⟩
   rw [List.getElem?_set_ne (fun q => hj q.symm)]; exact e
theorem Inv.plain {w : fg} (I : Inv s w) (A : c4 s x t m at_) (h6 : x.kind ≠ 6) (h7 : x.kind ≠ 7) : Inv t (w.step x) := by
 have hm : m ∈ s.msgs := List.mem_of_getElem? A.eq
 obtain ⟨k, p, k1, k2, hF⟩ := I.fwd m hm
 have hne : m.name ≠ [] := gy (A.iV.nm m hm)
 have hk : k < w.all.length := (List.getElem?_eq_some_iff.1 k2).1
 have hix : cW w.names x.msg = k := kc (by rw [← A.nm]; exact k1) fun j hj => I.uniq j k _ hj (by rw [← A.nm]; exact k1) (by rw [← A.nm]; exact hne)
 have hgd : w.all.getD k bS = p := by rw [List.getD_eq_getElem?_getD, k2]; rfl
 have hst : w.step x = ⟨w.all.set k (bT (aP p x)), w.names⟩ := by
  unfold fg.step
  simp only [hix, h6, h7, if_false, au, hgd]
  congr 1
  rw [List.getD_eq_getElem?_getD, List.getElem?_set_self hk]
  simp
 have hnew : (mF s m x).sort ∈ t.msgs := (A.mem h6 h7).2 (.inl rfl)
 have hrise : dP (·.num) (bO MY (x.eL s m)) := A.FQ.fr _ hnew
 obtain ⟨s1, s2, s3⟩ := EA A hF h6 h7 hrise
 rw [hst]
 refine ⟨by simp [I.len], A.FQ, ?_, I.uniq, fun i n hi hn => ?_, fun y hy => ?_⟩
 ·have hr := I.root
  show w.names.head? = _
  rw [hr, A.plain h6 h7]
  cases e : s.msgs with
  | nil => have := A.lt; rw [e] at this; simp at this
  | cons a l =>
   have hh : ((a :: l).set at_ (mF s m x)).head? = some (if at_ = 0 then mF s m x else a) := by
    cases at_ with
    | zero => rfl
    | succ i => rfl
   have := lr (s := ⟨s.enums, (a :: l).set at_ (mF s m x)⟩) hh
   rw [this]
   simp only [List.head?_cons, Option.map_some, Option.some.injEq]
   split
   ·rename_i h0
    have := A.eq
    rw [h0, e] at this
    simp at this
    rw [this]; rfl
   ·rfl
 ·obtain ⟨y, hy, e⟩ := I.back i n hi hn
  obtain ⟨j, hj⟩ := List.mem_iff_getElem?.1 hy
  by_cases hja : j = at_
  ·subst hja
   rw [A.eq] at hj; cases hj
   exact ⟨_, hnew, e⟩
  ·exact ⟨y, (A.mem h6 h7).2 (.inr ⟨j, hja, hj⟩), e⟩
 ·rcases (A.mem h6 h7).1 hy with rfl | ⟨j, hj, e⟩
  ·refine ⟨k, _, k1, List.getElem?_set_self hk, kj (s2.fit (by have := hF.rn; omega) s1)⟩
  ·obtain ⟨k', p', q1, q2, q3⟩ := I.fwd y (List.mem_of_getElem? e)
   refine ⟨k', p', q1, ?_, q3⟩
   rw [List.getElem?_set_ne, q2]
   intro hkk
   subst hkk
   rw [k1] at q1
   exact hj (jG A.iV e A.eq (by injection q1 with q1; exact q1.symm))
end
theorem cS.names {names names' : List aw} {aE : Int} {l : List Port} (h : cS names aE l) (hn : ∀ x ∈ l, ∀ j : Nat, x.f.ty = 15 → names[j]? = some x.f.ref → names'[j]? = some x.f.ref) : cS names' aE l :=
 ⟨h.reg, h.dist, fun x hx => ⟨fun e => by obtain ⟨j, h1, h2⟩ := (h.part x hx).1 e; exact ⟨j, h1, hn x hx j e h2⟩, (h.part x hx).2⟩⟩
theorem Fit.names {names names' : List aw} {p : aQ} {m : aU} (h : Fit names p m) (hn : ∀ f ∈ m.fields, ∀ j : Nat, f.ty = 15 → names[j]? = some f.ref → names'[j]? = some f.ref) : Fit names' p m :=
 (h.bX.names fun x hx j e h1 => hn x.f (by rw [← h.outs]; exact List.mem_map_of_mem hx) j e h1).fit h.rn h.outs
section
variable {s t : aL} {x : aS} {m : aU} {at_ : Nat}
def qB (m : aU) (x : aS) : aU := { lg with name := x.dest, fields := [m.aV x.field] }
theorem ye : (qB m x).sort = qB m x := by
 refine aU.kz ?_ ?_
 ·exact List.pairwise_singleton _ _
 ·exact List.Pairwise.nil
theorem c4.wrap (A : c4 s x t m at_) (h6 : x.kind = 6) : t = (⟨s.enums, s.msgs.set at_ (mF s m x) ++ [qB m x]⟩ : aL).sorted := by
 have := A.out
 rw [Cj h6] at this
 have e : s.msgs.getD at_ lg = m := by rw [List.getD_eq_getElem?_getD, A.eq]; rfl
 rw [e] at this
 exact this
theorem c4.JO (A : c4 s x t m at_) (h6 : x.kind = 6) {y : aU} : y ∈ t.msgs ↔ y = (mF s m x).sort ∨ (∃ j, j ≠ at_ ∧ s.msgs[j]? = some y) ∨ y = qB m x := by
 have hp : t.msgs.Perm ((s.msgs.set at_ (mF s m x) ++ [qB m x]).map aU.sort) := by rw [A.wrap h6]; exact ln _
 rw [hp.mem_iff, List.map_append, List.mem_append]
 simp only [List.map_cons, List.map_nil, List.mem_singleton, ye]
 constructor
 ·rintro (h | h)
  ·obtain ⟨z, hz, rfl⟩ := List.mem_map.1 h
   rcases mem_set hz with ⟨rfl, _⟩ | ⟨j, hj, e⟩
   ·exact .inl rfl
   ·have hm := List.mem_of_getElem? e
    refine .inr (.inl ⟨j, hj, ?_⟩)
    rw [aU.kz (A.iV.fr z hm) (A.iV.br z hm)]; exact e
  ·exact .inr (.inr h)
 ·rintro (rfl | ⟨j, hj, e⟩ | h)
  ·exact .inl (List.mem_map_of_mem (List.mem_iff_getElem?.2 ⟨at_, List.getElem?_set_self A.lt⟩))
  ·have hm := List.mem_of_getElem? e
   refine .inl (List.mem_map.2 ⟨y, (List.mem_iff_getElem?.2 ⟨j, ?_⟩), aU.kz (A.iV.fr y hm) (A.iV.br y hm)⟩)
   rw [List.getElem?_set_ne (fun q => hj q.symm)]; exact e
  ·exact .inr h
theorem c4.fresh (A : c4 s x t m at_) (h6 : x.kind = 6) : ∀ y ∈ s.msgs, y.name ≠ x.dest := by
 have ht := A.th
 simp only [aS.there, h6, Bool.or_eq_false_iff, Bool.and_eq_false_iff, decide_eq_false_iff_not] at ht
 have hlt : ¬ 0 ≤ s.bL x.dest := by
  rcases ht.1.2 with q | q
  ·exact absurd trivial q
  ·exact q.2
 intro y hy e
 rcases ao (fun m : aU => m.name == x.dest) s.msgs 0 with ⟨h1, h2⟩ | ⟨i, hi, h1, h2⟩
 ·have := List.find?_eq_none.1 h2 y hy
  simp [e] at this
 ·apply hlt
  show 0 ≤ bI (fun m : aU => m.name == x.dest) s.msgs 0
  rw [h1]; omega
theorem Inv.wrap {w : fg} (I : Inv s w) (A : c4 s x t m at_) (h6 : x.kind = 6) : Inv t (w.step x) := by
 have hm : m ∈ s.msgs := List.mem_of_getElem? A.eq
 obtain ⟨k, p, k1, k2, hF⟩ := I.fwd m hm
 have hne : m.name ≠ [] := gy (A.iV.nm m hm)
 have hk : k < w.all.length := (List.getElem?_eq_some_iff.1 k2).1
 have hix : cW w.names x.msg = k := kc (by rw [← A.nm]; exact k1) fun j hj => I.uniq j k _ hj (by rw [← A.nm]; exact k1) (by rw [← A.nm]; exact hne)
 have hgd : w.all.getD k bS = p := by rw [List.getD_eq_getElem?_getD, k2]; rfl
 have hhas : m.dh x.field = true := by have := A.has; simpa [aS.bk, h6] using this
 have hh := fT hhas
 obtain ⟨q1, q2, q3⟩ := fq hF.outs ⟨_, hh.1, hh.2⟩
 have q2 : (aJ p.outs x.field).f = m.aV x.field := q2
 have hfr := A.iV.fr m hm
 have hfn := A.iV.fn m hm
 let g : Port := ⟨{ eY with name := x.also, num := x.num, ty := 15, ref := x.dest }, p.aE, w.all.length⟩
 let p' : aQ := { p with ops := p.ops ++ [{ jb with kind := 4, a := (aJ p.outs x.field).reg, b := p.aE, part := w.all.length }], aE := p.aE + 1, outs := bb (aR p.outs x.field) g }
 let wp : aQ := bT { bS with name := x.dest, born := true, aE := 1, ins := [{ aJ p.outs x.field with reg := 0 }], outs := [{ aJ p.outs x.field with reg := 0 }] }
 have hst : w.step x = ⟨(w.all ++ [wp]).set k (bT p'), w.names ++ [x.dest]⟩ := by
  unfold fg.step
  have h7 : ¬ x.kind = 7 := by omega
  simp only [hix, h7, h6, if_true, if_false, au, hgd, show ¬ (6 : Int) = 7 by decide]
  congr 1
  have hl : k < (w.all ++ [wp]).length := by simp; omega
  rw [List.getD_eq_getElem?_getD, List.getElem?_set_self hl]
  simp only [Option.getD_some, List.set_set]
  rfl
 have hnew : (mF s m x).sort ∈ t.msgs := (A.JO h6).2 (.inl rfl)
 have hrise : dP (·.num) (bO MY (x.eL s m)) := A.FQ.fr _ hnew
 have hext : ∀ (j : Nat) n, w.names[j]? = some n → (w.names ++ [x.dest])[j]? = some n := fun j n h => by
  rw [List.getElem?_append_left (List.getElem?_eq_some_iff.1 h).1]; exact h
 have hold : ∀ (j : Nat) n, w.names[j]? = some n → n ≠ [] → n ≠ x.dest := fun j n h hn e => by
  obtain ⟨y, hy, e2⟩ := I.back j n h hn
  exact A.fresh h6 y hy (e2.trans e)
 have ef : x.eL s m = (m.fields.filter fun f => !(f.name == x.field)) ++ [g.f] := by
  simp only [aS.eL, aS.goes, aS.comes, h6]
  simp only [show ¬ (6 : Int) = 2 by decide, show ¬ (6 : Int) = 4 by decide, show ¬ (6 : Int) = 5 by decide, if_false, if_true, true_or, or_true, gA]
  rw [dR (by omega) (by omega) (by omega)]
 have hp : (x.eL s m).Perm (g.f :: m.fields.filter fun f => !(f.name == x.field)) := by rw [ef]; exact List.perm_append_comm
 have hlast : (w.names ++ [x.dest])[w.all.length]? = some x.dest := by rw [← I.len]; simp
 have hpo : cS (w.names ++ [x.dest]) (p.aE + 1) (bb (aR p.outs x.field) g) := by
  have hw := (hF.bX.fV x.field).names (names' := w.names ++ [x.dest]) fun y hy j e h1 => hext j _ h1
  exact (hw.mono (by omega)).with ⟨hF.rn, by show p.aE < p.aE + 1; omega⟩ ((hF.bX.fV x.field).new (Int.le_refl _)) ⟨fun _ => ⟨w.all.length, rfl, hlast⟩, fun e => absurd rfl e⟩
 have hout : (bb (aR p.outs x.field) g).map (·.f) = bO MY (x.eL s m) := by
  rw [ev, dI, hF.outs]
  exact (iJ (hfr.filter _) hp hrise).symm
 rw [hst]
 refine ⟨by simp [I.len], A.FQ, ?_, fun i j n hi hj hn => ?_, fun i n hi hn => ?_, fun y hy => ?_⟩
 ·have hr := I.root
  have hne0 : w.names.head? = (w.names ++ [x.dest]).head? := by
   cases e : w.names with
   | nil => rw [e] at k1; simp at k1
   | cons a l => rfl
  show (w.names ++ [x.dest]).head? = _
  rw [← hne0, hr, A.wrap h6]
  cases e : s.msgs with
  | nil => have := A.lt; rw [e] at this; simp at this
  | cons a l =>
   have hh2 : ((a :: l).set at_ (mF s m x) ++ [qB m x]).head? = some (if at_ = 0 then mF s m x else a) := by
    cases at_ with
    | zero => rfl
    | succ i => rfl
   have := lr (s := ⟨s.enums, (a :: l).set at_ (mF s m x) ++ [qB m x]⟩) hh2
   rw [this]
   simp only [List.head?_cons, Option.map_some, Option.some.injEq]
   split
   ·rename_i h0
    have := A.eq
    rw [h0, e] at this
    simp at this
    rw [this]; rfl
   ·rfl
 ·have key : ∀ (i : Nat), (w.names ++ [x.dest])[i]? = some n → (w.names[i]? = some n) ∨ (i = w.names.length ∧ n = x.dest) := fun i h => by
   by_cases hl : i < w.names.length
   ·rw [List.getElem?_append_left hl] at h; exact .inl h
   ·rw [List.getElem?_append_right (by omega)] at h
    have : i - w.names.length = 0 := by
     have := (List.getElem?_eq_some_iff.1 h).1
     simp at this; omega
    rw [this] at h
    simp at h
    exact .inr ⟨by omega, h.symm⟩
  rcases key i hi with a | ⟨a, b⟩ <;> rcases key j hj with c | ⟨c, d⟩
  ·exact I.uniq i j n a c hn
  ·exact absurd d (hold i n a hn)
  ·exact absurd b (hold j n c hn)
  ·omega
 ·by_cases hl : i < w.names.length
  ·have hi' : w.names[i]? = some n := by
    have : (w.names ++ [x.dest])[i]? = some n := hi
    rwa [List.getElem?_append_left hl] at this
   obtain ⟨y, hy, e⟩ := I.back i n hi' hn
   obtain ⟨j, hj⟩ := List.mem_iff_getElem?.1 hy
   by_cases hja : j = at_
   ·subst hja
    rw [A.eq] at hj; cases hj
    exact ⟨_, hnew, e⟩
   ·exact ⟨y, (A.JO h6).2 (.inr (.inl ⟨j, hja, hj⟩)), e⟩
  ·have h : (w.names ++ [x.dest])[i]? = some n := hi
   rw [List.getElem?_append_right (by omega)] at h
   have h0 : i - w.names.length = 0 := by
    have := (List.getElem?_eq_some_iff.1 h).1
    simp at this; omega
   rw [h0] at h
   simp at h
   exact ⟨qB m x, (A.JO h6).2 (.inr (.inr rfl)), h⟩
 ·rcases (A.JO h6).1 hy with rfl | ⟨j, hj, e⟩ | rfl
  ·refine ⟨k, _, hext k _ k1, List.getElem?_set_self (by simp; omega), kj (p := p') (hpo.fit (p := p') (by show 0 ≤ p.aE + 1; have := hF.rn; omega) hout)⟩
  ·obtain ⟨k', p2, r1, r2, r3⟩ := I.fwd y (List.mem_of_getElem? e)
   refine ⟨k', p2, hext k' _ r1, ?_, r3.names fun f _ j _ h1 => hext j _ h1⟩
   have hk' := (List.getElem?_eq_some_iff.1 r2).1
   rw [List.getElem?_set_ne, List.getElem?_append_left hk', r2]
   intro hkk
   subst hkk
   rw [k1] at r1
   exact hj (jG A.iV e A.eq (by injection r1 with r1; exact r1.symm))
  ·refine ⟨w.all.length, wp, hlast, ?_, ?_⟩
   ·rw [List.getElem?_set_ne (by omega)]; simp
   ·refine kj ⟨(show (0 : Int) ≤ 1 by decide), ?_, fun z hz => ?_, by simp, fun z hz => ?_⟩
    ·show [(aJ p.outs x.field).f] = [m.aV x.field]
     rw [q2]
    ·simp at hz; subst hz; exact ⟨Int.le_refl _, by show (0 : Int) < 1; decide⟩
    ·simp at hz; subst hz
     have := hF.part _ q1
     refine ⟨fun e => ?_, this.2⟩
     obtain ⟨j, h1, h2⟩ := this.1 e
     exact ⟨j, h1, hext j _ h2⟩
end
theorem vI : ∀ (l : List Nat) (i : Nat) (h : i < l.length), l[i] ≤ l.sum
 | a :: l, 0, _ => by simp
 | a :: l, i + 1, h => by
  have := vI l i (by simpa using h)
  simp; omega
theorem vG : ∀ (l : List Nat) (i j : Nat) (hi : i < l.length) (hj : j < l.length), i < j → l[i] + l[j] ≤ l.sum
 | a :: l, 0, j + 1, _, hj, _ => by
  have := vI l j (by simpa using hj)
  simp; omega
 | a :: l, i + 1, j + 1, hi, hj, h => by
  have := vG l i j (by simpa using hi) (by simpa using hj) (by omega)
  simp; omega
theorem DW {l : List ae} {p : ae → Bool} {f g : ae} (hf : f ∈ l) (hg : g ∈ l) (pf : p f = true) (pg : p g = true) (hne : f ≠ g) : 2 ≤ l.countP p := by
 rw [List.countP_eq_length_filter]
 have h1 : f ∈ l.filter p := List.mem_filter.2 ⟨hf, pf⟩
 have h2 : g ∈ l.filter p := List.mem_filter.2 ⟨hg, pg⟩
 cases e : l.filter p with
 | nil => rw [e] at h1; cases h1
 | cons a r =>
  cases r with
  | nil =>
   rw [e] at h1 h2
   simp at h1 h2
   exact absurd (h1.trans h2.symm) hne
  | cons b r => simp
theorem rJ {s : aL} {ref : aw} (h : s.dQ ref = 1) {i : Nat} {m : aU} (hi : s.msgs[i]? = some m) {f : ae} (hf : f ∈ m.fields) (ht : f.ty = 15) (hr : f.ref = ref) {j : Nat} {y : aU} (hj : s.msgs[j]? = some y) {g : ae} (hg : g ∈ y.fields) (gt : g.ty = 15) (gr : g.ref = ref) : j = i ∧ g = f := by
 let p : ae → Bool := fun f => decide (f.ty = 15) && f.ref == ref
 have pf : p f = true := by simp [p, ht, hr]
 have pg : p g = true := by simp [p, gt, gr]
 have hpos : ∀ (m : aU) (f : ae), f ∈ m.fields → p f = true → 1 ≤ m.fields.countP p := fun m f hf hp => List.countP_pos_iff.2 ⟨f, hf, hp⟩
 have hs : (s.msgs.map fun m => m.fields.countP p).sum = 1 := h
 obtain ⟨hi1, rfl⟩ := List.getElem?_eq_some_iff.1 hi
 obtain ⟨hj1, rfl⟩ := List.getElem?_eq_some_iff.1 hj
 have c1 := hpos _ f hf pf
 have c2 := hpos _ g hg pg
 have hij : j = i := by
  apply Classical.byContradiction
  intro hne
  rcases Nat.lt_or_gt_of_ne hne with q | q
  ·have := vG (s.msgs.map fun m => m.fields.countP p) j i (by simpa using hj1) (by simpa using hi1) q
   simp only [List.getElem_map] at this
   omega
  ·have := vG (s.msgs.map fun m => m.fields.countP p) i j (by simpa using hi1) (by simpa using hj1) q
   simp only [List.getElem_map] at this
   omega
 refine ⟨hij, ?_⟩
 subst hij
 apply Classical.byContradiction
 intro hne
 have h2 := DW (p := p) hg hf pg pf hne
 have := vI (s.msgs.map fun m => m.fields.countP p) j (by simpa using hj1)
 simp only [List.getElem_map] at this
 omega
section
variable {s t : aL} {x : aS} {m : aU} {at_ : Nat}
theorem nU (h7 : x.kind = 7) {r : aU} {ref : aw} {y : aU} (hl : at_ < s.msgs.length) : y ∈ x.msgs s at_ r ref ↔ y = r ∨ ∃ j, j ≠ at_ ∧ s.msgs[j]? = some y ∧ y.name ≠ ref := by
 unfold aS.msgs
 simp only [h7, show ¬ (7 : Int) = 6 by decide, if_false, List.append_nil, true_and]
 rw [List.mem_filterMap]
 constructor
 ·rintro ⟨⟨a, i⟩, h1, h2⟩
  have h1 := List.mem_zipIdx_iff_getElem?.1 h1
  simp only at h1 h2
  split at h2
  ·cases h2; exact .inl rfl
  ·rename_i hne
   split at h2
   ·cases h2
   ·rename_i hn
    cases h2
    exact .inr ⟨i, hne, h1, hn⟩
 ·rintro (rfl | ⟨j, h1, h2, h3⟩)
  ·exact ⟨(s.msgs[at_], at_), List.mem_zipIdx_iff_getElem?.2 (List.getElem?_eq_getElem hl), by simp⟩
  ·exact ⟨(y, j), List.mem_zipIdx_iff_getElem?.2 h2, by simp [h1, h3]⟩
theorem xp (h7 : x.kind = 7) {r : aU} {ref : aw} {a : aU} {l : List aU} (e : s.msgs = a :: l) (hn : a.name ≠ ref) : (x.msgs s at_ r ref).head? = some (if at_ = 0 then r else a) := by
 unfold aS.msgs
 simp only [h7, show ¬ (7 : Int) = 6 by decide, if_false, List.append_nil, true_and, e, List.zipIdx_cons, List.filterMap_cons]
 by_cases h0 : at_ = 0
 ·subst h0; simp
 ·have : ¬ 0 = at_ := fun q => h0 q.symm
  simp [this, hn, h0]
structure OD (s : aL) (m : aU) (f : ae) (m2 : aU) (g : ae) (j2 : Nat) : Prop where
 ty : f.ty = 15
 at2 : s.msgs[j2]? = some m2
 pos : 1 ≤ j2
 nm : m2.name = f.ref
 ne : f.ref ≠ m.name
 use : s.dQ f.ref = 1
 one : m2.fields = [g]
 find : s.fP f.ref = some m2
theorem c4.boxed (A : c4 s x t m at_) (h7 : x.kind = 7) : ∃ m2 g j2, OD s m (m.aV x.field) m2 g j2 := by
 have ha := A.ask
 simp only [aS.asked, h7, show ¬ (7 : Int) = 3 by decide, show ¬ (7 : Int) = 4 by decide, show ¬ (7 : Int) = 5 by decide, show ¬ (7 : Int) = 6 by decide, show ¬ (7 : Int) = 10 by decide, if_false, if_true] at ha
 simp only [aL.boxed, Bool.and_eq_true, decide_eq_true_eq, Bool.not_eq_true', beq_eq_false_iff_ne] at ha
 obtain ⟨⟨⟨⟨⟨h1, h2⟩, h3⟩, h4⟩, h5⟩, h6⟩ := ha
 rcases ao (fun m' : aU => m'.name == (m.aV x.field).ref) s.msgs 0 with ⟨q1, q2⟩ | ⟨i, hi, q1, q2, q3⟩
 ·have : s.bL (m.aV x.field).ref = -1 := q1
  rw [this] at h3; omega
 ·have hix : s.bL (m.aV x.field).ref = ((0 + i : Nat) : Int) := q1
  rw [hix] at h3
  have hat : s.fP (m.aV x.field).ref = some s.msgs[i] := q2
  rw [hat] at h6
  simp only [Option.map_some] at h6
  cases e : s.msgs[i].fields with
  | nil => rw [e] at h6; cases h6
  | cons g r =>
   cases r with
   | nil => exact ⟨s.msgs[i], g, i, h1, List.getElem?_eq_getElem hi, by omega, by simpa using q3, h4, h5, e, hat⟩
   | cons b r => rw [e] at h6; cases h6
theorem Inv.KT {w : fg} (I : Inv s w) (A : c4 s x t m at_) (h7 : x.kind = 7) : Inv t (w.step x) := by
 have hm : m ∈ s.msgs := List.mem_of_getElem? A.eq
 obtain ⟨k, p, k1, k2, hF⟩ := I.fwd m hm
 have hne : m.name ≠ [] := gy (A.iV.nm m hm)
 have hk : k < w.all.length := (List.getElem?_eq_some_iff.1 k2).1
 have hix : cW w.names x.msg = k := kc (by rw [← A.nm]; exact k1) fun j hj => I.uniq j k _ hj (by rw [← A.nm]; exact k1) (by rw [← A.nm]; exact hne)
 have hgd : w.all.getD k bS = p := by rw [List.getD_eq_getElem?_getD, k2]; rfl
 have hhas : m.dh x.field = true := by have := A.has; simpa [aS.bk, h7] using this
 have hh := fT hhas
 obtain ⟨q1, q2, q3⟩ := fq hF.outs ⟨_, hh.1, hh.2⟩
 have q2 : (aJ p.outs x.field).f = m.aV x.field := q2
 obtain ⟨m2, g, j2, B⟩ := A.boxed h7
 have hfr := A.iV.fr m hm
 have hm2 : m2 ∈ s.msgs := List.mem_of_getElem? B.at2
 have hn2 : m2.name ≠ [] := gy (A.iV.nm m2 hm2)
 obtain ⟨k', p2, r1, r2, F2⟩ := I.fwd m2 hm2
 obtain ⟨j, hj1, hj2⟩ := (hF.part _ q1).1 (by rw [q2]; exact B.ty)
 rw [q2] at hj2
 have hjk : k' = j := I.uniq k' j _ r1 (by rw [B.nm]; exact hj2) hn2
 subst hjk
 have hpart : (aJ p.outs x.field).part.toNat = k' := by rw [hj1]; simp
 have hg2 : w.all.getD k' bS = p2 := by rw [List.getD_eq_getElem?_getD, r2]; rfl
 obtain ⟨G, hG, hGf⟩ : ∃ G, p2.outs = [G] ∧ G.f = g := by
  have := F2.outs
  rw [B.one] at this
  cases e : p2.outs with
  | nil => rw [e] at this; cases this
  | cons a r =>
   rw [e] at this
   simp at this
   exact ⟨a, by rw [this.2], this.1⟩
 let g' : Port := { G with reg := p.aE }
 let p' : aQ := { p with ops := p.ops ++ [{ jb with kind := 5, a := (aJ p.outs x.field).reg, b := p.aE, part := (aJ p.outs x.field).part }], aE := p.aE + 1, outs := bb (aR p.outs x.field) g' }
 have hst : w.step x = ⟨w.all.set k (bT p'), w.names.set k' []⟩ := by
  unfold fg.step
  simp only [hix, h7, if_true, if_false, au, hgd, hpart, hg2, hG, show ¬ (7 : Int) = 6 by decide]
  congr 1
  rw [List.getD_eq_getElem?_getD, List.getElem?_set_self hk]
  simp only [Option.getD_some, List.set_set]
  rfl
 have hout := A.out
 have hmem : ∀ y, y ∈ t.msgs ↔ y = (mF s m x).sort ∨ ∃ j, j ≠ at_ ∧ s.msgs[j]? = some y ∧ y.name ≠ (m.aV x.field).ref := by
  intro y
  have hp : t.msgs.Perm ((x.msgs s at_ (mF s m x) (m.aV x.field).ref).map aU.sort) := by rw [hout]; exact ln _
  rw [hp.mem_iff, List.mem_map]
  constructor
  ·rintro ⟨z, hz, rfl⟩
   rcases (nU h7 A.lt).1 hz with rfl | ⟨i, a1, a2, a3⟩
   ·exact .inl rfl
   ·have hz2 := List.mem_of_getElem? a2
    refine .inr ⟨i, a1, ?_, a3⟩
    rw [aU.kz (A.iV.fr z hz2) (A.iV.br z hz2)]; exact a2
  ·rintro (rfl | ⟨i, a1, a2, a3⟩)
   ·exact ⟨_, (nU h7 A.lt).2 (.inl rfl), rfl⟩
   ·have hz2 := List.mem_of_getElem? a2
    exact ⟨y, (nU h7 A.lt).2 (.inr ⟨i, a1, a2, a3⟩), aU.kz (A.iV.fr y hz2) (A.iV.br y hz2)⟩
 have hnew : (mF s m x).sort ∈ t.msgs := (hmem _).2 (.inl rfl)
 have hrise : dP (·.num) (bO MY (x.eL s m)) := A.FQ.fr _ hnew
 have hset : ∀ (i : Nat) n, w.names[i]? = some n → i ≠ k' → (w.names.set k' [])[i]? = some n := fun i n h hi => by rw [List.getElem?_set_ne (fun q => hi q.symm)]; exact h
 have hun : ∀ (i : Nat) n, (w.names.set k' [])[i]? = some n → n ≠ [] → i ≠ k' ∧ w.names[i]? = some n := fun i n h hn => by
  rw [List.getElem?_set] at h
  split at h
  ·split at h
   ·cases h; exact absurd rfl hn
   ·cases h
  ·rename_i e; exact ⟨fun q => e q.symm, h⟩
 have hkk : k ≠ k' := fun e => by
  rw [e, hj2] at k1
  injection k1 with k1
  exact B.ne k1
 have ef : x.eL s m = (m.fields.filter fun f => !(f.name == x.field)) ++ [g] := by
  simp only [aS.eL, aS.goes, aS.comes, h7]
  simp only [show ¬ (7 : Int) = 2 by decide, show ¬ (7 : Int) = 4 by decide, show ¬ (7 : Int) = 5 by decide, show ¬ (7 : Int) = 6 by decide, if_false, if_true, true_or, or_true, gA, B.find, Option.getD_some, B.one, List.headD_cons]
  rw [dR (by omega) (by omega) (by omega)]
 have hp : (x.eL s m).Perm (g :: m.fields.filter fun f => !(f.name == x.field)) := by rw [ef]; exact List.perm_append_comm
 have hpo : cS (w.names.set k' []) (p.aE + 1) (bb (aR p.outs x.field) g') := by
  have hw := (hF.bX.fV x.field).names (names' := w.names.set k' []) fun y hy i e h1 => hset i _ h1 fun hi => by
   subst hi
   rw [hj2] at h1
   injection h1 with h1
   obtain ⟨hy1, hy2⟩ := List.mem_filter.1 hy
   have := (rJ B.use A.eq hh.1 B.ty rfl A.eq (g := y.f) (by rw [← hF.outs]; exact List.mem_map_of_mem hy1) e h1.symm).2
   rw [this, hh.2] at hy2
   simp at hy2
  refine (hw.mono (by omega)).with ⟨hF.rn, by show p.aE < p.aE + 1; omega⟩ ((hF.bX.fV x.field).new (Int.le_refl _)) ?_
  have hGp := F2.part G (by rw [hG]; simp)
  refine ⟨fun e => ?_, hGp.2⟩
  obtain ⟨i, a1, a2⟩ := hGp.1 e
  refine ⟨i, a1, hset i _ a2 fun hi => ?_⟩
  subst hi
  rw [hj2] at a2
  injection a2 with a2
  have := (rJ B.use A.eq hh.1 B.ty rfl B.at2 (g := G.f) (by rw [B.one, hGf]; simp) e a2.symm).1
  have h3 := B.at2
  rw [this, A.eq] at h3
  cases h3
  exact B.ne B.nm.symm
 have houts : (bb (aR p.outs x.field) g').map (·.f) = bO MY (x.eL s m) := by
  rw [ev, dI, hF.outs]
  have : g'.f = g := hGf
  rw [this]
  exact (iJ (hfr.filter _) hp hrise).symm
 rw [hst]
 refine ⟨by simp [I.len], A.FQ, ?_, fun i i2 n hi hj hn => ?_, fun i n hi hn => ?_, fun y hy => ?_⟩
 ·show (w.names.set k' []).head? = _
  cases e : s.msgs with
  | nil => have := A.lt; rw [e] at this; simp at this
  | cons a l =>
   have hr := I.root
   rw [e] at hr
   simp only [List.head?_cons, Option.map_some] at hr
   have ha0 : s.msgs[0]? = some a := by rw [e]; rfl
   have hna : a.name ≠ (m.aV x.field).ref := fun q => by
    have := jG A.iV ha0 B.at2 (q.trans B.nm.symm)
    have := B.pos
    omega
   have hk0 : k' ≠ 0 := fun q => by
    rw [q, ← List.head?_eq_getElem?, hr] at hj2
    injection hj2 with hj2
    exact hna hj2
   have h1 : (w.names.set k' []).head? = some a.name := by
    rw [← hr]
    cases w.names with
    | nil => rfl
    | cons b r =>
     obtain ⟨i, rfl⟩ : ∃ i, k' = i + 1 := ⟨k' - 1, by omega⟩
     rfl
   rw [h1, hout, lr (xp h7 e hna)]
   simp only [Option.map_some, Option.some.injEq]
   split
   ·rename_i h0
    have := A.eq
    rw [h0, e] at this
    simp at this
    rw [this]; rfl
   ·rfl
 ·exact I.uniq i i2 n (hun i n hi hn).2 (hun i2 n hj hn).2 hn
 ·obtain ⟨a1, a2⟩ := hun i n hi hn
  obtain ⟨y, hy, e⟩ := I.back i n a2 hn
  obtain ⟨i2, hi2⟩ := List.mem_iff_getElem?.1 hy
  by_cases hja : i2 = at_
  ·subst hja
   rw [A.eq] at hi2; cases hi2
   exact ⟨_, hnew, e⟩
  ·refine ⟨y, (hmem y).2 (.inr ⟨i2, hja, hi2, fun q => ?_⟩), e⟩
   rw [← e, q] at a2
   exact a1 (I.uniq i k' _ a2 hj2 (by rw [← q, e]; exact hn))
 ·rcases (hmem y).1 hy with rfl | ⟨i2, b1, b2, b3⟩
  ·exact ⟨k, _, hset k _ k1 hkk, List.getElem?_set_self hk, kj (p := p') (hpo.fit (p := p') (by show 0 ≤ p.aE + 1; have := hF.rn; omega) houts)⟩
  ·obtain ⟨k3, p3, c1, c2, c3⟩ := I.fwd y (List.mem_of_getElem? b2)
   refine ⟨k3, p3, hset k3 _ c1 fun q => ?_, ?_, c3.names fun f hf i e h1 => hset i _ h1 fun q => ?_⟩
   ·rw [q, hj2] at c1
    injection c1 with c1
    exact b3 c1.symm
   ·rw [List.getElem?_set_ne, c2]
    intro q
    subst q
    rw [k1] at c1
    injection c1 with c1
    exact b1 (jG A.iV b2 A.eq c1.symm)
   ·rw [q, hj2] at h1
    injection h1 with h1
    exact b1 (rJ B.use A.eq hh.1 B.ty rfl b2 hf e h1.symm).1
end
theorem zH {x : aS} (h : x.right = true) : 1 ≤ x.kind ∧ x.kind ≤ 10 := by
 simp only [aS.right, Bool.and_eq_true, decide_eq_true_eq] at h
 obtain ⟨⟨⟨⟨⟨⟨⟨⟨⟨⟨q1, q2⟩, _⟩, _⟩, _⟩, _⟩, _⟩, _⟩, _⟩, _⟩, _⟩ := h
 exact ⟨q1, q2⟩
theorem Inv.step {s t : aL} {x : aS} {w : fg} (I : Inv s w) (h : s.apply x = .ok t) : Inv t (w.step x) := by
 obtain ⟨m, at_, A⟩ := gq h
 by_cases h6 : x.kind = 6
 ·exact I.wrap A h6
 ·by_cases h7 : x.kind = 7
  ·exact I.KT A h7
  ·exact I.plain A h6 h7
def iI (s : aL) : fg := ⟨cK s, s.msgs.map (·.name)⟩
theorem pJ (s : aL) : ∀ (l : List ae) (n : Nat), ((l.zipIdx n).map fun (f, k) => kD s f k).map (·.f) = l
 | [], n => rfl
 | f :: l, n => by
  simp only [List.zipIdx_cons, List.map_cons]
  congr 1
  exact pJ s l (n + 1)
theorem nQ (s : aL) : ∀ (l : List ae) (n : Nat), ((l.zipIdx n).map fun (f, k) => kD s f k).map (·.reg) = (List.range' n l.length).map fun (k : Nat) => (k : Int)
 | [], n => rfl
 | f :: l, n => by
  simp only [List.zipIdx_cons, List.map_cons, List.length_cons, List.range'_succ]
  congr 1
  exact nQ s l (n + 1)
theorem kX {s : aL} {m : aU} {y : Port} (h : y ∈ bG s m) : ∃ (k : Nat), k < m.fields.length ∧ y.reg = (k : Int) ∧ y.f ∈ m.fields ∧ y.part = (if y.f.ty = 15 then s.bL y.f.ref else -1) := by
 unfold bG at h
 obtain ⟨⟨f, k⟩, h1, rfl⟩ := List.mem_map.1 h
 have h2 := List.mem_zipIdx_iff_getElem?.1 h1
 simp only at h2
 exact ⟨k, (List.getElem?_eq_some_iff.1 h2).1, rfl, List.mem_of_getElem? h2, rfl⟩
theorem Inv.begin {s : aL} (hs : s.lN) : Inv s (iI s) := by
 have hget : ∀ (i : Nat) n, (s.msgs.map (·.name))[i]? = some n → ∃ m, s.msgs[i]? = some m ∧ m.name = n := fun i n h => by
  rw [List.getElem?_map] at h
  cases e : s.msgs[i]? with
  | none => rw [e] at h; cases h
  | some m => rw [e] at h; simp at h; exact ⟨m, rfl, h⟩
 refine ⟨by simp [iI, cK], hs, by simp [iI], fun i j n hi hj hn => ?_, fun i n hi hn => ?_, fun m hm => ?_⟩
 ·obtain ⟨a, ha, ea⟩ := hget i n hi
  obtain ⟨b, hb, eb⟩ := hget j n hj
  exact jG hs ha hb (ea.trans eb.symm)
 ·obtain ⟨a, ha, ea⟩ := hget i n hi
  exact ⟨a, List.mem_of_getElem? ha, ea⟩
 ·obtain ⟨k, hk⟩ := List.mem_iff_getElem?.1 hm
  refine ⟨k, bT { bS with name := m.name, ins := bG s m, outs := bG s m, aE := m.fields.length }, by simp [iI, hk], by simp [iI, cK, hk], kj ⟨by show (0 : Int) ≤ (m.fields.length : Int); omega, pJ s m.fields 0, fun y hy => ?_, ?_, fun y hy => ?_⟩⟩
  ·obtain ⟨k, h1, h2, _⟩ := kX hy
   refine ⟨by omega, ?_⟩
   show y.reg < (m.fields.length : Int)
   omega
  ·show ((bG s m).map (·.reg)).Nodup
   unfold bG
   rw [nQ]
   exact List.Pairwise.map _ (fun a b hab => by omega) List.nodup_range'
  ·obtain ⟨k, h1, h2, h3, h4⟩ := kX hy
   refine ⟨fun e => ?_, fun e => by rw [h4, if_neg e]⟩
   rw [if_pos e] at h4
   have hr := (hs.refs m hm y.f h3).2 e
   obtain ⟨i, hi, e1, e2⟩ := kf (fun m : aU => m.name == y.f.ref) s.msgs (by show ¬ s.bL y.f.ref < 0; omega)
   refine ⟨i, by rw [h4]; exact e1, ?_⟩
   show (s.msgs.map (·.name))[i]? = _
   rw [List.getElem?_map, List.getElem?_eq_getElem hi]
   simp only [Option.map_some, Option.some.injEq]
   simpa using e2
theorem uq : ∀ {l : List aS} {s : aL} {acc L : List aL} {w : fg}, Inv s w → acc.getLast? = some s → aL.dy l s acc = .ok L → L.length = acc.length + l.length ∧ ∃ t, L.getLast? = some t ∧ Inv t (l.foldl fg.step w)
 | [], s, acc, L, w, I, ha, h => by
  cases h
  exact ⟨by simp, s, ha, I⟩
 | x :: l, s, acc, L, w, I, ha, h => by
  unfold aL.dy at h
  cases e : s.apply x with
  | error k => rw [e] at h; cases h
  | ok t =>
   rw [e] at h
   obtain ⟨h1, h2⟩ := uq (acc := acc ++ [t]) (I.step e) (by simp) h
   refine ⟨by rw [h1]; simp; omega, h2⟩
theorem Bg {s : aL} {l : List aS} {L : List aL} (h : s.all l = .ok L) : L.length = l.length + 1 ∧ ∃ t, L[l.length]? = some t ∧ Inv t (l.foldl fg.step (iI s)) := by
 unfold aL.all at h
 split at h
 ·cases h
 rename_i h1
 split at h
 ·cases h
 have hs := aL.gI (by simpa using h1)
 obtain ⟨h2, t, h3, h4⟩ := uq (Inv.begin hs) (by simp) h
 simp at h2
 refine ⟨by omega, t, ?_, h4⟩
 rw [List.getLast?_eq_getElem?] at h3
 have : L.length - 1 = l.length := by omega
 rwa [this] at h3
structure m3 (s : aL) (w : fg) : Prop where
 ins : ∀ (k : Nat) m, s.msgs[k]? = some m → ∃ p, w.all[k]? = some p ∧ p.ins = bG s m ∧ (m.fields.length : Int) ≤ p.aE
structure aQ.bd (n : Nat) (p : aQ) : Prop where
 ops : p.ops.length ≤ n
 outs : p.outs.length ≤ 10 + 2 * n
 rn : 0 ≤ p.aE
 aE : p.aE ≤ 10 + 2 * (n : Int)
 fB : p.fB.length ≤ 100 * (n + 1)
structure aQ.bs (n : Nat) (p : aQ) : Prop where
 ops : p.ops.length ≤ n + 1
 outs : p.outs.length ≤ 10 + 2 * (n + 1)
 rn : 0 ≤ p.aE
 aE : p.aE ≤ 10 + 2 * ((n : Int) + 1)
 fB : p.fB.length ≤ 100 * (n + 1)
theorem aQ.bd.bs {n : Nat} {p : aQ} (h : p.bd n) : p.bs n := ⟨by have := h.ops; omega, by have := h.outs; omega, h.rn, by have := h.aE; omega, h.fB⟩
theorem aQ.bs.bd {n : Nat} {p : aQ} (h : p.bs n) (hn : n ≤ 16) : (bT p).bd (n + 1) := by
 have e : (bT p).fB = xw p p.outs.length := by unfold xw; rw [List.take_of_length_le (Nat.le_refl _)]; rfl
 refine ⟨h.ops, h.outs, h.rn, by have := h.aE; show p.aE ≤ _; omega, ?_⟩
 rw [e]
 have h1 := qy p p.outs.length
 have h2 := h.fB
 have h3 := h.outs
 omega
theorem aQ.bs.up {n : Nat} {p : aQ} (h : p.bs n) (hn : n ≤ 16) : p.bd (n + 1) := ⟨h.ops, h.outs, h.rn, by have := h.aE; omega, by have := h.fB; omega⟩
theorem MI {n : Nat} {p : aQ} {x : aS} (h : p.bd n) (hk : 1 ≤ x.kind ∧ x.kind ≤ 10) (h6 : x.kind ≠ 6) (h7 : x.kind ≠ 7) : (aP p x).bs n := by
 have h1 := h.ops
 have h2 := h.outs
 have h3 := h.rn
 have h4 := h.aE
 have h5 := h.fB
 have w1 := bQ p.outs x.field
 have w2 := bQ (aR p.outs x.field) x.also
 rcases show x.kind = 1 ∨ x.kind = 2 ∨ x.kind = 3 ∨ x.kind = 4 ∨ x.kind = 5 ∨ x.kind = 8 ∨ x.kind = 9 ∨ x.kind = 10 by omega with e | e | e | e | e | e | e | e
 ·rw [qT e]; exact ⟨by show p.ops.length ≤ _; omega, by show (bb _ _).length ≤ _; rw [eP]; omega, h3, by show p.aE ≤ _; omega, h5⟩
 ·rw [qS e]; exact ⟨by show p.ops.length ≤ _; omega, by show (bb _ _).length ≤ _; rw [eP]; omega, h3, by show p.aE ≤ _; omega, h5⟩
 ·rw [qR e]; exact ⟨by show (p.ops ++ [_]).length ≤ _; simp; omega, by show (bb _ _).length ≤ _; rw [eP]; omega, h3, by show p.aE ≤ _; omega, h5⟩
 ·rw [qQ e]; exact ⟨by show (p.ops ++ [_]).length ≤ _; simp; omega, by show (bb (bb _ _) _).length ≤ _; rw [eP, eP]; omega, by show 0 ≤ p.aE + 2; omega, by show p.aE + 2 ≤ _; omega, h5⟩
 ·rw [qP e]; exact ⟨by show (p.ops ++ [_]).length ≤ _; simp; omega, by show (bb _ _).length ≤ _; rw [eP]; omega, by show 0 ≤ p.aE + 1; omega, by show p.aE + 1 ≤ _; omega, h5⟩
 ·rw [BG e]; exact ⟨by show (p.ops ++ [_]).length ≤ _; simp; omega, by show (dY p x _).length ≤ _; rw [ga]; omega, h3, by show p.aE ≤ _; omega, h5⟩
 ·rw [BF e]; exact ⟨by show (p.ops ++ [_]).length ≤ _; simp; omega, by show (bb _ _).length ≤ _; rw [eP]; omega, by show 0 ≤ p.aE + 1; omega, by show p.aE + 1 ≤ _; omega, h5⟩
 ·rw [vj e]; exact ⟨by show p.ops.length ≤ _; omega, by show (aR _ _).length ≤ _; omega, h3, by show p.aE ≤ _; omega, h5⟩
theorem jV {α : Type} {l : List α} {i : Nat} {a y : α} (h : y ∈ l.set i a) : y = a ∨ y ∈ l := by
 rcases List.mem_or_eq_of_mem_set h with h | h
 ·exact .inr h
 ·exact .inl h
theorem wG {n : Nat} {all : List aQ} {i : Nat} {p : aQ} {x : aS} (hb : ∀ q ∈ all, q.bd n) (hp : all[i]? = some p) (hk : 1 ≤ x.kind ∧ x.kind ≤ 10) : (∀ q ∈ au all i x, q.bs n) ∧ (au all i x).length ≤ all.length + 1 ∧ all.length ≤ (au all i x).length := by
 have h := hb p (List.mem_of_getElem? hp)
 have h1 := h.ops
 have h2 := h.outs
 have h3 := h.rn
 have h4 := h.aE
 have h5 := h.fB
 have w1 := bQ p.outs x.field
 by_cases e6 : x.kind = 6
 ·rw [Gt hp e6]
  refine ⟨fun q hq => ?_, by simp, by simp⟩
  rcases jV hq with rfl | hq
  ·exact ⟨by show (p.ops ++ [_]).length ≤ _; simp; omega, by show (bb _ _).length ≤ _; rw [eP]; omega, by show 0 ≤ p.aE + 1; omega, by show p.aE + 1 ≤ _; omega, h5⟩
  ·rcases List.mem_append.1 hq with hq | hq
   ·exact (hb q hq).bs
   ·have hq := List.mem_singleton.1 hq
    subst hq
    refine ⟨by show 0 ≤ _; omega, by show 1 ≤ _; omega, by show (0 : Int) ≤ 1; decide, by show (1 : Int) ≤ _; omega, ?_⟩
    have := qy { bS with name := x.dest, born := true, aE := 1, ins := [{ (aJ p.outs x.field) with reg := 0 }], outs := [{ (aJ p.outs x.field) with reg := 0 }] } 1
    have h9 : (xw { bS with name := x.dest, born := true, aE := 1, ins := [{ (aJ p.outs x.field) with reg := 0 }], outs := [{ (aJ p.outs x.field) with reg := 0 }] } 1).length ≤ 0 + 1 := this
    show (xw { bS with name := x.dest, born := true, aE := 1, ins := [{ (aJ p.outs x.field) with reg := 0 }], outs := [{ (aJ p.outs x.field) with reg := 0 }] } 1).length ≤ _
    omega
 ·by_cases e7 : x.kind = 7
  ·rw [Gs hp e7]
   refine ⟨fun q hq => ?_, by simp, by simp⟩
   rcases jV hq with rfl | hq
   ·exact ⟨by show (p.ops ++ [_]).length ≤ _; simp; omega, by show (bb _ _).length ≤ _; rw [eP]; omega, by show 0 ≤ p.aE + 1; omega, by show p.aE + 1 ≤ _; omega, h5⟩
   ·exact (hb q hq).bs
  ·rw [Gq hp e6 e7]
   refine ⟨fun q hq => ?_, by simp, by simp⟩
   rcases jV hq with rfl | hq
   ·exact MI h hk e6 e7
   ·exact (hb q hq).bs
theorem pK {l : List Port} {n : aw} (h : ∃ y ∈ l, y.f.name = n) : 0 ≤ bl l n := by
 obtain ⟨y, hy, hn⟩ := h
 rcases ao (fun x : Port => x.f.name == n) l 0 with ⟨q1, q2⟩ | ⟨i, hi, q1, q2, q3⟩
 ·have := List.find?_eq_none.1 q2 y hy
  simp [hn] at this
 ·have e : bl l n = ((0 + i : Nat) : Int) := q1
  omega
structure oy (w : fg) (x : aS) (k : Nat) (p : aQ) : Prop where
 nm : w.names[k]? = some x.msg
 un : ∀ j, w.names[j]? = some x.msg → j = k
 ix : cW w.names x.msg = k
 pt : w.all[k]? = some p
 kd : 1 ≤ x.kind ∧ x.kind ≤ 10
 h5 : x.kind = 5 → 0 ≤ bl (aR p.outs x.field) x.also
 h7 : x.kind = 7 → 0 ≤ bl p.outs x.field ∧ 0 ≤ (aJ p.outs x.field).part ∧ (aJ p.outs x.field).part < (w.all.length : Int) ∧ (w.all.getD (aJ p.outs x.field).part.toNat bS).outs ≠ []
 h8 : x.kind = 8 → (p.outs.map fun y => y.f.name).Nodup ∧ ∀ n ∈ x.names, 0 ≤ bl p.outs n
theorem rE {s t : aL} {w : fg} {x : aS} {m : aU} {at_ : Nat} (I : Inv s w) (A : c4 s x t m at_) : ∃ k p, oy w x k p := by
 have hm : m ∈ s.msgs := List.mem_of_getElem? A.eq
 obtain ⟨k, p, k1, k2, k3⟩ := I.fwd m hm
 have hne : m.name ≠ [] := gy (A.iV.nm m hm)
 have hu : ∀ j, w.names[j]? = some x.msg → j = k := fun j hj => I.uniq j k _ hj (by rw [← A.nm]; exact k1) (by rw [← A.nm]; exact hne)
 have k1' : w.names[k]? = some x.msg := by rw [← A.nm]; exact k1
 have hex : ∀ n, m.dh n = true → ∃ y ∈ p.outs, y.f.name = n := fun n hn => by
  obtain ⟨q1, q2⟩ := fT hn
  obtain ⟨r1, _, r3⟩ := fq k3.outs ⟨_, q1, q2⟩
  exact ⟨_, r1, r3⟩
 refine ⟨k, p, k1', hu, kc k1' hu, k2, zH A.rt, fun h => ?_, fun h => ?_, fun h => ⟨?_, fun n hn => ?_⟩⟩
 ·have hneed := A.has
  have hask := A.ask
  unfold aS.bk at hneed
  rw [h] at hneed
  unfold aS.asked at hask
  rw [h] at hask
  have h1 : m.dh x.also = true := by simp at hneed; exact hneed.2
  have h2 : x.field ≠ x.also := by simp at hask; exact hask.1.1.1.1
  obtain ⟨y, hy, hn⟩ := hex _ h1
  exact pK ⟨y, List.mem_filter.2 ⟨hy, by simp [hn]; exact fun e => h2 e.symm⟩, hn⟩
 ·have hneed := A.has
  unfold aS.bk at hneed
  rw [h] at hneed
  have h1 : m.dh x.field = true := by simp at hneed; exact hneed
  obtain ⟨q1, q2⟩ := fT h1
  obtain ⟨r1, r2, r3⟩ := fq k3.outs ⟨_, q1, q2⟩
  obtain ⟨m2, g, j2, B⟩ := A.boxed h
  have hty : (aJ p.outs x.field).f.ty = 15 := by rw [r2]; exact B.ty
  obtain ⟨j, e1, e2⟩ := (k3.part _ r1).1 hty
  have hm2 : m2 ∈ s.msgs := List.mem_of_getElem? B.at2
  obtain ⟨k', p', l1, l2, l3⟩ := I.fwd m2 hm2
  have href : (aJ p.outs x.field).f.ref = m2.name := by rw [r2]; exact B.nm.symm
  have hjk : j = k' := I.uniq j k' m2.name (by rw [← href]; exact e2) l1 (gy (A.iV.nm m2 hm2))
  subst hjk
  have hjl : j < w.all.length := (List.getElem?_eq_some_iff.1 l2).1
  refine ⟨pK ⟨_, r1, r3⟩, by omega, by omega, ?_⟩
  rw [e1, Int.toNat_natCast, List.getD_eq_getElem?_getD, l2]
  intro h0
  have h0' : p'.outs = [] := h0
  have := l3.outs
  rw [h0', B.one] at this
  cases this
 ·have : (p.outs.map fun y => y.f.name) = m.fields.map (·.name) := by rw [← k3.outs, List.map_map]; rfl
  rw [this]; exact A.iV.fn m hm
 ·have hneed := A.has
  unfold aS.bk at hneed
  rw [if_pos h] at hneed
  exact pK (hex n (List.all_eq_true.1 hneed n hn))
theorem Kept.bind {s : St} {Q R : St → Prop} (h : Kept s Q) (k : ∀ s', Q s' → Kept s' R) : Kept s R := fun E N a w hf => let ⟨s', h1, h2⟩ := h E N a w hf; k s' h2 E N a w h1
theorem Kept.JH {s : St} {Q : St → Prop} (A j : Nat) {H : Hp} {cs : List Hc} (hH : get s .h = some (.hp H)) (hA : H.obj A = some cs) (hj : cs[j]? = some (.v .nsl)) (h : Kept ((.h, .hp (H.set A (cs.set j (.v (.sl []))))) :: s) Q) : Kept s Q := fun E N a w ⟨G, L, hr⟩ => by
 obtain ⟨H0, gH, hok, hmay⟩ := hr.heap
 rw [hH] at gH; cases gH
 obtain ⟨blkA, arr, el, a1, a2, a3, a4, a5⟩ := hok.obj A cs hA
 have hv : V G (arr.getD j undef) .nsl := (a4 j _ hj).2
 have hlt : j < cs.length := (List.getElem?_eq_some_iff.1 hj).1
 refine h E N a w ⟨G, L, hr.nr (w' := w) (arr' := arr) hH hA a1 a2 rfl rfl rfl rfl (fun _ _ => rfl) a2 ⟨rfl, by simpa using a3.1⟩ (fun i x e => ?_) (fun i el esz zs e => ?_)⟩
 ·by_cases hi : i = j
  ·subst hi
   rw [List.getElem?_set_self hlt] at e; cases e
   refine ⟨rfl, ?_⟩
   generalize arr.getD i undef = u at hv
   cases hv
   exact V.slE none 0
  ·rw [List.getElem?_set_ne (by omega)] at e
   exact a4 i x e
 ·by_cases hi : i = j
  ·subst hi
   rw [List.getElem?_set_self hlt] at e; cases e
  ·rw [List.getElem?_set_ne (by omega)] at e
   exact ⟨e, rfl⟩
def sX (all : List aQ) (os : List AV) (n : Nat) : List AV := (all.take n).map aQ.av ++ (fH all os).drop n
theorem F5 (all : List aQ) (os : List AV) (n : Nat) : ∀ e ∈ sX all os n, e.cells.length = 7 := fun e he => by
 rcases List.mem_append.1 he with h | h
 ·obtain ⟨p, _, rfl⟩ := List.mem_map.1 h; rfl
 ·exact gU all os e (List.mem_of_mem_drop h)
theorem xe {all : List aQ} {os : List AV} {n : Nat} {p : aQ} {o : AV} (hp : all[n]? = some p) (ho : os[n]? = some o) : (sX all os n)[n]? = some (ee p o) := by
 have hn := (List.getElem?_eq_some_iff.1 hp).1
 have h1 : ((all.take n).map aQ.av).length = n := by simp; omega
 unfold sX
 rw [List.getElem?_append_right (by omega), h1, Nat.sub_self, List.getElem?_drop, Nat.add_zero]
 exact jH hp ho
theorem F4 {all : List aQ} {os : List AV} {n : Nat} {p : aQ} (hl : os.length = all.length) (hp : all[n]? = some p) : (sX all os n).set n p.av = sX all os (n + 1) := by
 have hn := (List.getElem?_eq_some_iff.1 hp).1
 have h1 : ((all.take n).map aQ.av).length = n := by simp; omega
 have hz : n < (fH all os).length := by rw [dm hl]; exact hn
 unfold sX
 rw [List.set_append_right _ _ (by omega), h1, Nat.sub_self, List.drop_eq_getElem_cons hz, List.set_cons_zero, List.take_add_one, hp]
 simp
structure LF (H0 K : Hp) (A : Nat) (os : List AV) (all : List aQ) (n : Nat) : Prop where
 nx : H0.next ≤ K.next
 old : ∀ i, i < H0.next → K.obj i = H0.obj i
 lo : H0.next ≤ A
 len : os.length = all.length
 row : K.obj A = some (aZ (sX all os n))
 ops : ∀ (i : Nat) o p, n ≤ i → os[i]? = some o → all[i]? = some p → di K o 13 (p.ops.map al.av)
 ids : ∀ (i : Nat) id n e, os[i]? = some (.os id n e) → H0.next ≤ id ∧ id ≠ A
 dist : ∀ (i j : Nat) id n e n' e', os[i]? = some (.os id n e) → os[j]? = some (.os id n' e') → i = j
theorem LH.lf {H0 K : Hp} {A : Nat} {os : List AV} {all : List aQ} (I : LH H0 K A os all) : LF H0 K A os all 0 := ⟨I.nx, I.old, I.lo, I.len, I.row, fun i o p _ h1 h2 => I.ops i o p h1 h2, I.ids, I.dist⟩
theorem Ox {s : St} {H0 K : Hp} {A : Nat} {os : List AV} {all : List aQ} {n : Nat} (hH : get s .h = some (.hp K)) (I : LF H0 K A os all n) (hn : n < all.length) :
  Kept s fun s' => (∀ c, c ≠ .h → get s' c = get s c) ∧ ∃ K', get s' .h = some (.hp K') ∧ LF H0 K' A os all (n + 1) := by
 have hl := I.len
 obtain ⟨p, hp⟩ : ∃ p, all[n]? = some p := ⟨_, List.getElem?_eq_getElem hn⟩
 obtain ⟨o, ho⟩ : ∃ o, os[n]? = some o := ⟨_, List.getElem?_eq_getElem (by omega)⟩
 have hc : (aZ (sX all os n))[n * 7 + 2]? = some (.v o) := by
  rw [jM (F5 all os n) (xe hp ho) (by decide)]; rfl
 have hset : (aZ (sX all os n)).set (n * 7 + 2) (.v (.sl (p.ops.map al.av))) = aZ (sX all os (n + 1)) := by
  rw [oE (F5 all os n) (xe hp ho) (by decide)]
  exact congrArg aZ (F4 hl hp)
 rcases I.ops n o p (Nat.le_refl _) ho hp with ⟨e1, e2⟩ | ⟨id, e1, e2⟩
 ·subst e1
  rw [e2] at hset
  refine Kept.JH A (n * 7 + 2) hH I.row hc (Kept.now ⟨fun c hc => by simp [get, Ne.symm hc], _, rfl, ?_⟩)
  refine ⟨I.nx, fun i hi => ?_, I.lo, hl, by rw [hset]; exact Hp.bN, fun i o2 p2 h1 h2 h3 => ?_, I.ids, I.dist⟩
  ·show (if i = A then _ else K.obj i) = _
   rw [if_neg (by have := I.lo; omega)]; exact I.old i hi
  ·refine jX (I.ops i o2 p2 (by omega) h2 h3) fun id n e h => ?_
   show (if id = A then _ else K.obj id) = _
   rw [if_neg (by rw [h] at h2; exact (I.ids i id n e h2).2)]
 ·subst e1
  have hne : A ≠ id := fun e => (I.ids n id _ _ ho).2 e.symm
  refine Kept.M1 A (n * 7 + 2) (ys := p.ops.map al.av) hH I.row hc e2 hne (fN _) (by rw [List.take_of_length_le]; rw [dC (fN _)]; exact Nat.le_refl _) (Nat.le_refl _) (Kept.now ⟨fun c hc => by simp [get, Ne.symm hc], _, rfl, ?_⟩)
  rw [List.take_of_length_le (Nat.le_refl _), hset]
  refine ⟨I.nx, fun i hi => ?_, I.lo, hl, Hp.bN, fun i o2 p2 h1 h2 h3 => ?_, I.ids, I.dist⟩
  ·show (if i = A then _ else if i = id then none else K.obj i) = _
   have := (I.ids n id _ _ ho).1
   rw [if_neg (by have := I.lo; omega), if_neg (by omega)]; exact I.old i hi
  ·refine jX (I.ops i o2 p2 (by omega) h2 h3) fun id2 n2 e h => ?_
   rw [h] at h2
   show (if id2 = A then _ else if id2 = id then none else K.obj id2) = _
   rw [if_neg (I.ids i id2 n2 e h2).2, if_neg (fun e3 => by
    subst e3
    have := I.dist i n id2 _ _ _ _ h2 ho
    omega)]
theorem Nj {H0 : Hp} {A : Nat} {os : List AV} {all : List aQ} : ∀ (k n : Nat) {s : St} {K : Hp} (_ : get s .h = some (.hp K)) (_ : LF H0 K A os all n) (_ : n + k = all.length),
  Kept s fun s' => (∀ c, c ≠ .h → get s' c = get s c) ∧ ∃ K', get s' .h = some (.hp K') ∧ LF H0 K' A os all all.length
 | 0, n, s, K, hH, I, hk => by
  have : n = all.length := by omega
  subst this
  exact Kept.now ⟨fun _ _ => rfl, K, hH, I⟩
 | k + 1, n, s, K, hH, I, hk => (Ox hH I (by omega)).bind fun s' ⟨h1, K', h2, I'⟩ => (Nj k (n + 1) h2 I' (by omega)).bind fun s2 ⟨h3, K2, h4, I2⟩ => Kept.now ⟨fun c hc => (h3 c hc).trans (h1 c hc), K2, h4, I2⟩
theorem Kept.GL {s : St} {Q : St → Prop} (b : Nat) {H0 K : Hp} {A : Nat} {os : List AV} {all : List aQ} (I : LH H0 K A os all) (hH : get s .h = some (.hp K)) (hk : get s (.b b) = some (.bx [.v (.os A all.length 7)]))
  (h : ∀ s' K', (∀ c, c ≠ .h → c ≠ .b b → get s' c = get s c) → get s' (.b b) = some (.bx [.v (.sl (all.map aQ.av))]) → get s' .h = some (.hp K') → H0.next ≤ K'.next → (∀ i, i < H0.next → K'.obj i = H0.obj i) → Q s') : Kept s Q := by
 refine (Nj all.length 0 hH I.lf (by omega)).bind fun s' ⟨h1, K', h2, I'⟩ => ?_
 have bw : K'.obj A = some (aZ (all.map aQ.av)) := by
  have := I'.row
  rw [this]
  unfold sX
  rw [List.take_of_length_le (Nat.le_refl _), List.drop_eq_nil_of_le (by rw [dm I.len]; exact Nat.le_refl _), List.append_nil]
 refine Kept.GN b A (ys := all.map aQ.av) (cs := [.v (.os A all.length 7)]) (ds := [.v (.sl (all.map aQ.av))]) (esz := 7) (by rw [h1 _ (by simp)]; exact hk) h2 bw (fun e he => by obtain ⟨p, _, rfl⟩ := List.mem_map.1 he; rfl) (by
  have e : (all.map aQ.av).take all.length = all.map aQ.av := List.take_of_length_le (by simp)
  simp [kG, gT, e]) (Kept.now (h _ (K'.del A) (fun c hc1 hc2 => ?_) ?_ ?_ I'.nx fun i hi => ?_))
 ·simp [get, Ne.symm hc1, Ne.symm hc2]; exact h1 c hc1
 ·simp [get]
 ·simp [get]
 ·show (if i = A then none else K'.obj i) = _
  rw [if_neg (by have := I'.lo; omega)]; exact I'.old i hi
theorem LH.begin {H : Hp} {s : aL} : LH H (H.bump s.msgs.length (aZ ((cK s).map lY))) (H.next + s.msgs.length) (List.replicate s.msgs.length .nsl) (cK s) := by
 have hlen : (cK s).length = s.msgs.length := by unfold cK; simp
 have hget : ∀ (i : Nat) (o : AV), (List.replicate s.msgs.length AV.nsl)[i]? = some o → o = AV.nsl := fun i o h => List.eq_of_mem_replicate (n := s.msgs.length) (List.mem_of_getElem? h)
 have hz : fH (cK s) (List.replicate s.msgs.length .nsl) = (cK s).map lY := by
  unfold fH
  refine List.ext_getElem? fun i => ?_
  rw [List.getElem?_zipWith, List.getElem?_map]
  by_cases hi : i < s.msgs.length
  ·rw [List.getElem?_eq_getElem (show i < (cK s).length by omega), List.getElem?_replicate, if_pos hi]; rfl
  ·rw [List.getElem?_eq_none (show (cK s).length ≤ i by omega)]; rfl
 refine ⟨tP _ _, show H.next ≤ H.next + _ + 1 by omega, fun i hi => Hp.mS hi, by omega, by simp [hlen], by rw [hz]; exact Hp.de, fun i o p h1 h2 => ?_, fun i id n e h => ?_, fun i j id n e n' e' h1 h2 => ?_⟩
 ·have hm := List.mem_of_getElem? h2
  obtain ⟨m, _, rfl⟩ := List.mem_map.1 (show p ∈ s.msgs.map fun m => bT { bS with name := m.name, ins := bG s m, outs := bG s m, aE := m.fields.length } from hm)
  exact .inl ⟨hget i o h1, rfl⟩
 ·have := hget i _ h; cases this
 ·have := hget i _ h1; cases this
theorem kF : lk Tryz.prog 37 = some (true, 1) := by kernel_rfl
theorem HY : Tryz.prog.underlying 100 = some (TypeDesc.slice 9) := Tryz.underlying100
theorem xD {s : aL} {l : List aS} {L : List aL} (hs : s.eK) (hb : ∀ x ∈ l, x.eK ∧ x.names.length ≤ 1000) (hl : l.length ≤ 9223372036854775807) (h : s.all l = .ok L) : Pure Tryz.prog 25 [s.av, .sl (l.map aS.av)] (.tup [.sl (L.map aL.av), .int .i64 (wI s l), .int .i64 0]) := by
 have := Jw s l hs hb hl
 rw [h] at this; exact this
theorem xE {s : aL} {l : List aS} {e : Int} (hs : s.eK) (hb : ∀ x ∈ l, x.eK ∧ x.names.length ≤ 1000) (hl : l.length ≤ 9223372036854775807) (h : s.all l = .error e) : Pure Tryz.prog 25 [s.av, .sl (l.map aS.av)] (.tup [.sl [], .int .i64 (wI s l), .int .i64 e]) := by
 have := Jw s l hs hb hl
 rw [h] at this; exact this
theorem tX : ∀ {l : List aS} {s : aL} {acc : List aL} {e : Int}, aL.dy l s acc = .error e → e ≠ 0
 | [], _, _, _, h => by cases h
 | x :: l, s, acc, e, h => by
  unfold aL.dy at h
  split at h
  ·exact tX h
  ·rename_i e2 h2
   cases h
   exact tT h2
theorem yV {s : aL} {l : List aS} {e : Int} (h : s.all l = .error e) : e ≠ 0 := by
 unfold aL.all at h
 split at h
 ·rename_i hc; cases h; exact hc
 ·split at h
  ·cases h; decide
  ·exact tX h
def cA (ps : List aQ) : AV := .agg [.sl (ps.map aQ.av)]
def lO (s : aL) (l : List aS) : AV := match s.all l with
 | .ok _ => .tup [cA (lower s l), .int .i64 0]
 | .error _ => .tup [.agg [.sl []], .int .i64 1]
structure LI (s : aL) (l : List aS) (L : List aL) (H : Hp) (q : Nat) (w : fg) (K : Hp) (A : Nat) (os : List AV) : Prop where
 lh : LH H K A os w.all
 eq : w = (l.take q).foldl fg.step (iI s)
 bd : ∀ p ∈ w.all, p.bd q
 len : w.all.length ≤ 6 + q
 inv : ∃ t acc, Inv t w ∧ acc.getLast? = some t ∧ aL.dy (l.drop q) t acc = .ok L
theorem yO {s : aL} (hs : s.sm) : ∀ p ∈ cK s, p.bd 0 := fun p hp => by
 obtain ⟨m, hm, rfl⟩ := List.mem_map.1 (show p ∈ s.msgs.map fun m => bT (mC s m) from hp)
 have hf := hs.f m hm
 have hpo : (bG s m).length = m.fields.length := by unfold bG; simp
 refine ⟨by show 0 ≤ 0; omega, by show (bG s m).length ≤ _; omega, by show 0 ≤ (m.fields.length : Int); omega, by show (m.fields.length : Int) ≤ _; omega, ?_⟩
 have e : (bT (mC s m)).fB = xw (mC s m) (mC s m).outs.length := by unfold xw; rw [List.take_of_length_le (Nat.le_refl _)]; rfl
 rw [e]
 have := qy (mC s m) (mC s m).outs.length
 have h0 : (mC s m).fB.length = 0 := rfl
 have h1 : (mC s m).outs.length = (bG s m).length := rfl
 omega
theorem LI.start {s : aL} {l : List aS} {L : List aL} {H : Hp} (h : s.all l = .ok L) : LI s l L H 0 (iI s) (H.bump s.msgs.length (aZ ((cK s).map lY))) (H.next + s.msgs.length) (List.replicate s.msgs.length .nsl) := by
 unfold aL.all at h
 split at h
 ·cases h
 ·rename_i hc
  have hok := aL.gI (s := s) (by simpa using hc)
  split at h
  ·cases h
  ·refine ⟨LH.begin, rfl, yO hok.sm, ?_, s, [s], Inv.begin hok, rfl, h⟩
   show (cK s).length ≤ 6
   have := hok.sm.m
   unfold cK; simp; omega
theorem ox {s : aL} {l : List aS} {L : List aL} (h : s.all l = .ok L) : s.iN = 0 ∧ l.length ≤ 16 := by
 unfold aL.all at h
 split at h
 ·cases h
 ·rename_i hc
  split at h
  ·cases h
  ·exact ⟨by simpa using hc, by omega⟩
theorem LI.go {s : aL} {l : List aS} {L : List aL} {H : Hp} {q : Nat} {w : fg} {K : Hp} {A : Nat} {os : List AV} (I : LI s l L H q w K A os) (hq : q < l.length) :
  ∃ k p o, oy w l[q] k p ∧ os[k]? = some o ∧ k < w.all.length ∧ w.names.length = w.all.length ∧ ∃ t acc, Inv t (w.step l[q]) ∧ acc.getLast? = some t ∧ aL.dy (l.drop (q + 1)) t acc = .ok L := by
 obtain ⟨t, acc, I1, h1, h2⟩ := I.inv
 rw [List.drop_eq_getElem_cons hq] at h2
 unfold aL.dy at h2
 split at h2
 ·rename_i t' h3
  obtain ⟨m, at_, A1⟩ := gq h3
  obtain ⟨k, p, W⟩ := rE I1 A1
  have hk := (List.getElem?_eq_some_iff.1 W.pt).1
  have hl := I.lh.len
  exact ⟨k, p, os[k]'(by omega), W, List.getElem?_eq_getElem (by omega), hk, I1.len, t', acc ++ [t'], I1.step h3, by simp, h2⟩
 ·cases h2
theorem LI.next {s : aL} {l : List aS} {L : List aL} {H : Hp} {q : Nat} {w : fg} {K : Hp} {A : Nat} {os : List AV} (I : LI s l L H q w K A os) (hq : q < l.length) (hq16 : q ≤ 16) {k : Nat} {p : aQ} (W : oy w l[q] k p)
  (hg : ∃ t acc, Inv t (w.step l[q]) ∧ acc.getLast? = some t ∧ aL.dy (l.drop (q + 1)) t acc = .ok L) {K1 : Hp} {A1 : Nat} {C7 : List AV} (J : LH H K1 A1 C7 (au w.all k l[q])) {p1 : aQ} {o1 : AV} (hp1 : (au w.all k l[q])[k]? = some p1) (ho1 : C7[k]? = some o1) :
  LI s l L H (q + 1) (w.step l[q]) (K1.set A1 (aZ ((fH (au w.all k l[q]) C7).set k (ee (bT p1) o1)))) A1 (C7.set k o1) := by
 obtain ⟨hb, hlen, _⟩ := wG I.bd W.pt W.kd
 have hall : (w.step l[q]).all = (au w.all k l[q]).set k (bT p1) := by
  show ((au w.all (cW w.names (l[q]).msg) l[q]).set (cW w.names (l[q]).msg) (bT ((au w.all (cW w.names (l[q]).msg) l[q]).getD (cW w.names (l[q]).msg) bS))) = _
  rw [W.ix, List.getD_eq_getElem?_getD, hp1]; rfl
 refine ⟨by rw [hall]; exact J.put (q := bT p1) hp1 ho1 (Mv.same J.fin (J.ops k o1 p1 ho1 hp1)), ?_, fun y hy => ?_, ?_, hg⟩
 ·rw [List.take_add_one, List.getElem?_eq_getElem hq, List.foldl_append, ← I.eq]; rfl
 ·rw [hall] at hy
  rcases jV hy with rfl | hy
  ·exact (hb p1 (List.mem_of_getElem? hp1)).bd hq16
  ·exact (hb y hy).up hq16
 ·rw [hall, List.length_set]
  have := I.len
  omega
def vl (w : fg) (x : aS) (p : aQ) : List aw := if x.kind = 7 then w.names.set (aJ p.outs x.field).part.toNat [] else w.names
theorem sR {w : fg} {x : aS} {k : Nat} {p : aQ} (W : oy w x k p) : (w.step x).names = if x.kind = 6 then vl w x p ++ [x.dest] else vl w x p := by
 have e : w.all.getD (cW w.names x.msg) bS = p := by rw [W.ix, List.getD_eq_getElem?_getD, W.pt]; rfl
 show (if x.kind = 6 then (if x.kind = 7 then w.names.set (aJ (w.all.getD (cW w.names x.msg) bS).outs x.field).part.toNat [] else w.names) ++ [x.dest] else _) = _
 rw [e]; rfl
theorem CE (l : List aw) : (l.map AV.str).flatMap AV.cells = l.map AV.str := by
 induction l with
 | nil => rfl
 | cons a l ih => rw [List.map_cons, List.flatMap_cons, ih]; rfl
theorem N1 {l : List aw} {k : Nat} (hk : k < l.length) : wP false 1 ((((l.map AV.str).flatMap AV.cells).drop (k * 1)).map .v) = some (.v (.str l[k])) := by
 rw [CE]
 show (List.map Sv.v _)[0]? = _
 rw [List.getElem?_map, List.getElem?_drop, Nat.mul_one, Nat.add_zero, List.getElem?_map, List.getElem?_eq_getElem hk]; rfl
theorem yu {xs : List AV} {k : Nat} {a : AV} (h : k < xs.length) : jz xs k [a] = xs.set k a := by
 unfold jz
 rw [List.set_eq_take_append_cons_drop, if_pos h]
 simp
theorem N5 {rest : List (aI × CV)} {n n' t el esz : Nat} {a b : List AV} (hn : n = n') (h : a = b) : ((aI.s 10, CV.sv (.om t n)) :: (aI.t t, CV.tk true el esz a) :: rest) = [(aI.s 10, CV.sv (.om t n')), (aI.t t, CV.tk true el esz b)] ++ rest := by rw [hn, h]; rfl
theorem Og {v : CV} {rest : List (aI × CV)} {n n' t el esz : Nat} {a b : List AV} (hn : n = n') (h : a = b) : ((aI.s 11, v) :: (aI.s 10, CV.sv (.om t n)) :: (aI.t t, CV.tk true el esz a) :: rest) = [(aI.s 11, v), (aI.s 10, CV.sv (.om t n')), (aI.t t, CV.tk true el esz b)] ++ rest := by rw [hn, h]; rfl
theorem Om {v : CV} {rest : List (aI × CV)} {A n n' m m' t el esz : Nat} {a b : List AV} {K : Hp} (h1 : n = n') (h2 : m = m') (h : a = b) : ((aI.s 12, v) :: (aI.s 9, CV.sv (.v (.os A n 7))) :: (aI.s 10, CV.sv (.om t m)) :: (aI.t t, CV.tk true el esz a) :: (aI.h, CV.hp K) :: rest) = [(aI.s 12, v), (aI.s 9, CV.sv (.v (.os A n' 7))), (aI.s 10, CV.sv (.om t m')), (aI.t t, CV.tk true el esz b), (aI.h, CV.hp K)] ++ rest := by rw [h1, h2, h]; rfl
theorem Et {s : St} {t : Nat} {x : Sv} (h : get s (.s t) = some (.sv x)) : gS (.tmp t) s = some x := by simp [gS, h]
theorem Lp {s : St} {t : Nat} {a : AV} (h : get s (.s t) = some (.sv (.v a))) : cV (.tmp t) s = some a := by simp [cV, gS, h, Sv.av]
theorem sS {w : fg} {x : aS} {p : aQ} : (vl w x p).length = w.names.length := by unfold vl; split <;> simp
theorem FU {w : fg} {x : aS} {p : aQ} (h : x.kind = 7) (hlt : (aJ p.outs x.field).part.toNat < w.names.length) : jz (w.names.map AV.str) ((aJ p.outs x.field).part.toNat * 1) [.str []] = (vl w x p).map AV.str := by
 rw [Nat.mul_one, yu (by simpa using hlt)]
 unfold vl
 rw [if_pos h, List.map_set]
theorem Pb {s : aL} {i : Nat} (hi : i < (cK s).length) : ((cK s).map lY)[i]? = some (lY (cK s)[i]) := by rw [List.getElem?_map, List.getElem?_eq_getElem hi]; rfl
theorem EB {w : fg} {x : aS} {k : Nat} {p : aQ} (W : oy w x k p) : (au w.all k x).length = (w.step x).all.length := by
 show _ = ((au w.all (cW w.names x.msg) x).set (cW w.names x.msg) _).length
 rw [List.length_set, W.ix]
mutual
theorem bF.mD {D : Nat → Prop} : ∀ v : bF, bH D v.av
 | .mk n s m => by
  rw [bF.av]
  exact .agg _ (ab.cons (.int _ _) (ab.cons (.str _) (ab.cons (.sl _ (uE m)) ab.nil)))
theorem Slot.mD {D : Nat → Prop} : ∀ v : Slot, bH D v.av
 | .mk n vs => by
  rw [Slot.av]
  exact .agg _ (ab.cons (.int _ _) (ab.cons (.sl _ (wU vs)) ab.nil))
theorem Tree.mD {D : Nat → Prop} : ∀ v : Tree, bH D v.av
 | .mk ss r => by
  rw [Tree.av]
  exact .agg _ (ab.cons (.sl _ (uK ss)) (ab.cons (.sl _ (ab.map fun x _ => .agg _ (ab.cons (.int _ _) (ab.cons (.int _ _) (ab.cons (.int _ _) (ab.cons (.str _) ab.nil)))))) ab.nil))
theorem uE {D : Nat → Prop} : ∀ l : List Tree, ab D (ir l)
 | [] => by rw [ir]; exact ab.nil
 | t :: l => by rw [ir]; exact ab.cons t.mD (uE l)
theorem wU {D : Nat → Prop} : ∀ l : List bF, ab D (kx l)
 | [] => by rw [kx]; exact ab.nil
 | t :: l => by rw [kx]; exact ab.cons t.mD (wU l)
theorem uK {D : Nat → Prop} : ∀ l : List Slot, ab D (ji l)
 | [] => by rw [ji]; exact ab.nil
 | t :: l => by rw [ji]; exact ab.cons t.mD (uK l)
end
theorem Port.mD {D : Nat → Prop} (x : Port) : bH D x.av := .agg _ (ab.cons (.str _) (ab.cons (.int _ _) (ab.cons (.int _ _) (ab.cons (.str _) (ab.cons (.bool _) (ab.cons (.bool _) (ab.cons (.str _) (ab.cons (.int _ _) (ab.cons (.int _ _) ab.nil)))))))))
theorem al.mD {D : Nat → Prop} (x : al) : bH D x.av := .agg _ (ab.cons (.int _ _) (ab.cons (.int _ _) (ab.cons (.int _ _) (ab.cons (.int _ _) (ab.cons (.int _ _) (ab.cons (.int _ _) (ab.cons (.int _ _) (ab.cons (.int _ _) (ab.cons (.int _ _) (ab.cons (.sl _ (ab.map fun n _ => .int _ _)) (ab.cons (.int _ _) (ab.cons (.str _) (ab.cons (.sl _ (ab.map fun t _ => t.mD)) ab.nil)))))))))))))
theorem aQ.mD {D : Nat → Prop} (x : aQ) : bH D x.av := .agg _ (ab.cons (.str _) (ab.cons (.sl _ (ab.map fun y _ => y.mD)) (ab.cons (.sl _ (ab.map fun y _ => y.mD)) (ab.cons (.sl _ (ab.map fun y _ => y.mD)) (ab.cons (.int _ _) (ab.cons (.sl _ (ab.map fun y _ => .int _ _)) (ab.cons (.bool _) ab.nil)))))))
theorem Cm {D : Nat → Prop} (s : aL) (l : List aS) : bH D (lO s l) := by
 unfold lO
 split
 ·exact .tup _ (ab.cons (.agg _ (ab.cons (.sl _ (ab.map fun y _ => y.mD)) ab.nil)) (ab.cons (.int _ _) ab.nil))
 ·exact .tup _ (ab.cons (.agg _ (ab.cons (.sl _ ab.nil) ab.nil)) (ab.cons (.int _ _) ab.nil))
theorem Fg {s : aL} {l : List aS} {L : List aL} {H : Hp} {q : Nat} {w : fg} {K : Hp} {A : Nat} {os : List AV} (h : s.all l = .ok L) (hq : l.length ≤ q) (I : LI s l L H q w K A os) : AV.tup [.agg [.sl (w.all.map aQ.av)], .int .i64 0] = lO s l := by
 unfold lO
 rw [h, I.eq, List.take_of_length_le hq]; rfl
theorem JQ (s : aL) : s.msgs.length = (iI s).all.length := by show _ = (s.msgs.map _).length; simp
def FV (s : aL) (i : Nat) : List aw := ((cK s).take i).map (·.name)
theorem JF {s : aL} {i : Nat} (h : s.msgs.length ≤ i) : FV s i = (iI s).names := by
 have hl : (cK s).length = s.msgs.length := by unfold cK; simp
 unfold FV
 rw [List.take_of_length_le (by omega)]
 show (s.msgs.map _).map _ = s.msgs.map _
 rw [List.map_map]; rfl
theorem x9 {s : aL} {i : Nat} (hi : i < (cK s).length) : (FV s i).map AV.str ++ [.str (cK s)[i].name] = (FV s (i + 1)).map AV.str := by
 unfold FV
 rw [List.take_add_one, List.getElem?_eq_getElem hi, List.map_append, List.map_append]; rfl
theorem KH {w : fg} {x : aS} {k0 : Nat} {p : aQ} (W : oy w x k0 p) {k : Nat} (hk : k < w.names.length) : (w.names[k] == x.msg) = decide (k = k0) := by
 by_cases e : k = k0
 ·subst e
  have := W.nm
  rw [List.getElem?_eq_getElem hk] at this
  rw [Option.some.inj this]
  simp
 ·have : w.names[k] ≠ x.msg := fun h => e (W.un k (by rw [List.getElem?_eq_getElem hk, h]))
  simp [e, this]
theorem IN (s : aL) (l : List aS) (hs : s.eK) (hb : ∀ x ∈ l, x.eK ∧ x.names.length ≤ 1000) (hl : l.length ≤ 9223372036854775807) : Pure Tryz.prog 26 [s.av, .sl (l.map aS.av)] (lO s l) := by
 refine fun H => cB.fin fun hfin => ?_
 refine cB.jA Tryz.func26 rfl rfl (aH rfl) (Cm _ _) ?_
 refine aK.seq (aK.region ?_)
 refine aD.run II 3 rfl ?_
 refine aD.nil (aK.seq (aK.region ?_))
 refine aD.run II 2 rfl ?_
 cases hp1 : s.all l with
 | ok x1 => 
  refine aD.c1 rfl (aX (aH rfl) (Fn rfl) rfl (xD hs hb hl hp1)) ?_
  refine aD.run II 7 rfl ?_
  refine aD.nil (aK.seq (aK.seq (aK.region ?_)))
  refine aD.run II 2 rfl ?_
  refine aD.nil ?_
  refine aK.q7 rfl rfl ?_
  refine aK.skip (aK.seq (aK.region ?_))
  refine aD.run II 1 rfl ?_
  refine aD.c2 rfl (bf (aH rfl) (Fn rfl) rfl rfl (IX s (aL.gI (ox hp1).1).sm H)) ?_
  refine aD.run II 1 rfl ?_
  refine aD.nil (aK.seq (aK.region ?_))
  refine aD.c2 rfl (Ez («as» := []) (aH rfl) bZ dn rfl rfl rfl (gQ rfl) rfl) ?_
  refine aD.run II 1 rfl ?_
  refine aD.nil (aK.seq (aK.seq (aK.region ?_)))
  refine aD.run II 1 rfl ?_
  refine aD.nil (aK.blk ?_)
  refine aK.cy (Kept.az [.s 11, .s 10, .t 28, .h, .s 1, .s 4, .b 4, .s 9] rfl (by decide) (Kept.now ?_))
  refine aK.k7 (fun (i : Nat) => [(.s 11, .sv (.v (.int .i64 (i : Int)))), (.s 10, .sv (.om 28 ((FV s i).map AV.str).length)), (.t 28, .tk true 9 1 ((FV s i).map AV.str))]) _ (fun (i : Nat) => True) (fun (i : Nat) => s.msgs.length - i) 0 rfl trivial ?_
  rintro i hI
  have hbl : (cK s).length = s.msgs.length := (by unfold cK; simp)
  have hsm := (aL.gI (ox hp1).1).sm.m
  refine aK.seq (aK.seq (aK.region ?_))
  refine aD.run II 4 rfl ?_
  refine aD.nil ?_
  refine aK.cond rfl (fun hc1 => ?_) (fun hc1 => ?_)
  ·have hi := MP hc1
   refine aK.skip (aK.seq (aK.blk (aK.region ?_)))
   refine aD.run II 3 rfl ?_
   refine aD.c1 rfl (bR (aH rfl) eH rfl rfl (Int.natCast_nonneg _) (by omega)) ?_
   refine aD.run II 1 rfl ?_
   refine aD.c1 rfl (da (aH rfl) sd rfl rfl Hp.de (An _) rfl (Pb (by omega)) rfl) ?_
   refine aD.run II 1 rfl ?_
   refine aD.c3 rfl (FO (aH rfl) bZ rfl rfl rfl rfl rfl rfl (by rw [List.length_map]; have : (FV s i).length ≤ i := (by unfold FV; simp; omega); simp only [List.length_cons, List.length_nil]; omega) (by rw [List.length_map]; have : (FV s i).length ≤ i := (by unfold FV; simp; omega); simp only [List.length_cons, List.length_nil]; omega)) ?_
   refine aD.run II 1 rfl ?_
   refine aD.nil (aK.region ?_)
   refine aD.run II 3 rfl ?_
   refine aD.kept (Kept.c6 11 rfl (inc (by omega)) (Kept.az [.s 11, .s 10, .t 42, .h, .s 1, .s 4, .b 4, .s 9] rfl (by decide) (Kept.cO 42 28 (by decide) rfl (Kept.now ?_))))
   exact ⟨i + 1, by omega, trivial, Og (congrArg List.length (x9 (by omega))) (x9 (by omega))⟩
  ·have hi := zy hc1
   rw [JF hi]
   refine aK.exit (aK.seq (aK.seq ?_))
   refine aK.cy (Kept.ly rfl (rfl) (Kept.O4 9 rfl (congrArg (fun n => AV.os (H.next + s.msgs.length) n 7) (JQ s)) (Kept.now ?_))) --  (Kept.now ?_))
   refine aK.region ?_
   refine aD.run II 1 rfl ?_
   refine aD.nil (aK.blk ?_)
   refine aK.cy (Kept.az [.s 12, .s 9, .s 10, .t 28, .h, .s 1, .s 4, .b 4] rfl (by decide) (Kept.now ?_))
   refine aK.k7 (fun ((q, w, K, A, os) : Nat × fg × Hp × Nat × List AV) => [(.s 12, .sv (.v (.int .i64 (q : Int)))), (.s 9, .sv (.v (.os A w.all.length 7))), (.s 10, .sv (.om 28 (w.names.map AV.str).length)), (.t 28, .tk true 9 1 (w.names.map AV.str)), (.h, .hp K)]) _ (fun ((q, w, K, A, os) : Nat × fg × Hp × Nat × List AV) => LI s l x1 H q w K A os) (fun ((q, w, K, A, os) : Nat × fg × Hp × Nat × List AV) => l.length - q) (0, iI s, H.bump s.msgs.length (aZ ((cK s).map lY)), H.next + s.msgs.length, List.replicate s.msgs.length .nsl) rfl (LI.start hp1) ?_
   rintro ⟨q, w, K, A, os⟩ hI
   dsimp only at hI
   refine aK.seq (aK.seq (aK.region ?_))
   refine aD.run II 4 rfl ?_
   refine aD.nil ?_
   refine aK.cond rfl (fun hc2 => ?_) (fun hc2 => ?_)
   ·have hq := cz hc2
    obtain ⟨k0, p0, o0, W, ho0, hk0, hnl, hgo⟩ := hI.go hq
    have hq16 := (ox hp1).2
    have hlen := hI.len
    refine aK.skip (aK.seq (aK.blk (aK.seq (aK.region ?_))))
    refine aD.run II 1 rfl ?_
    refine aD.nil (aK.seq (aK.seq (aK.region ?_)))
    refine aD.run II 1 rfl ?_
    refine aD.nil (aK.blk ?_)
    refine aK.cy (Kept.az [.s 14, .s 13, .h, .s 1, .s 4, .b 4, .s 9, .s 10, .t 28, .s 12] rfl (by decide) (Kept.now ?_))
    refine aK.k7 (fun ((k, a) : Nat × Int) => [(.s 14, .sv (.v (.int .i64 (k : Int)))), (.s 13, .sv (.v (.int .i64 a)))]) _ (fun ((k, a) : Nat × Int) => a = if k0 < k then (k0 : Int) else -1) (fun ((k, a) : Nat × Int) => w.names.length - k) (0, -1) rfl rfl ?_
    rintro ⟨k, a⟩ hK
    refine aK.seq (aK.seq (aK.region ?_))
    refine aD.run II 2 rfl ?_
    refine aD.c1 rfl (FE (aH rfl) HY rfl) ?_
    refine aD.run II 1 rfl ?_
    refine aD.nil ?_
    refine aK.cond rfl (fun hc3 => ?_) (fun hc3 => ?_)
    ·have hk := cz hc3
     refine aK.skip (aK.seq (aK.blk (aK.seq ?_)))
     refine aK.drawn mixed rfl ?_
     refine aY.run II 2 rfl ?_
     refine aY.c1 rfl (FI (aH rfl) cY rfl rfl rfl (Int.natCast_nonneg _) (by rw [List.length_map]; omega)) ?_
     refine aY.c1 rfl (Lv (aH rfl) sd rfl rfl (N1 hk)) ?_
     refine aY.run II 2 rfl ?_
     refine aY.c1 rfl (ak (aH rfl) mN rfl rfl (Int.natCast_nonneg _) (ca hq) rfl) ?_
     refine aY.run II 3 rfl ?_
     refine aY.nil (by kernel_rfl) (Kept.now ?_)
     refine aK.cond rfl (fun hc4 => ?_) (fun hc4 => ?_)
     ·refine aK.region ?_
      refine aD.run II 2 rfl ?_
      refine aD.nil (aK.region ?_)
      refine aD.run II 3 rfl ?_
      refine aD.kept (Kept.c6 14 rfl (inc (by omega)) (Kept.az [.s 14, .s 13, .h, .s 1, .s 4, .b 4, .s 9, .s 10, .t 28, .s 12] rfl (by decide) (Kept.now ?_)))
      exact ⟨(k + 1, (k : Int)), by dsimp only; omega, (by have e := of_decide_eq_true ((KH W hk).symm.trans hc4); dsimp only; rw [if_pos (by omega)]; omega), rfl⟩
     ·refine aK.skip (aK.region ?_)
      refine aD.run II 3 rfl ?_
      refine aD.kept (Kept.c6 14 rfl (inc (by omega)) (Kept.az [.s 14, .s 13, .h, .s 1, .s 4, .b 4, .s 9, .s 10, .t 28, .s 12] rfl (by decide) (Kept.now ?_)))
      exact ⟨(k + 1, a), by dsimp only; omega, (by have e := of_decide_eq_false ((KH W hk).symm.trans hc4); have h2 := hK; dsimp only at h2 ⊢; rw [h2]; exact if h : k0 < k then (by rw [if_pos h, if_pos (by omega)]) else (by rw [if_neg h, if_neg (by omega)])), rfl⟩
    ·have hk := dA hc3
     have ha : a = (k0 : Int) := (by have := hK; dsimp only at this; rw [this, if_pos (by omega)])
     subst ha
     refine aK.exit ?_
     refine aK.BT [.h, .s 1, .s 4, .b 4, .s 9, .s 12, .s 13] (fun (_ : Unit) => [(.s 10, .sv (.om 28 ((vl w (l[q]'hq) p0).map AV.str).length)), (.t 28, .tk true 9 1 ((vl w (l[q]'hq) p0).map AV.str))]) (fun (_ : Unit) => True) rfl ?_ ?_
     ·refine aK.seq (aK.region ?_)
      refine aD.run II 2 rfl ?_
      refine aD.c1 rfl (ak (aH rfl) mN rfl rfl (Int.natCast_nonneg _) (ca hq) rfl) ?_
      refine aD.run II 3 rfl ?_
      refine aD.nil ?_
      refine aK.cond rfl (fun hc5 => ?_) (fun hc5 => ?_)
      ·refine aK.seq ?_
       refine aK.drawn mixed rfl ?_
       refine aY.run II 2 rfl ?_
       refine aY.c1 rfl (bR (aH rfl) eH rfl rfl (Int.natCast_nonneg _) (by omega)) ?_
       refine aY.run II 1 rfl ?_
       refine aY.c1 rfl (da (aH rfl) fk rfl rfl hI.lh.row (gU _ _) rfl (jH W.pt ho0) rfl) ?_
       refine aY.run II 2 rfl ?_
       refine aY.c1 rfl (bR (aH rfl) eH rfl rfl (Int.natCast_nonneg _) (by omega)) ?_
       refine aY.run II 1 rfl ?_
       refine aY.c1 rfl (da (aH rfl) fk rfl rfl hI.lh.row (gU _ _) rfl (jH W.pt ho0) rfl) ?_
       refine aY.run II 2 rfl ?_
       refine aY.c1 rfl (ak (aH rfl) mN rfl rfl (Int.natCast_nonneg _) (ca hq) rfl) ?_
       refine aY.run II 2 rfl ?_
       refine aY.c1 rfl (aX (aH rfl) (Fn rfl) rfl (oH _ _ (by have := (hI.bd _ (List.mem_of_getElem? W.pt)).outs; omega))) ?_
       refine aY.c1 rfl (ak (aH rfl) cN rfl rfl ((W.h7 (by simpa using hc5)).1) (jP (W.h7 (by simpa using hc5)).1) rfl) ?_
       refine aY.run II 3 rfl ?_
       refine aY.nil (by kernel_rfl) (Kept.now ?_)
       refine aK.region ?_
       refine aD.run II 2 rfl ?_
       refine aD.c1 rfl (FI (aH rfl) cY rfl rfl rfl ((W.h7 (by simpa using hc5)).2.1) (by rw [List.length_map]; have := (W.h7 (by simpa using hc5)).2.2.1; omega)) ?_
       refine aD.c1 rfl (Lq sd rfl rfl rfl rfl (by rw [List.length_map]; have := (W.h7 (by simpa using hc5)).2.2.1; have := (W.h7 (by simpa using hc5)).2.1; omega)) ?_
       refine aD.kept (Kept.az [.s 10, .t 28, .h, .s 1, .s 4, .b 4, .s 9, .s 12, .s 13] rfl (by decide) (Kept.now ?_))
       exact ⟨(), trivial, N5 (by rw [List.length_map, List.length_map, sS]) (FU (by simpa using hc5) (by have := (W.h7 (by simpa using hc5)).2.2.1; have := (W.h7 (by simpa using hc5)).2.1; omega))⟩
      ·refine aK.cy (Kept.az [.s 10, .t 28, .h, .s 1, .s 4, .b 4, .s 9, .s 12, .s 13] rfl (by decide) (Kept.now ?_))
       refine aK.skip ?_
       exact ⟨(), trivial, by rw [show vl w _ p0 = w.names from if_neg (by simpa using hc5)]; rfl⟩
     ·rintro _ hF22
      refine aK.seq (aK.region ?_)
      refine aD.run II 4 rfl ?_
      refine aD.c1 rfl (ak (aH rfl) mN rfl rfl (Int.natCast_nonneg _) (ca hq) rfl) ?_
      refine aD.run II 1 rfl ?_
      refine aD.B8 (aH rfl) (Fn rfl) rfl rfl (IB H K A os w.all k0 (l[q]'hq) p0 o0 hI.lh W.pt ho0 (by have := hI.len; omega) (by have := (hI.bd _ (List.mem_of_getElem? W.pt)).ops; omega) (by have := (hI.bd _ (List.mem_of_getElem? W.pt)).outs; omega) (by have := (hI.bd _ (List.mem_of_getElem? W.pt)).rn; have := (hI.bd _ (List.mem_of_getElem? W.pt)).aE; omega) W.kd (hb _ (List.getElem_mem hq)).2 W.h5 (fun h => (W.h7 h).2) W.h8) (fun r2 K2 hP2 => ?_)
      obtain ⟨A1, C7, rfl, hL⟩ := hP2
      refine aD.run II 1 rfl ?_
      refine aD.nil ?_
      refine aK.BT [.h, .s 1, .s 4, .b 4, .s 9, .s 12, .s 13] (fun (_ : Unit) => [(.s 10, .sv (.om 28 ((w.step (l[q]'hq)).names.map AV.str).length)), (.t 28, .tk true 9 1 ((w.step (l[q]'hq)).names.map AV.str))]) (fun (_ : Unit) => True) rfl ?_ ?_
      ·refine aK.seq (aK.region ?_)
       refine aD.run II 2 rfl ?_
       refine aD.c1 rfl (ak (aH rfl) mN rfl rfl (Int.natCast_nonneg _) (ca hq) rfl) ?_
       refine aD.run II 3 rfl ?_
       refine aD.nil ?_
       refine aK.cond rfl (fun hc6 => ?_) (fun hc6 => ?_)
       ·refine aK.region ?_
        refine aD.run II 3 rfl ?_
        refine aD.c1 rfl (ak (aH rfl) mN rfl rfl (Int.natCast_nonneg _) (ca hq) rfl) ?_
        refine aD.run II 3 rfl ?_
        refine aD.c3 rfl (FO (aH rfl) bZ rfl rfl rfl rfl rfl rfl (by rw [List.length_map, sS]; have := hI.len; simp only [List.length_cons, List.length_nil]; omega) (by rw [List.length_map, sS]; have := hI.len; simp only [List.length_cons, List.length_nil]; omega)) ?_
        refine aD.run II 1 rfl ?_
        refine aD.kept (Kept.az [.s 10, .t 114, .h, .s 1, .s 4, .b 4, .s 9, .s 12, .s 13] rfl (by decide) (Kept.cO 114 28 (by decide) rfl (Kept.now ?_)))
        exact ⟨(), trivial, N5 (by rw [sR W, if_pos (by simpa using hc6), List.map_append]; rfl) (by rw [sR W, if_pos (by simpa using hc6), List.map_append]; rfl)⟩
       ·refine aK.cy (Kept.az [.s 10, .t 28, .h, .s 1, .s 4, .b 4, .s 9, .s 12, .s 13] rfl (by decide) (Kept.now ?_))
        refine aK.skip ?_
        exact ⟨(), trivial, by rw [sR W, if_neg (by simpa using hc6)]; rfl⟩
      ·rintro _ hF25
       have hbs := (wG hI.bd W.pt W.kd).1
       have hsl := (wG hI.bd W.pt W.kd).2.2
       have hll := hL.len
       obtain ⟨p2, hp2⟩ : ∃ p2, (au w.all k0 (l[q]'hq))[k0]? = some p2 := ⟨_, List.getElem?_eq_getElem (by omega)⟩
       obtain ⟨o2, ho2⟩ : ∃ o2, C7[k0]? = some o2 := ⟨_, List.getElem?_eq_getElem (by omega)⟩
       refine aK.region ?_
       refine aD.run II 4 rfl ?_
       refine aD.c1 rfl (bR (aH rfl) eH rfl rfl (Int.natCast_nonneg _) (by omega)) ?_
       refine aD.c1 rfl (eE (aH rfl) fj rfl rfl hL.row (gU _ _) rfl (jH hp2 ho2)) ?_
       refine aD.c1 rfl (aX (aH rfl) (Fn rfl) rfl (zO p2 o2 (by have := (hbs p2 (List.mem_of_getElem? hp2)).outs; omega) (by have := (hbs p2 (List.mem_of_getElem? hp2)).fB; omega))) ?_
       refine aD.c1 rfl (bR (aH rfl) eH rfl rfl (Int.natCast_nonneg _) (by omega)) ?_
       refine aD.c1 rfl (lI fj rfl rfl hL.row rfl (gU _ _) rfl (by rw [dm hL.len]; omega) rfl) ?_
       refine aD.nil (aK.region ?_)
       refine aD.run II 3 rfl ?_
       refine aD.kept (Kept.c6 12 rfl (inc (by omega)) (Kept.az [.s 12, .s 9, .s 10, .t 28, .h, .s 1, .s 4, .b 4] rfl (by decide) (Kept.now ?_)))
       exact ⟨(q + 1, w.step (l[q]'hq), _, A1, C7.set k0 o2), by dsimp only; omega, hI.next hq (by omega) W hgo hL hp2 ho2, Om (EB W) rfl rfl⟩
   ·have hq := dA hc2
    refine aK.exit (aK.seq (aK.region ?_))
    refine aD.run II 4 rfl ?_
    refine aD.kept (Kept.GL 4 hI.lh rfl rfl (fun s2 K2 e1 e2 e3 e4 e5 => ?_))
    refine aK.ret ?_
    exact ⟨.inr rfl, (aM.r2 rfl (.cell kF (Et ((e1 (.s 4) (by decide) (by decide)).trans rfl)) e2 rfl rfl (.tmp (Lp ((e1 (.s 5) (by decide) (by decide)).trans rfl)) .nil))).cast (Fg hp1 hq hI), K2, e3, e4, e5⟩
 | error e1 => 
  refine aD.c1 rfl (aX (aH rfl) (Fn rfl) rfl (xE hs hb hl hp1)) ?_
  refine aD.run II 7 rfl ?_
  refine aD.nil (aK.seq (aK.seq (aK.region ?_)))
  refine aD.run II 2 rfl ?_
  refine aD.nil ?_
  refine aK.xz rfl (by simpa using yV hp1) ?_
  refine aK.seq (aK.region ?_)
  refine aD.run II 3 rfl ?_
  refine aD.nil (aK.ret ?_)
  exact ⟨.inr rfl, (aM.r2 rfl (.cell kF rfl rfl rfl rfl (.tmp rfl .nil))).cast (by unfold lO; rw [hp1]), H, rfl, Nat.le_refl _, fun _ _ => rfl⟩
end Go.Proofs.YtgmdapgedlachaaGreatDoor.X
