/- Plain laws: a program made shorter, step by step; it costs no more. No condition. -/
import Derived.Test.YtpifnegikoldmaaGreatDoorZDE
import Derived.Test.YtpifnegikoldmaaGreatDoorZDG
set_option linter.unusedVariables false
set_option linter.unusedSimpArgs false
namespace Go.Proofs.YtpifnegikoldmaaGreatDoor.X
open Go Go.RowKit
/-! ### what an operation makes, and uses up -/
def al.makes (x : al) : List Int := if x.kind = 2 then [x.b, x.c] else if x.kind = 3 then [x.c] else if x.kind = 4 ∨ x.kind = 5 then [x.b] else if x.kind = 7 then [x.a] else []
def al.kY (x : al) : List Int := if x.kind = 2 ∨ x.kind = 4 ∨ x.kind = 5 then [x.a] else if x.kind = 3 then [x.a, x.b] else []
def py (l : List Int) (n : Int) : Bool := l.any (· == n)
def al.has (x : al) (r : Int) : Bool := if x.kind = 1 then x.a == r else py x.makes r || py x.kY r || py x.regs r
def eB (l : List al) (r : Int) : Nat := l.countP fun x => x.has r
def et (at_ : List Int) : Nat → List al → List al
 | _, [] => []
 | i, x :: l => if py at_ (i : Int) then et at_ (i + 1) l else x :: et at_ (i + 1) l
def qF (p q r : Int) : Int := if r = p then q else r
def al.clean (x : al) : al := if x.kind = 1 ∨ x.kind = 7 then { x with b := 0, c := 0 } else if x.kind = 4 ∨ x.kind = 5 then { x with c := 0 } else if x.kind = 6 then { x with a := 0, b := 0, c := 0 } else x
def al.cS (p q : Int) (x : al) : al := ({ x with a := qF p q x.a, b := qF p q x.b, c := qF p q x.c, regs := x.regs.map (qF p q) } : al).clean
def Port.cS (p q : Int) (x : Port) : Port := { x with reg := qF p q x.reg }
def aR.cS (p q : Int) (x : aR) : aR := { x with ops := x.ops.map (al.cS p q), outs := x.outs.map (Port.cS p q) }
def aR.drop (at_ : List Int) (x : aR) : aR := { x with ops := et at_ 0 x.ops }
def oo (a b : Int × Nat) : Int × Nat := (max a.1 b.1, min a.2 b.2)
def BN (a b : Int × Nat) : Bool := oo a b == b
def al.own (x : al) : Int × Nat := (x.lo, x.hi)
def kb (p : aR) (x : al) : Bool :=
 if x.kind = 1 then BN x.own (ct x.src) && BN x.own (ct x.dst)
 else if x.kind = 7 then decide (x.dv.n = 0) && x.dv.s == [] && !(p.outs.any fun y => y.reg == x.a) && decide (eB p.ops x.a = 1)
 else false
def nA (x y : al) : al := { x with dst := y.dst, lo := (oo x.own y.own).1, hi := (oo x.own y.own).2 }
def p8 (w : aR) : Bool := match w.ops, w.outs with
 | [], [y] => (match w.ins with | z :: _ => y.reg == z.reg | [] => false)
 | _, _ => false
def e8 (all : List aR) (p : aR) (i k : Nat) (x y : al) : Option aR :=
 if x.kind = 1 ∧ y.kind = 1 ∧ x.a = y.a then some (aR.drop [(k : Int)] { p with ops := p.ops.set i (nA x y) })
 else if x.kind = 2 ∧ y.kind = 3 ∧ x.b = y.a ∧ x.c = y.b ∧ eB p.ops x.b = 2 ∧ eB p.ops x.c = 2 then some ((p.drop [(i : Int), (k : Int)]).cS y.c x.a)
 else if x.kind = 3 ∧ y.kind = 2 ∧ x.c = y.a ∧ eB p.ops x.c = 2 then some (((p.drop [(i : Int), (k : Int)]).cS y.b x.a).cS y.c x.b)
 else if x.kind = 4 ∧ y.kind = 5 ∧ x.b = y.a ∧ p8 (all.getD x.part.toNat bY) = true then some ((p.drop [(i : Int), (k : Int)]).cS y.b x.a)
 else none
def dx {α β : Type} (f : Nat → α → Option β) : Nat → List α → Option β
 | _, [] => none
 | i, x :: l => (f i x).orElse fun _ => dx f (i + 1) l
def gQ (all : List aR) (p : aR) : Option aR :=
 dx (fun i x => if kb p x then some (p.drop [(i : Int)]) else dx (fun k y => e8 all p i k x y) (i + 1) (p.ops.drop (i + 1))) 0 p.ops
def fI (all : List aR) : Option (List aR) := dx (fun i p => (gQ all p).map fun q => all.set i q) 0 all
def hD : Nat → List aR → List aR
 | 0, l => l
 | n + 1, l => match fI l with | some r => hD n r | none => l
def iE (l : List aR) : Nat := (l.map fun p => p.ops.length).sum
def m6 (l : List aR) : List aR := hD (iE l) l
/-! ### what is made shorter has fewer operations -/
theorem dD {α β : Type} {f : Nat → α → Option β} : ∀ {l : List α} {i : Nat} {r : β}, dx f i l = some r → ∃ j x, l[j]? = some x ∧ f (i + j) x = some r
 | [], i, r, h => by simp [dx] at h
 | x :: l, i, r, h => by
  rw [dx] at h
  cases e : f i x with
  | some b => rw [e] at h; exact ⟨0, x, rfl, by rw [Nat.add_zero, e]; simpa using h⟩
  | none =>
   rw [e] at h
   obtain ⟨j, y, h1, h2⟩ := dD (l := l) (i := i + 1) (by simpa using h)
   exact ⟨j + 1, y, h1, by rw [show i + (j + 1) = i + 1 + j from by omega]; exact h2⟩
theorem cc (a : List Int) : ∀ (l : List al) (i : Nat), (et a i l).Sublist l
 | [], i => by simp [et]
 | x :: l, i => by
  rw [et]
  split
  ·exact (cc a l (i + 1)).trans (List.sublist_cons_self x l)
  ·exact (cc a l (i + 1)).cons_cons x
theorem pT (a : List Int) : ∀ (l : List al) (i j : Nat), j < l.length → py a ((i + j : Nat) : Int) = true → (et a i l).length < l.length
 | [], i, j, h, _ => by simp at h
 | x :: l, i, j, h, ha => by
  rw [et]
  have hs := (cc a l (i + 1)).length_le
  split
  ·simp; omega
  ·rename_i hn
   cases j with
   | zero => rw [Nat.add_zero] at ha; exact absurd ha hn
   | succ j =>
    have := pT a l (i + 1) j (by simpa using h) (by rw [show i + 1 + j = i + (j + 1) from by omega]; exact ha)
    simp; omega
/-! ### what is made shorter costs no more -/
def sX (x : al) : Nat := (if x.kind = 4 then 10 else 0) + (if x.kind = 7 then 15 + x.dv.s.length else 0)
def cH (l : List al) : Nat := (l.map sX).sum
def dN (l : List aR) : Nat := (l.map fun p => cH p.ops).sum
def cz (l : List al) : Nat := l.countP fun x => x.kind == 4
def fv (l : List aR) : Nat := (l.map fun p => cz p.ops).sum
theorem lA (x : al) : x.clean.kind = x.kind ∧ x.clean.dv = x.dv ∧ x.clean.part = x.part ∧ x.clean.lo = x.lo ∧ x.clean.hi = x.hi ∧ x.clean.src = x.src ∧ x.clean.dst = x.dst := by
 unfold al.clean; split
 ·simp
 ·split
  ·simp
  ·split <;> simp
theorem oD (p q : Int) (x : al) : (x.cS p q).kind = x.kind ∧ (x.cS p q).dv = x.dv ∧ (x.cS p q).part = x.part := ⟨(lA _).1, (lA _).2.1, (lA _).2.2.1⟩
theorem Cq (p q : Int) (x : al) : sX (x.cS p q) = sX x := by unfold sX; rw [(oD p q x).1, (oD p q x).2.1]
theorem yl (p q : Int) (l : List al) : cH (l.map (al.cS p q)) = cH l := by
 unfold cH; rw [List.map_map]; congr 1; exact List.map_congr_left fun x _ => Cq p q x
theorem rN {l m : List Nat} (h : l.Sublist m) : l.sum ≤ m.sum := by
 induction h with
 | slnil => exact Nat.le_refl _
 | cons a h ih => simp; omega
 | cons_cons a h ih => simp; omega
theorem vg (a : List Int) (l : List al) (i : Nat) : cH (et a i l) ≤ cH l := rN ((cc a l i).map sX)
theorem yk {l : List al} {i : Nat} {x y : al} (h : l[i]? = some x) (hc : sX y = sX x) : cH (l.set i y) = cH l := by
 unfold cH
 rw [List.map_set, hc]
 congr 1
 refine List.ext_getElem? fun j => ?_
 rw [List.getElem?_set]
 split
 ·rename_i e; subst e
  split
  ·rw [List.getElem?_map, h]; rfl
  ·rename_i hn
   rw [List.length_map] at hn
   rw [List.getElem?_eq_none (by simp; omega)]
 ·rfl
structure pn (p q : aR) : Prop where
 name : q.name = p.name
 ins : q.ins = p.ins
 regs : q.regs = p.regs
 ever : q.ever = p.ever
 born : q.born = p.born
 outs : q.outs.length = p.outs.length
 cost : cH q.ops ≤ cH p.ops
 len : q.ops.length < p.ops.length
theorem aR.iY {p : aR} {a : List Int} {j : Nat} (hj : j < p.ops.length) (ha : py a (j : Int) = true) : pn p (p.drop a) :=
 ⟨rfl, rfl, rfl, rfl, rfl, rfl, vg a p.ops 0, pT a p.ops 0 j hj (by rw [Nat.zero_add]; exact ha)⟩
theorem pn.cS {p q : aR} (h : pn p q) (u v : Int) : pn p (q.cS u v) :=
 ⟨h.name, h.ins, h.regs, h.ever, h.born, by simp [aR.cS, h.outs], by rw [show (q.cS u v).ops = q.ops.map (al.cS u v) from rfl, yl]; exact h.cost, by simp [aR.cS, h.len]⟩
theorem ij (n : Int) (l : List Int) : py (n :: l) n = true := by simp [py]
theorem uq {all : List aR} {p q : aR} {i k : Nat} {x y : al} (hx : p.ops[i]? = some x) (hk : k < p.ops.length) (h : e8 all p i k x y = some q) : pn p q := by
 have hi : i < p.ops.length := by
  apply Classical.byContradiction; intro hn
  rw [List.getElem?_eq_none (by omega)] at hx; cases hx
 unfold e8 at h
 split at h
 ·rename_i hc
  cases h
  have := aR.iY (p := { p with ops := p.ops.set i (nA x y) }) (a := [(k : Int)]) (j := k) (by simpa using hk) (ij _ _)
  have hs : cH (p.ops.set i (nA x y)) = cH p.ops := yk hx rfl
  exact ⟨rfl, rfl, rfl, rfl, rfl, rfl, Nat.le_trans this.cost (Nat.le_of_eq hs), Nat.lt_of_lt_of_eq this.len (List.length_set ..)⟩
 ·split at h
  ·cases h; exact (aR.iY hi (ij _ _)).cS _ _
  ·split at h
   ·cases h; exact ((aR.iY hi (ij _ _)).cS _ _).cS _ _
   ·split at h
    ·cases h; exact (aR.iY hi (ij _ _)).cS _ _
    ·cases h
theorem mn {all : List aR} {p q : aR} (h : gQ all p = some q) : pn p q := by
 obtain ⟨i, x, h1, h2⟩ := dD h
 rw [Nat.zero_add] at h2
 have hi : i < p.ops.length := by
  apply Classical.byContradiction; intro hn
  rw [List.getElem?_eq_none (by omega)] at h1; cases h1
 split at h2
 ·cases h2; exact aR.iY hi (ij _ _)
 ·obtain ⟨k, y, h3, h4⟩ := dD h2
  have hk : i + 1 + k < p.ops.length := by
   rw [List.getElem?_drop] at h3
   apply Classical.byContradiction; intro hn
   rw [List.getElem?_eq_none (by omega)] at h3; cases h3
  exact uq h1 hk h4
theorem mo {all r : List aR} (h : fI all = some r) : ∃ i p q, all[i]? = some p ∧ gQ all p = some q ∧ pn p q ∧ r = all.set i q := by
 obtain ⟨i, p, h1, h2⟩ := dD h
 rw [Nat.zero_add] at h2
 cases e : gQ all p with
 | none => rw [e] at h2; cases h2
 | some q => rw [e] at h2; exact ⟨i, p, q, h1, e, mn e, by simpa using h2.symm⟩
theorem rO {α : Type} (f : α → Nat) : ∀ {l : List α} {i : Nat} {x y : α}, l[i]? = some x → ((l.set i y).map f).sum + f x = (l.map f).sum + f y
 | [], i, x, y, h => by simp at h
 | z :: l, 0, x, y, h => by simp at h; subst h; simp; omega
 | z :: l, i + 1, x, y, h => by
  have := rO f (l := l) (y := y) (by simpa using h)
  simp at this ⊢; omega
theorem fZ {all r : List aR} (h : fI all = some r) : dN r ≤ dN all ∧ iE r < iE all := by
 obtain ⟨i, p, q, h1, _, h2, rfl⟩ := mo h
 have a := rO (fun p : aR => cH p.ops) (y := q) h1
 have b := rO (fun p : aR => p.ops.length) (y := q) h1
 have := h2.cost; have := h2.len
 unfold dN iE
 constructor <;> omega
theorem pF : ∀ (n : Nat) (l : List aR), dN (hD n l) ≤ dN l
 | 0, l => Nat.le_refl _
 | n + 1, l => by
  rw [hD]
  cases e : fI l with
  | none => exact Nat.le_refl _
  | some r => exact Nat.le_trans (pF n r) (fZ e).1
set_option linter.unusedSectionVars false
set_option maxRecDepth 100000
open Go Go.RowKit Go.Proofs
/- a program that is made shorter: its parts lie in an object, their operations and ports in others. No condition. -/
def fe (p : aR) (o : AV × AV) : AV := .agg [.str p.name, .sl (p.ins.map Port.av), o.1, o.2, .int .i64 p.regs, .sl (p.ever.map dL), .bool p.born]
def fW (all : List aR) (os : List (AV × AV)) : List AV := List.zipWith fe all os
theorem dF (all : List aR) (os : List (AV × AV)) : ∀ e ∈ fW all os, e.cells.length = 7 := fun e he => by
 obtain ⟨i, hi⟩ := List.mem_iff_getElem?.1 he
 unfold fW at hi
 rw [List.getElem?_zipWith] at hi
 split at hi
 ·cases hi; rfl
 ·cases hi
theorem lG {all : List aR} {os : List (AV × AV)} (h : os.length = all.length) : (fW all os).length = all.length := by unfold fW; simp [h]
theorem lH {all : List aR} {os : List (AV × AV)} {i : Nat} {p : aR} {o : AV × AV} (hp : all[i]? = some p) (ho : os[i]? = some o) : (fW all os)[i]? = some (fe p o) := by
 unfold fW; rw [List.getElem?_zipWith, hp, ho]
theorem sZ {all : List aR} {os : List (AV × AV)} {i : Nat} {p : aR} {o : AV × AV} : (fW all os).set i (fe p o) = fW (all.set i p) (os.set i o) := by
 unfold fW
 refine List.ext_getElem? fun j => ?_
 simp only [List.getElem?_set, List.getElem?_zipWith, List.length_zipWith]
 by_cases h : i = j
 ·subst h
  simp only [if_true]
  by_cases h1 : i < all.length
  ·by_cases h2 : i < os.length
   ·rw [if_pos (by omega), if_pos h1, if_pos h2]
   ·rw [if_neg (by omega), if_pos h1, if_neg h2]
  ·rw [if_neg (by omega), if_neg h1]
 ·simp only [h, if_false]
def bh : AV → Option Nat | .os id _ _ => some id | _ => none
def isRow (K : Hp) (o : AV) (e : Nat) (xs : List AV) : Prop := (o = .sl [] ∧ xs = []) ∨ dC K o e xs
structure FZ (S : Nat → Prop) (H0 K : Hp) (A : Nat) (os : List (AV × AV)) (all : List aR) : Prop where
 fin : K.fin
 sN : ∀ i, S i → i < K.next
 old : ∀ i, S i → K.obj i = H0.obj i
 lo : ¬ S A
 len : os.length = all.length
 row : K.obj A = some (ae (fW all os))
 ops : ∀ (i : Nat) o p, os[i]? = some o → all[i]? = some p → isRow K o.1 13 (p.ops.map al.av) ∧ isRow K o.2 9 (p.outs.map Port.av)
 ids : ∀ (i : Nat) o id, os[i]? = some o → (bh o.1 = some id ∨ bh o.2 = some id) → ¬ S id ∧ id ≠ A
 own : ∀ (i : Nat) o id, os[i]? = some o → bh o.1 = some id → bh o.2 = some id → False
 dist : ∀ (i j : Nat) o o' id, os[i]? = some o → os[j]? = some o' → (bh o.1 = some id ∨ bh o.2 = some id) → (bh o'.1 = some id ∨ bh o'.2 = some id) → i = j
theorem qg {o : AV} {id : Nat} (h : bh o = some id) : ∃ n e, o = .os id n e := by cases o <;> first | (cases h; exact ⟨_, _, rfl⟩) | cases h
theorem tp {K : Hp} (hf : K.fin) {o : AV} {e : Nat} {xs : List AV} (h : dC K o e xs) {id : Nat} (ho : bh o = some id) : id < K.next := by
 obtain ⟨n, e', h2⟩ := qg ho
 exact ig hf h h2
theorem Aa {K K' : Hp} {o : AV} {e : Nat} {xs : List AV} (h : dC K o e xs) (hk : ∀ id, bh o = some id → K'.obj id = K.obj id) : dC K' o e xs := gZ h fun id n e' ho => hk id (by rw [ho]; rfl)
theorem rY {K : Hp} (hf : K.fin) {o : AV} {e : Nat} {xs : List AV} (h : isRow K o e xs) {id : Nat} (ho : bh o = some id) : id < K.next := by
 rcases h with ⟨rfl, _⟩ | h
 ·cases ho
 ·exact tp hf h ho
theorem c6 {K K' : Hp} {o : AV} {e : Nat} {xs : List AV} (h : isRow K o e xs) (hk : ∀ id, bh o = some id → K'.obj id = K.obj id) : isRow K' o e xs := by
 rcases h with h | h
 ·exact .inl h
 ·exact .inr (Aa h hk)
section
variable {S : Nat → Prop} {H0 K K' : Hp} {A i : Nat} {os : List (AV × AV)} {all : List aR} {p q : aR} {o o' : AV × AV}
theorem FZ.alt (I : FZ S H0 K A os all) : A < K.next := by
 apply Classical.byContradiction
 intro hn
 have := I.row
 rw [I.fin A (by omega)] at this; cases this
theorem FZ.sA (I : FZ S H0 K A os all) {id : Nat} (ho : os[i]? = some o) (h : bh o.1 = some id ∨ bh o.2 = some id) : id < K.next := by
 have hi := (List.getElem?_eq_some_iff.1 ho).1
 have hl := I.len
 obtain ⟨h1, h2⟩ := I.ops i _ _ ho (List.getElem?_eq_getElem (by omega))
 rcases h with h | h
 ·exact rY I.fin h1 h
 ·exact rY I.fin h2 h
theorem FZ.more (I : FZ S H0 K A os all) (hf : K'.fin) (hn : K.next ≤ K'.next) (hk : ∀ j, j < K.next → K'.obj j = K.obj j) : FZ S H0 K' A os all :=
 ⟨hf, fun j h => Nat.lt_of_lt_of_le (I.sN j h) hn, fun j h => by rw [hk j (I.sN j h)]; exact I.old j h, I.lo, I.len, by rw [hk A I.alt]; exact I.row,
  fun j o p h1 h2 => ⟨c6 (I.ops j o p h1 h2).1 fun id h => hk id (I.sA h1 (.inl h)), c6 (I.ops j o p h1 h2).2 fun id h => hk id (I.sA h1 (.inr h))⟩, I.ids, I.own, I.dist⟩
theorem FZ.aH (I : FZ S H0 K A os all) {T : Nat → Prop} (hT : ∀ j, T j → j < K.next) (hA : ¬ T A) (hi : ∀ (i : Nat) o id, os[i]? = some o → (bh o.1 = some id ∨ bh o.2 = some id) → ¬ T id) : FZ T K K A os all :=
 ⟨I.fin, hT, fun _ _ => rfl, hA, I.len, I.row, I.ops, fun i o id h1 h2 => ⟨hi i o id h1 h2, (I.ids i o id h1 h2).2⟩, I.own, I.dist⟩
theorem FZ.put (I : FZ S H0 K A os all) (hp : all[i]? = some p) (ho : os[i]? = some o) (hf : K'.fin) (hn : K.next ≤ K'.next) (hk : ∀ j, j < K.next → j ≠ A → bh o.1 ≠ some j → bh o.2 ≠ some j → K'.obj j = K.obj j)
  (hA : K'.obj A = some (ae (fW (all.set i q) (os.set i o')))) (h1 : isRow K' o'.1 13 (q.ops.map al.av)) (h2 : isRow K' o'.2 9 (q.outs.map Port.av))
  (f1 : o'.1 = o.1 ∨ ∀ id, bh o'.1 = some id → K.next ≤ id) (f2 : o'.2 = o.2 ∨ ∀ id, bh o'.2 = some id → K.next ≤ id) (hd : ∀ id, bh o'.1 = some id → bh o'.2 = some id → False) : FZ S H0 K' A (os.set i o') (all.set i q) := by
 have hAl := I.alt
 have hget : ∀ (j : Nat) (o2 : AV × AV), (os.set i o')[j]? = some o2 → (j = i ∧ o2 = o') ∨ (j ≠ i ∧ os[j]? = some o2) := fun j o2 h => by
  rw [List.getElem?_set] at h
  split at h
  ·rename_i e
   split at h
   ·cases h; exact .inl ⟨e.symm, rfl⟩
   ·cases h
  ·rename_i e; exact .inr ⟨fun h2 => e h2.symm, h⟩
 have hnew : ∀ id, (bh o'.1 = some id ∨ bh o'.2 = some id) → (bh o.1 = some id ∨ bh o.2 = some id) ∨ K.next ≤ id := fun id h => by
  rcases h with h | h
  ·rcases f1 with f | f
   ·exact .inl (.inl (f ▸ h))
   ·exact .inr (f id h)
  ·rcases f2 with f | f
   ·exact .inl (.inr (f ▸ h))
   ·exact .inr (f id h)
 have hold : ∀ (j : Nat) (o2 : AV × AV), j ≠ i → os[j]? = some o2 → ∀ id, (bh o2.1 = some id ∨ bh o2.2 = some id) → K'.obj id = K.obj id := fun j o2 hj h id hid => by
  have q1 := I.sA h hid
  refine hk id q1 (I.ids j o2 id h hid).2 (fun e => ?_) fun e => ?_
  ·exact hj (I.dist j i o2 o id h ho hid (.inl e))
  ·exact hj (I.dist j i o2 o id h ho hid (.inr e))
 refine ⟨hf, fun j hj => Nat.lt_of_lt_of_le (I.sN j hj) hn, fun j hj => ?_, I.lo, by simp [I.len], hA, fun j o2 p2 g1 g2 => ?_, fun j o2 id g1 g2 => ?_, fun j o2 id g1 g2 g3 => ?_, fun j k o2 o3 id g1 g2 g3 g4 => ?_⟩
 ·rw [hk j (I.sN j hj) (fun e => I.lo (e ▸ hj)) (fun e => (I.ids i o j ho (.inl e)).1 hj) (fun e => (I.ids i o j ho (.inr e)).1 hj)]
  exact I.old j hj
 ·rcases hget j _ g1 with ⟨rfl, rfl⟩ | ⟨hne, h3⟩
  ·rw [List.getElem?_set] at g2
   simp only [if_true] at g2
   split at g2
   ·cases g2; exact ⟨h1, h2⟩
   ·cases g2
  ·rw [List.getElem?_set, if_neg (fun h => hne h.symm)] at g2
   obtain ⟨a1, a2⟩ := I.ops j o2 p2 h3 g2
   exact ⟨c6 a1 fun id h => hold j o2 hne h3 id (.inl h), c6 a2 fun id h => hold j o2 hne h3 id (.inr h)⟩
 ·rcases hget j _ g1 with ⟨rfl, rfl⟩ | ⟨hne, h3⟩
  ·rcases hnew id g2 with h | h
   ·exact I.ids j o id ho h
   ·exact ⟨fun e => by have := I.sN id e; omega, by omega⟩
  ·exact I.ids j o2 id h3 g2
 ·rcases hget j _ g1 with ⟨rfl, rfl⟩ | ⟨hne, h3⟩
  ·exact hd id g2 g3
  ·exact I.own j o2 id h3 g2 g3
 ·rcases hget j _ g1 with ⟨rfl, rfl⟩ | ⟨hne, h3⟩ <;> rcases hget k _ g2 with ⟨rfl, rfl⟩ | ⟨hne2, h4⟩
  ·rfl
  ·rcases hnew id g3 with h | h
   ·exact I.dist _ _ _ _ id ho h4 h g4
   ·have := I.sA h4 g4; omega
  ·rcases hnew id g4 with h | h
   ·exact I.dist _ _ _ _ id h3 ho g3 h
   ·have := I.sA h3 g3; omega
  ·exact I.dist j k o2 o3 id h3 h4 g3 g4
end
/- the document: a step of the parts -/
theorem vc : aa Tryz.prog 50 = true := by kernel_rfl
theorem Az : aa Tryz.prog 51 = true := by kernel_rfl
theorem Ay : aa Tryz.prog 52 = true := by kernel_rfl
theorem Fy : aa Tryz.prog 53 = true := by kernel_rfl
def w8 (x : aP) (n : Int) : al := { gE with kind := 7, a := n, dv := x.dv }
theorem AA {p : aR} {x : aP} (h : x.kind = 9) : aO p x = { p with ops := p.ops ++ [w8 x p.regs], regs := p.regs + 1, outs := bN p.outs (c4 x.field x.num x.ty p.regs) } := by unfold aO; simp [h, w8]
theorem uz {p : aR} {x : aP} (h : x.kind = 10) : aO p x = { p with outs := aT p.outs x.field } := by unfold aO; simp [h]
theorem CO (H0 K : Hp) (A : Nat) (os : List AV) (all : List aR) (at_ : Nat) (x : aP) (p : aR) (o : AV) (I : LH H0 K A os all) (hp : all[at_]? = some p) (ho : os[at_]? = some o) (hal : all.length ≤ 100) (hl : p.ops.length ≤ 1000) (hou : p.outs.length ≤ 100) (hr : 0 ≤ p.regs ∧ p.regs ≤ 1000) (hk : 1 ≤ x.kind ∧ x.kind ≤ 10) (hn : x.names.length ≤ 1000) (h5 : x.kind = 5 → 0 ≤ bZ (aT p.outs x.field) x.also) (h7 : x.kind = 7 → 0 ≤ (aL p.outs x.field).part ∧ (aL p.outs x.field).part < (all.length : Int) ∧ (all.getD (aL p.outs x.field).part.toNat bY).outs ≠ []) (h8 : x.kind = 8 → (p.outs.map fun y => y.f.name).Nodup ∧ ∀ n ∈ x.names, 0 ≤ bZ p.outs n) : fw Tryz.prog 26 [.os A all.length 7, .int .i64 (at_ : Int), x.av] K (Ho H0 (au all at_ x)) := by
 have hat := (List.getElem?_eq_some_iff.1 hp).1
 have hln := I.len
 refine fw.aN Tryz.func26 rfl rfl (aF rfl) (aC.seq (aC.region (aB.run II 2 rfl (aB.nil (aC.seq (aC.region (aB.run II 2 rfl (aB.c1 rfl (cM (aF rfl) cm rfl rfl (Int.natCast_nonneg _) (by omega)) (aB.c1 rfl (ed (aF rfl) eL rfl rfl I.row (fC _ _) rfl (gM hp ho)) (aB.run II 2 rfl (aB.nil (aC.seq (aC.region (aB.run II 3 rfl (aB.nil (aC.c8 [.h, .s 0, .s 1, .s 5, .b 5, .s 7, .b 7] (fun (_ : Unit) => [(.s 8, .sv (.lp 8 0)), (.b 8, .bx [.v (.str (aL p.outs x.field).f.name), .v (.int .i64 (aL p.outs x.field).f.num), .v (.int .i64 (aL p.outs x.field).f.ty), .v (.str (aL p.outs x.field).f.ref), .v (.bool (aL p.outs x.field).f.rep), .v (.bool (aL p.outs x.field).f.loose), .v (.str (aL p.outs x.field).f.one), .v (.int .i64 (aL p.outs x.field).reg), .v (.int .i64 (aL p.outs x.field).part)])]) (fun (_ : Unit) => True) rfl ?_ ?_))))))))))))))))
 ·refine aC.seq (aC.region (aB.run II 4 rfl (aB.c1 rfl (aG (aF rfl) sH rfl (lT _ _ (by omega))) (aB.run II 1 rfl (aB.nil (aC.seq (aC.region (aB.run II 2 rfl (aB.nil (aC.cond rfl (fun hc1 => ?_) (fun hc1 => ?_)))))))))))
  ·exact aC.region (aB.run II 3 rfl (aB.c1 rfl (aI (aF rfl) cy rfl rfl (of_decide_eq_true hc1) (gT (of_decide_eq_true hc1)) rfl) (aB.run II 2 rfl (aB.kept (Kept.aH [.s 8, .b 8, .h, .s 0, .s 1, .s 5, .b 5, .s 7, .b 7] rfl (by decide) (Kept.now ⟨(), trivial, rfl⟩))))))
  ·exact aC.aJ (Kept.aH [.s 8, .b 8, .h, .s 0, .s 1, .s 5, .b 5, .s 7, .b 7] rfl (by decide) (Kept.now (aC.skip ⟨(), trivial, by rw [xq (of_decide_eq_false hc1)]; rfl⟩)))
 ·rintro _ hF6
  refine aC.c8 [.s 0, .s 1] (fun ((o1, K1) : AV × Hp) => [(.s 7, .sv (.lp 7 0)), (.b 7, .bx [.v (.str (aO p x).name), .v (.sl ((aO p x).ins.map Port.av)), .v o1, .v (.sl ((aO p x).outs.map Port.av)), .v (.int .i64 (aO p x).regs), .v (.sl ((aO p x).ever.map dL)), .v (.bool (aO p x).born)]), (.h, .hp K1)]) (fun ((o1, K1) : AV × Hp) => Mv K o K1 o1 (aO p x).ops ∧ x.kind ≠ 6 ∧ x.kind ≠ 7) rfl ?_ ?_
  ·refine aC.seq (aC.region (aB.run II 2 rfl (aB.nil (aC.blk (aC.seq (aC.seq (aC.region (aB.run II 2 rfl (aB.nil (aC.cond rfl (fun hc2 => ?_) (fun hc2 => ?_)))))))))))
   ·refine aC.skip (aC.bG rfl hc2 (aC.region (aB.run II 3 rfl (aB.dh (aF rfl) vc rfl rfl (oL p o x K I.fin (I.ops _ _ _ ho hp) hl hou (.inl (by simpa using hc2))) (fun r1 K1 hP1 => ?_)))))
    obtain ⟨o1, rfl, hM⟩ := hP1
    exact aB.run II 1 rfl (aB.kept (Kept.aH [.s 7, .b 7, .h, .s 0, .s 1] rfl (by decide) (Kept.now (⟨(o1, _), ⟨hM, by have : x.kind = 1 := (by simpa using hc2); omega, by have : x.kind = 1 := (by simpa using hc2); omega⟩, rfl⟩))))
   ·refine aC.seq (aC.region (aB.run II 2 rfl (aB.nil (aC.cond rfl (fun hc3 => ?_) (fun hc3 => ?_)))))
    ·refine aC.skip (aC.bG rfl hc3 (aC.region (aB.run II 3 rfl (aB.dh (aF rfl) vc rfl rfl (oL p o x K I.fin (I.ops _ _ _ ho hp) hl hou (.inr (.inl (by simpa using hc3)))) (fun r2 K2 hP2 => ?_)))))
     obtain ⟨o1, rfl, hM⟩ := hP2
     exact aB.run II 1 rfl (aB.kept (Kept.aH [.s 7, .b 7, .h, .s 0, .s 1] rfl (by decide) (Kept.now (⟨(o1, _), ⟨hM, by have : x.kind = 2 := (by simpa using hc3); omega, by have : x.kind = 2 := (by simpa using hc3); omega⟩, rfl⟩))))
    ·refine aC.region (aB.run II 2 rfl (aB.nil (aC.cond rfl (fun hc4 => ?_) (fun hc4 => ?_))))
     ·refine aC.region (aB.run II 3 rfl (aB.dh (aF rfl) vc rfl rfl (oL p o x K I.fin (I.ops _ _ _ ho hp) hl hou (.inr (.inr (by simpa using hc4)))) (fun r3 K3 hP3 => ?_)))
      obtain ⟨o1, rfl, hM⟩ := hP3
      exact aB.run II 1 rfl (aB.kept (Kept.aH [.s 7, .b 7, .h, .s 0, .s 1] rfl (by decide) (Kept.now (⟨(o1, _), ⟨hM, by have : x.kind = 3 := (by simpa using hc4); omega, by have : x.kind = 3 := (by simpa using hc4); omega⟩, rfl⟩))))
     ·refine aC.seq (aC.seq (aC.region (aB.run II 2 rfl (aB.nil (aC.cond rfl (fun hc5 => ?_) (fun hc5 => ?_))))))
      ·refine aC.skip (aC.bG rfl hc5 (aC.region (aB.run II 3 rfl (aB.dh (aF rfl) Az rfl rfl (oJ p o x K I.fin (I.ops _ _ _ ho hp) hl hou hr (.inl (by simpa using hc5)) h5) (fun r4 K4 hP4 => ?_)))))
       obtain ⟨o1, rfl, hM⟩ := hP4
       exact aB.run II 1 rfl (aB.kept (Kept.aH [.s 7, .b 7, .h, .s 0, .s 1] rfl (by decide) (Kept.now (⟨(o1, _), ⟨hM, by have : x.kind = 4 := (by simpa using hc5); omega, by have : x.kind = 4 := (by simpa using hc5); omega⟩, rfl⟩))))
      ·refine aC.region (aB.run II 2 rfl (aB.nil (aC.cond rfl (fun hc6 => ?_) (fun hc6 => ?_))))
       ·refine aC.region (aB.run II 3 rfl (aB.dh (aF rfl) Az rfl rfl (oJ p o x K I.fin (I.ops _ _ _ ho hp) hl hou hr (.inr (by simpa using hc6)) h5) (fun r5 K5 hP5 => ?_)))
        obtain ⟨o1, rfl, hM⟩ := hP5
        exact aB.run II 1 rfl (aB.kept (Kept.aH [.s 7, .b 7, .h, .s 0, .s 1] rfl (by decide) (Kept.now (⟨(o1, _), ⟨hM, by have : x.kind = 5 := (by simpa using hc6); omega, by have : x.kind = 5 := (by simpa using hc6); omega⟩, rfl⟩))))
       ·refine aC.seq (aC.seq (aC.region (aB.run II 2 rfl (aB.nil (aC.cond rfl (fun hc7 => ?_) (fun hc7 => ?_))))))
        ·refine aC.skip (aC.bG rfl hc7 (aC.seq (aC.region (aB.run II 4 rfl (aB.dh (aF rfl) Ay rfl rfl (tD H0 K A os all at_ x p o I hp ho hal hl hou hr (.inl (by simpa using hc7)) h7) (fun r6 K6 hP6 => ?_))))))
         obtain ⟨A1, xu, rfl, hL⟩ := hP6
         exact aB.run II 1 rfl (aB.nil (aC.ret (⟨.inr rfl, _, _, ⟨A1, xu, rfl, hL⟩, aE.r1 rfl (.tmp rfl .nil), rfl⟩)))
        ·refine aC.region (aB.run II 2 rfl (aB.nil (aC.cond rfl (fun hc8 => ?_) (fun hc8 => ?_))))
         ·refine aC.seq (aC.region (aB.run II 4 rfl (aB.dh (aF rfl) Ay rfl rfl (tD H0 K A os all at_ x p o I hp ho hal hl hou hr (.inr (by simpa using hc8)) h7) (fun r7 K7 hP7 => ?_))))
          obtain ⟨A1, xu, rfl, hL⟩ := hP7
          exact aB.run II 1 rfl (aB.nil (aC.ret (⟨.inr rfl, _, _, ⟨A1, xu, rfl, hL⟩, aE.r1 rfl (.tmp rfl .nil), rfl⟩)))
         ·refine aC.seq (aC.region (aB.run II 2 rfl (aB.nil (aC.cond rfl (fun hc9 => ?_) (fun hc9 => ?_)))))
          ·refine aC.region (aB.run II 2 rfl (aB.dh (aF rfl) Fy rfl rfl (zU p o x K I.fin (I.ops _ _ _ ho hp) hl hou hn (by simpa using hc9) (h8 (by simpa using hc9)).1 (h8 (by simpa using hc9)).2) (fun r8 K8 hP8 => ?_)))
           obtain ⟨o1, rfl, hM⟩ := hP8
           exact aB.run II 1 rfl (aB.kept (Kept.aH [.s 7, .b 7, .h, .s 0, .s 1] rfl (by decide) (Kept.now (⟨(o1, _), ⟨hM, by have : x.kind = 8 := (by simpa using hc9); omega, by have : x.kind = 8 := (by simpa using hc9); omega⟩, rfl⟩))))
          ·refine aC.seq (aC.region (aB.c1 rfl (bI (aF rfl) rfl rfl rfl)  (aB.run II 1 rfl (aB.nil (aC.cond rfl (fun hc10 => ?_) (fun hc10 => ?_))))))
           ·refine aC.seq (aC.region (aB.run II 3 rfl (aB.nil (aC.seq (aC.region (aB.run II 7 rfl (aB.c3 rfl (jm (aF rfl) fm eU rfl rfl (I.ops _ _ _ ho hp) (eA _) rfl rfl (List.cons_ne_nil _ _) rfl (by rw [List.length_map]; simp only [List.length_cons, List.length_nil]; omega) (by rw [List.length_map]; simp only [List.length_cons, List.length_nil]; omega)) ?_)))))))
            refine aB.run II 2 rfl (aB.nil (aC.seq (aC.region (aB.run II 1 rfl (aB.c1 rfl (bI (aF rfl) rfl rfl (jZ (by omega) (by omega))) (aB.run II 2 rfl (aB.nil (aC.drawn mixed rfl (aD.run II 9 rfl (aD.c1 rfl (aG (aF rfl) pM rfl (lU _ _ _ _)) (aD.c1 rfl (aG (aF rfl) jU rfl (gC p.outs (c4 x.field x.num x.ty p.regs) (by omega))) (aD.run II 2 rfl (aD.nil (by kernel_rfl) (Kept.aH [.s 7, .b 7, .h, .s 0, .s 1] rfl (by decide) (Kept.now ?_)))))))))))))))
            exact ⟨(.os K.next ((p.ops.map al.av).length + 1) 13, lC K o (ae (p.ops.map al.av ++ [(w8 x p.regs).av]))), ⟨by rw [AA (by simpa using hc10)]; exact Mv.app I.fin (w8 x p.regs), by have : x.kind = 9 := (by simpa using hc10); omega, by have : x.kind = 9 := (by simpa using hc10); omega⟩, by rw [AA (by simpa using hc10)]; rfl⟩
           ·exact aC.region (aB.run II 4 rfl (aB.c1 rfl (aG (aF rfl) pL rfl (gS _ _ (by omega))) (aB.run II 2 rfl (aB.kept (Kept.aH [.s 7, .b 7, .h, .s 0, .s 1] rfl (by decide) (Kept.now (⟨(o, K), ⟨by rw [uz (show x.kind = 10 by have a1 : x.kind ≠ 1 := (by simpa using hc2); have a2 : x.kind ≠ 2 := (by simpa using hc3); have a3 : x.kind ≠ 3 := (by simpa using hc4); have a4 : x.kind ≠ 4 := (by simpa using hc5); have a5 : x.kind ≠ 5 := (by simpa using hc6); have a6 : x.kind ≠ 6 := (by simpa using hc7); have a7 : x.kind ≠ 7 := (by simpa using hc8); have a8 : x.kind ≠ 8 := (by simpa using hc9); have a9 : x.kind ≠ 9 := (by simpa using hc10); omega)]; exact Mv.same I.fin (show dC K o 13 (p.ops.map al.av) from I.ops _ _ _ ho hp), by have := (show x.kind = 10 by have a1 : x.kind ≠ 1 := (by simpa using hc2); have a2 : x.kind ≠ 2 := (by simpa using hc3); have a3 : x.kind ≠ 3 := (by simpa using hc4); have a4 : x.kind ≠ 4 := (by simpa using hc5); have a5 : x.kind ≠ 5 := (by simpa using hc6); have a6 : x.kind ≠ 6 := (by simpa using hc7); have a7 : x.kind ≠ 7 := (by simpa using hc8); have a8 : x.kind ≠ 8 := (by simpa using hc9); have a9 : x.kind ≠ 9 := (by simpa using hc10); omega); omega, by have := (show x.kind = 10 by have a1 : x.kind ≠ 1 := (by simpa using hc2); have a2 : x.kind ≠ 2 := (by simpa using hc3); have a3 : x.kind ≠ 3 := (by simpa using hc4); have a4 : x.kind ≠ 4 := (by simpa using hc5); have a5 : x.kind ≠ 5 := (by simpa using hc6); have a6 : x.kind ≠ 6 := (by simpa using hc7); have a7 : x.kind ≠ 7 := (by simpa using hc8); have a8 : x.kind ≠ 8 := (by simpa using hc9); have a9 : x.kind ≠ 9 := (by simpa using hc10); omega); omega⟩, by rw [uz (show x.kind = 10 by have a1 : x.kind ≠ 1 := (by simpa using hc2); have a2 : x.kind ≠ 2 := (by simpa using hc3); have a3 : x.kind ≠ 3 := (by simpa using hc4); have a4 : x.kind ≠ 4 := (by simpa using hc5); have a5 : x.kind ≠ 5 := (by simpa using hc6); have a6 : x.kind ≠ 6 := (by simpa using hc7); have a7 : x.kind ≠ 7 := (by simpa using hc8); have a8 : x.kind ≠ 8 := (by simpa using hc9); have a9 : x.kind ≠ 9 := (by simpa using hc10); omega)]; rfl⟩)))))))
  ·rintro ⟨o1, K1⟩ hF25
   refine aC.seq (aC.region (aB.run II 3 rfl (aB.c1 rfl (cM (aF rfl) cm rfl rfl (Int.natCast_nonneg _) (by omega)) (aB.c1 rfl (kq eL rfl rfl (I.zM ho hF25.1) rfl (fC _ _) rfl (by rw [cq hln]; exact hat) rfl) ?_))))
   exact aB.nil (aC.seq (aC.region (aB.run II 2 rfl (aB.nil (aC.ret (⟨.inr rfl, _, _, ⟨A, os.set at_ o1, (by rw [BX hp hF25.2.1 hF25.2.2, List.length_set]), (by rw [BX hp hF25.2.1 hF25.2.2]; exact I.put (q := aO p x) hp ho hF25.1)⟩, aE.r1 rfl (.tmp rfl .nil), rfl⟩))))))
/- Plain laws: a step of a part is the step of its message. No condition. -/
structure bl (names : List aw) (regs : Int) (l : List Port) : Prop where
 reg : ∀ x ∈ l, 0 ≤ x.reg ∧ x.reg < regs
 dist : (l.map (·.reg)).Nodup
 part : ∀ x ∈ l, (x.f.ty = 15 → ∃ j : Nat, x.part = (j : Int) ∧ names[j]? = some x.f.ref) ∧ (x.f.ty ≠ 15 → x.part = -1)
theorem Fit.ew {names : List aw} {p : aR} {m : aU} (h : Fit names p m) : bl names p.regs p.outs := ⟨h.reg, h.dist, h.part⟩
theorem bl.fit {names : List aw} {p : aR} {m : aU} (h : bl names p.regs p.outs) (hr : 0 ≤ p.regs) (ho : p.outs.map (·.f) = m.fields) : Fit names p m := ⟨hr, ho, h.reg, h.dist, h.part⟩
section
variable {names : List aw} {regs : Int} {l : List Port}
theorem bl.mono {regs' : Int} (h : bl names regs l) (hr : regs ≤ regs') : bl names regs' l := ⟨fun x hx => by have := h.reg x hx; omega, h.dist, h.part⟩
theorem bl.eW (h : bl names regs l) (n : aw) : bl names regs (aT l n) := by
 have hs : ∀ x ∈ aT l n, x ∈ l := fun x hx => (List.mem_filter.1 hx).1
 exact ⟨fun x hx => h.reg x (hs x hx), (List.Sublist.map _ List.filter_sublist).nodup h.dist, fun x hx => h.part x (hs x hx)⟩
theorem bl.with (h : bl names regs l) {x : Port} (h1 : 0 ≤ x.reg ∧ x.reg < regs) (h2 : x.reg ∉ l.map (·.reg)) (h3 : (x.f.ty = 15 → ∃ j : Nat, x.part = (j : Int) ∧ names[j]? = some x.f.ref) ∧ (x.f.ty ≠ 15 → x.part = -1)) : bl names regs (bN l x) := by
 refine ⟨fun y hy => ?_, ?_, fun y hy => ?_⟩
 ·rcases qK hy with rfl | hy
  ·exact h1
  ·exact h.reg y hy
 ·rw [((uW l x).map _).nodup_iff]
  exact List.nodup_cons.2 ⟨h2, h.dist⟩
 ·rcases qK hy with rfl | hy
  ·exact h3
  ·exact h.part y hy
theorem bl.new (h : bl names regs l) {n : Int} (hn : regs ≤ n) : n ∉ l.map (·.reg) := by
 intro hx
 obtain ⟨y, hy, e⟩ := List.mem_map.1 hx
 have := h.reg y hy
 omega
theorem bl.back (h : bl names regs l) (hu : (l.map (fun x => x.f.name)).Nodup) {f : Port} (hf : f ∈ l) : f.reg ∉ (aT l f.f.name).map (·.reg) := by
 intro hx
 obtain ⟨y, hy, e⟩ := List.mem_map.1 hx
 obtain ⟨hy1, hy2⟩ := List.mem_filter.1 hy
 obtain ⟨i, hi⟩ := List.mem_iff_getElem?.1 hy1
 obtain ⟨j, hj⟩ := List.mem_iff_getElem?.1 hf
 have hi' := (List.getElem?_eq_some_iff.1 hi)
 have hj' := (List.getElem?_eq_some_iff.1 hj)
 obtain ⟨hil, rfl⟩ := hi'
 obtain ⟨hjl, rfl⟩ := hj'
 have hp : l.Pairwise fun a b => a.reg ≠ b.reg := List.pairwise_map.1 h.dist
 by_cases hij : i = j
 ·subst hij; simp at hy2
 ·rcases Nat.lt_or_gt_of_ne hij with q | q
  ·exact List.pairwise_iff_getElem.1 hp i j hil hjl q e
  ·exact List.pairwise_iff_getElem.1 hp j i hjl hil q e.symm
end
/-! ### the fields -/
theorem gB (l : List ag) : aq l [] = l := by
 unfold aq
 exact List.filter_eq_self.2 fun a _ => by simp
theorem eV (l : List ag) (n : aw) : aq l [n] = l.filter fun f => !(f.name == n) := by
 unfold aq
 congr 1
 funext f
 simp
theorem rJ (l : List ag) (n k : aw) : aq l [n, k] = (l.filter fun f => !(f.name == n)).filter fun f => !(f.name == k) := by
 unfold aq
 rw [List.filter_filter]
 congr 1
 funext f
 simp [Bool.and_comm]
theorem fg {l base : List ag} {x : ag} (hb : dA (·.num) base) (hp : l.Perm (x :: base)) (hs : dA (·.num) (bF (fun y x : ag => decide (y.num > x.num)) l)) :
  bF (fun y x : ag => decide (y.num > x.num)) l = cG (fun y : ag => decide (y.num > x.num)) x base := by
 have hn : l.Pairwise fun a b => a.num ≠ b.num := ((fY _ l).pairwise_iff (fun h e => h e.symm)).1 hs.ne
 have hn2 : (x :: base).Pairwise fun a b => a.num ≠ b.num := (hp.pairwise_iff (fun h e => h e.symm)).1 hn
 have hx := (List.pairwise_cons.1 hn2).1
 have hr : dA (·.num) (cG (fun y : ag => decide (y.num > x.num)) x base) := hb.ins (k := fun f : ag => f.num) fun y hy e => hx y hy e.symm
 exact By hr (hp.trans (dq _ x base).symm)
theorem Ab {l base : List ag} {x y : ag} (hb : dA (·.num) base) (hp : l.Perm (y :: x :: base)) (hs : dA (·.num) (bF (fun y x : ag => decide (y.num > x.num)) l)) :
  dA (·.num) (cG (fun y : ag => decide (y.num > x.num)) x base) := by
 have hn : l.Pairwise fun a b => a.num ≠ b.num := ((fY _ l).pairwise_iff (fun h e => h e.symm)).1 hs.ne
 have hn2 : (y :: x :: base).Pairwise fun a b => a.num ≠ b.num := (hp.pairwise_iff (fun h e => h e.symm)).1 hn
 have hx := (List.pairwise_cons.1 (List.pairwise_cons.1 hn2).2).1
 exact hb.ins (k := fun f : ag => f.num) fun y hy e => hx y hy e.symm
theorem vm {x : aP} (h1 : x.kind ≠ 1) (h3 : x.kind ≠ 3) (h8 : x.kind ≠ 8) (f : ag) : x.changed f = f := by
 unfold aP.changed
 rw [if_neg h8]
 rw [if_neg h1, if_neg h3]
 split <;> rfl
theorem cY {x : aP} (h1 : x.kind ≠ 1) (h3 : x.kind ≠ 3) (h8 : x.kind ≠ 8) (l : List ag) : l.map x.changed = l := by
 conv => rhs; rw [← List.map_id l]
 exact List.map_congr_left fun f _ => vm h1 h3 h8 f
theorem mz {x : aP} (h8 : x.kind ≠ 8) {f : ag} (h : f.name ≠ x.field) : x.changed f = f := by
 unfold aP.changed
 rw [if_neg h8, if_neg h]
/- Plain laws: a step of a part is the step of its message: those that leave the other parts alone. No condition. -/
def aP.dr (s : aM) (m : aU) (x : aP) : List ag := (aq m.fields x.goes).map x.changed ++ x.comes s (m.aQ x.field)
def Fb : ag → ag → Bool := fun y x => decide (y.num > x.num)
theorem zI {names : List aw} {s t : aM} {x : aP} {m : aU} {at_ : Nat} (A : cB s x t m at_) {p : aR} (hF : Fit names p m) (h6 : x.kind ≠ 6) (h7 : x.kind ≠ 7) (hs : dA (·.num) (bF Fb (x.dr s m))) :
  (aO p x).outs.map (·.f) = bF Fb (x.dr s m) ∧ bl names (aO p x).regs (aO p x).outs ∧ p.regs ≤ (aO p x).regs := by
 have hm : m ∈ s.msgs := List.mem_of_getElem? A.eq
 have hfn := A.fL.fn m hm
 have hfr := A.fL.fr m hm
 have hnames : (p.outs.map (fun y => y.f.name)).Nodup := by
  have : p.outs.map (fun y => y.f.name) = (p.outs.map (·.f)).map (·.name) := by rw [List.map_map]; rfl
  rw [this, hF.outs]; exact hfn
 have hk : 1 ≤ x.kind ∧ x.kind ≤ 10 := by
  have := A.rt
  simp only [aP.right, Bool.and_eq_true, decide_eq_true_eq] at this
  obtain ⟨⟨⟨⟨⟨⟨⟨⟨⟨⟨q1, q2⟩, _⟩, _⟩, _⟩, _⟩, _⟩, _⟩, _⟩, _⟩, _⟩ := this
  exact ⟨q1, q2⟩
 have hport : m.eD x.field = true → aL p.outs x.field ∈ p.outs ∧ (aL p.outs x.field).f = m.aQ x.field ∧ (aL p.outs x.field).f.name = x.field := fun h => by
  have hh := en h
  exact fJ hF.outs ⟨_, hh.1, hh.2⟩
 have hback : m.eD x.field = true → (aL p.outs x.field).reg ∉ (aT p.outs x.field).map (·.reg) := fun h => by
  obtain ⟨q1, q2, q3⟩ := hport h
  have := hF.ew.back hnames q1
  rwa [q3] at this
 have h0 := hF.rn
 have : x.kind = 1 ∨ x.kind = 2 ∨ x.kind = 3 ∨ x.kind = 4 ∨ x.kind = 5 ∨ x.kind = 8 ∨ x.kind = 9 ∨ x.kind = 10 := by omega
 rcases this with h | h | h | h | h | h | h | h
 ·have hhas : m.eD x.field = true := by have := A.has; simpa [aP.bg, h] using this
  obtain ⟨q1, q2, q3⟩ := hport hhas
  have r1 := hF.reg _ q1
  have r2 := hF.part _ q1
  obtain ⟨f1, f2⟩ := en hhas
  have ef : x.dr s m = m.fields.map x.changed := by simp [aP.dr, aP.goes, aP.comes, h, gB]
  have ec : x.changed (m.aQ x.field) = { m.aQ x.field with name := x.dest } := by simp [aP.changed, h, f2]
  have hp := wh (·.name) hfn f1 (g := x.changed) fun y _ hy => mz (by omega) (by rw [f2] at hy; exact hy)
  rw [ec, f2, ← ef] at hp
  refine ⟨?_, ?_, by simp [aO, h] <;> omega⟩
  ·simp only [aO, h, if_true]
   rw [dn, cO, hF.outs, q2]
   exact (fg (hfr.filter _) hp hs).symm
  ·simp only [aO, h, if_true]
   exact (hF.ew.eW x.field).with r1 (hback hhas) r2
 ·have hhas : m.eD x.field = true := by have := A.has; simpa [aP.bg, h] using this
  obtain ⟨q1, q2, q3⟩ := hport hhas
  have r1 := hF.reg _ q1
  have r2 := hF.part _ q1
  have ef : x.dr s m = (m.fields.filter fun f => !(f.name == x.field)) ++ [{ m.aQ x.field with num := x.num }] := by
   simp only [aP.dr, aP.goes, aP.comes, h]
   simp only [show ¬ (2 : Int) = 1 by decide, if_true, true_or, eV]
   rw [cY (by omega) (by omega) (by omega)]
  have hp : (x.dr s m).Perm ({ m.aQ x.field with num := x.num } :: m.fields.filter fun f => !(f.name == x.field)) := by rw [ef]; exact List.perm_append_comm
  refine ⟨?_, ?_, by simp [aO, h] <;> omega⟩
  ·simp only [aO, h, show ¬ (2 : Int) = 1 by decide, if_false, if_true]
   rw [dn, cO, hF.outs, q2]
   exact (fg (hfr.filter _) hp hs).symm
  ·simp only [aO, h, show ¬ (2 : Int) = 1 by decide, if_false, if_true]
   exact (hF.ew.eW x.field).with r1 (hback hhas) r2
 ·have hhas : m.eD x.field = true := by have := A.has; simpa [aP.bg, h] using this
  obtain ⟨q1, q2, q3⟩ := hport hhas
  have r1 := hF.reg _ q1
  have r2 := hF.part _ q1
  obtain ⟨f1, f2⟩ := en hhas
  have hty : (m.aQ x.field).ty ≠ 15 ∧ x.ty ≠ 15 := by
   have ha := A.ask
   have ht := A.rt
   simp only [aP.asked, h, if_true, Bool.and_eq_true, decide_eq_true_eq] at ha
   simp only [aP.right, Bool.and_eq_true, aP.typed, h, if_true] at ht
   have hw : cW x.ty = true := ht.1.1.2
   simp only [cW, Bool.or_eq_true, Bool.and_eq_true, decide_eq_true_eq] at hw
   omega
  have ef : x.dr s m = m.fields.map x.changed := by simp [aP.dr, aP.goes, aP.comes, h, gB]
  have ec : x.changed (m.aQ x.field) = { m.aQ x.field with ty := x.ty } := by simp [aP.changed, h, f2]
  have hp := wh (·.name) hfn f1 (g := x.changed) fun y _ hy => mz (by omega) (by rw [f2] at hy; exact hy)
  rw [ec, f2, ← ef] at hp
  have hpt := (hF.part _ q1).2 (by rw [q2]; exact hty.1)
  refine ⟨?_, ?_, by simp [aO, h] <;> omega⟩
  ·simp only [aO, h, show ¬ (3 : Int) = 1 by decide, show ¬ (3 : Int) = 2 by decide, if_false, if_true]
   rw [dn, cO, hF.outs, q2]
   exact (fg (hfr.filter _) hp hs).symm
  ·simp only [aO, h, show ¬ (3 : Int) = 1 by decide, show ¬ (3 : Int) = 2 by decide, if_false, if_true]
   exact (hF.ew.eW x.field).with r1 (hback hhas) ⟨fun e => absurd e hty.2, fun _ => hpt⟩
 ·have hhas : m.eD x.field = true := by have := A.has; simpa [aP.bg, h] using this
  obtain ⟨q1, q2, q3⟩ := hport hhas
  have r1 := hF.reg _ q1
  have r2 := hF.part _ q1
  have ef : x.dr s m = (m.fields.filter fun f => !(f.name == x.field)) ++ [{ dg with name := x.dest, num := x.num, ty := 3 }, { dg with name := x.also, num := x.other, ty := 3 }] := by
   simp only [aP.dr, aP.goes, aP.comes, h]
   simp only [show ¬ (4 : Int) = 2 by decide, if_false, if_true, true_or, or_true, eV]
   rw [cY (by omega) (by omega) (by omega)]
  have hp : (x.dr s m).Perm ({ dg with name := x.also, num := x.other, ty := 3 } :: { dg with name := x.dest, num := x.num, ty := 3 } :: m.fields.filter fun f => !(f.name == x.field)) := by
   rw [ef]
   exact List.perm_append_comm.trans (List.Perm.swap _ _ _)
  have hr := Ab (hfr.filter _) hp hs
  have hp2 := hp.trans ((dq (fun y : ag => decide (y.num > x.num)) { dg with name := x.dest, num := x.num, ty := 3 } (m.fields.filter fun f => !(f.name == x.field))).symm.cons { dg with name := x.also, num := x.other, ty := 3 })
  refine ⟨?_, ?_, by simp [aO, h] <;> omega⟩
  ·simp only [aO, h, show ¬ (4 : Int) = 1 by decide, show ¬ (4 : Int) = 2 by decide, show ¬ (4 : Int) = 3 by decide, if_false, if_true]
   rw [dn, dn, cO, hF.outs]
   exact (fg hr hp2 hs).symm
  ·simp only [aO, h, show ¬ (4 : Int) = 1 by decide, show ¬ (4 : Int) = 2 by decide, show ¬ (4 : Int) = 3 by decide, if_false, if_true]
   have hw := hF.ew.eW x.field
   have g1 : bl names (p.regs + 1) (bN (aT p.outs x.field) (c4 x.dest x.num 3 p.regs)) := (hw.mono (by omega)).with ⟨h0, by show p.regs < p.regs + 1; omega⟩ (hw.new (Int.le_refl _)) ⟨fun e => absurd (show (3 : Int) = 15 from e) (by decide), fun _ => rfl⟩
   exact (g1.mono (by omega)).with ⟨by show 0 ≤ p.regs + 1; omega, by show p.regs + 1 < p.regs + 2; omega⟩ (g1.new (Int.le_refl _)) ⟨fun e => absurd (show (3 : Int) = 15 from e) (by decide), fun _ => rfl⟩
 ·have hhas : m.eD x.field = true ∧ m.eD x.also = true := by have := A.has; simpa [aP.bg, h] using this
  obtain ⟨q1, q2, q3⟩ := hport hhas.1
  have ef : x.dr s m = ((m.fields.filter fun f => !(f.name == x.field)).filter fun f => !(f.name == x.also)) ++ [{ dg with name := x.dest, num := x.num, ty := 4 }] := by
   simp only [aP.dr, aP.goes, aP.comes, h]
   simp only [show ¬ (5 : Int) = 2 by decide, show ¬ (5 : Int) = 4 by decide, show ¬ (5 : Int) = 6 by decide, show ¬ (5 : Int) = 7 by decide, show ¬ (5 : Int) = 10 by decide, or_false, false_or, if_false, if_true, rJ]
   rw [cY (by omega) (by omega) (by omega)]
  have hp : (x.dr s m).Perm ({ dg with name := x.dest, num := x.num, ty := 4 } :: ((m.fields.filter fun f => !(f.name == x.field)).filter fun f => !(f.name == x.also))) := by rw [ef]; exact List.perm_append_comm
  refine ⟨?_, ?_, by simp [aO, h] <;> omega⟩
  ·simp only [aO, h, show ¬ (5 : Int) = 1 by decide, show ¬ (5 : Int) = 2 by decide, show ¬ (5 : Int) = 3 by decide, show ¬ (5 : Int) = 4 by decide, if_false, if_true]
   rw [dn, cO, cO, hF.outs]
   exact (fg ((hfr.filter _).filter _) hp hs).symm
  ·simp only [aO, h, show ¬ (5 : Int) = 1 by decide, show ¬ (5 : Int) = 2 by decide, show ¬ (5 : Int) = 3 by decide, show ¬ (5 : Int) = 4 by decide, if_false, if_true]
   have hw := (hF.ew.eW x.field).eW x.also
   exact (hw.mono (by omega)).with ⟨h0, by show p.regs < p.regs + 1; omega⟩ (hw.new (Int.le_refl _)) ⟨fun e => absurd (show (4 : Int) = 15 from e) (by decide), fun _ => rfl⟩
 ·have ef : x.dr s m = m.fields.map x.changed := by simp [aP.dr, aP.goes, aP.comes, h, gB]
  have hnum : ∀ f, (x.changed f).num = f.num ∧ (x.changed f).ty = f.ty ∧ (x.changed f).ref = f.ref := fun f => by
   unfold aP.changed
   rw [if_pos h]
   split <;> exact ⟨rfl, rfl, rfl⟩
  have eo : (aO p x).outs = p.outs.map fun y => { y with f := x.changed y.f } := by
   simp only [aO, h, show ¬ (8 : Int) = 1 by decide, show ¬ (8 : Int) = 2 by decide, show ¬ (8 : Int) = 3 by decide, show ¬ (8 : Int) = 4 by decide, show ¬ (8 : Int) = 5 by decide, if_false, if_true]
   refine List.map_congr_left fun y _ => ?_
   unfold aP.changed
   rw [if_pos h]
   split <;> rfl
  have er : (aO p x).regs = p.regs := by
   simp only [aO, h, show ¬ (8 : Int) = 1 by decide, show ¬ (8 : Int) = 2 by decide, show ¬ (8 : Int) = 3 by decide, show ¬ (8 : Int) = 4 by decide, show ¬ (8 : Int) = 5 by decide, if_false, if_true]
  have hr : dA (·.num) (m.fields.map x.changed) := List.pairwise_map.2 (hfr.imp fun {a b} hab => by
   show (x.changed a).num < (x.changed b).num
   rw [(hnum a).1, (hnum b).1]; exact hab)
  refine ⟨?_, ?_, by rw [er]; omega⟩
  ·rw [eo, ef]
   have e2 : (p.outs.map fun y => { y with f := x.changed y.f }).map (·.f) = m.fields.map x.changed := by
    rw [← hF.outs, List.map_map, List.map_map]; rfl
   rw [e2]
   exact (kM (k := fun f : ag => f.num) hr).symm
  ·rw [eo, er]
   refine ⟨fun y hy => ?_, ?_, fun y hy => ?_⟩
   ·obtain ⟨z, hz, rfl⟩ := List.mem_map.1 hy
    exact hF.reg z hz
   ·rw [List.map_map]; exact hF.dist
   ·obtain ⟨z, hz, rfl⟩ := List.mem_map.1 hy
    have := hF.part z hz
    show ((x.changed z.f).ty = 15 → _) ∧ ((x.changed z.f).ty ≠ 15 → _)
    rw [(hnum z.f).2.1, (hnum z.f).2.2]
    exact this
 ·have ef : x.dr s m = m.fields ++ [{ dg with name := x.field, num := x.num, ty := x.ty }] := by
   simp only [aP.dr, aP.goes, aP.comes, h]
   simp only [show ¬ (9 : Int) = 2 by decide, show ¬ (9 : Int) = 4 by decide, show ¬ (9 : Int) = 5 by decide, show ¬ (9 : Int) = 6 by decide, show ¬ (9 : Int) = 7 by decide, show ¬ (9 : Int) = 10 by decide, or_false, if_false, if_true, gB]
   rw [cY (by omega) (by omega) (by omega)]
  have hp : (x.dr s m).Perm ({ dg with name := x.field, num := x.num, ty := x.ty } :: m.fields) := by rw [ef]; exact List.perm_append_comm
  have hty : x.ty ≠ 15 := by
   have ht := A.rt
   simp only [aP.right, Bool.and_eq_true, aP.typed, h, show ¬ (9 : Int) = 3 by decide, if_false, if_true] at ht
   have hw := ht.1.1.2
   intro e
   rw [e] at hw
   exact absurd hw (by decide)
  refine ⟨?_, ?_, by simp [aO, h] <;> omega⟩
  ·simp only [aO, h, show ¬ (9 : Int) = 1 by decide, show ¬ (9 : Int) = 2 by decide, show ¬ (9 : Int) = 3 by decide, show ¬ (9 : Int) = 4 by decide, show ¬ (9 : Int) = 5 by decide, show ¬ (9 : Int) = 8 by decide, if_false, if_true]
   rw [dn, hF.outs]
   exact (fg hfr hp hs).symm
  ·simp only [aO, h, show ¬ (9 : Int) = 1 by decide, show ¬ (9 : Int) = 2 by decide, show ¬ (9 : Int) = 3 by decide, show ¬ (9 : Int) = 4 by decide, show ¬ (9 : Int) = 5 by decide, show ¬ (9 : Int) = 8 by decide, if_false, if_true]
   exact (hF.ew.mono (by omega)).with ⟨h0, by show p.regs < p.regs + 1; omega⟩ (hF.ew.new (Int.le_refl _)) ⟨fun e => absurd e hty, fun _ => rfl⟩
 ·have ef : x.dr s m = m.fields.filter fun f => !(f.name == x.field) := by
   simp only [aP.dr, aP.goes, aP.comes, h]
   simp only [show ¬ (10 : Int) = 2 by decide, show ¬ (10 : Int) = 4 by decide, show ¬ (10 : Int) = 5 by decide, show ¬ (10 : Int) = 6 by decide, show ¬ (10 : Int) = 7 by decide, show ¬ (10 : Int) = 9 by decide, or_true, if_false, if_true, eV, List.append_nil]
   rw [cY (by omega) (by omega) (by omega)]
  refine ⟨?_, ?_, by simp [aO, h] <;> omega⟩
  ·simp only [aO, h, show ¬ (10 : Int) = 1 by decide, show ¬ (10 : Int) = 2 by decide, show ¬ (10 : Int) = 3 by decide, show ¬ (10 : Int) = 4 by decide, show ¬ (10 : Int) = 5 by decide, show ¬ (10 : Int) = 8 by decide, show ¬ (10 : Int) = 9 by decide, if_false]
   rw [cO, hF.outs, ef]
   exact (kM (k := fun f : ag => f.num) (hfr.filter _)).symm
  ·simp only [aO, h, show ¬ (10 : Int) = 1 by decide, show ¬ (10 : Int) = 2 by decide, show ¬ (10 : Int) = 3 by decide, show ¬ (10 : Int) = 4 by decide, show ¬ (10 : Int) = 5 by decide, show ¬ (10 : Int) = 8 by decide, show ¬ (10 : Int) = 9 by decide, if_false]
   exact hF.ew.eW x.field
/- Plain laws: the parts are the messages behind a step too: steps that make no message, and take none away. No condition. -/
theorem ia {names : List aw} {s : aw} {k : Nat} (hk : names[k]? = some s) (hu : ∀ j, names[j]? = some s → j = k) : cP names s = k := by
 obtain ⟨hlt, hs⟩ := List.getElem?_eq_some_iff.1 hk
 have hr : names.length - 1 - k < names.reverse.length := by rw [List.length_reverse]; omega
 have hfi : names.reverse.findIdx (· == s) = names.length - 1 - k := by
  rw [List.findIdx_eq hr]
  refine ⟨?_, fun j hj => ?_⟩
  ·rw [List.getElem_reverse]
   have : names.length - 1 - (names.length - 1 - k) = k := by omega
   simp only [this, hs, beq_self_eq_true]
  ·rw [List.getElem_reverse]
   have hlt2 : names.length - 1 - j < names.length := by omega
   have hne : names[names.length - 1 - j] ≠ s := fun e => by
    have := hu (names.length - 1 - j) (by rw [List.getElem?_eq_getElem hlt2, e])
    omega
   simp [hne]
 unfold cP
 rw [hfi]; omega
theorem il {names : List aw} {p : aR} {m : aU} (h : Fit names p m) : Fit names (bV p) m := ⟨h.rn, h.outs, h.reg, h.dist, h.part⟩
section
variable {s t : aM} {x : aP} {m : aU} {at_ : Nat}
theorem iU (hs : s.tU) {i j : Nat} {a b : aU} (hi : s.msgs[i]? = some a) (hj : s.msgs[j]? = some b) (e : a.name = b.name) : i = j := by
 have hn := (List.nodup_append.1 hs.nd).2.1
 obtain ⟨h1, rfl⟩ := List.getElem?_eq_some_iff.1 hi
 obtain ⟨h2, rfl⟩ := List.getElem?_eq_some_iff.1 hj
 have hp : s.msgs.Pairwise fun a b => a.name ≠ b.name := List.pairwise_map.1 hn
 rcases Nat.lt_trichotomy i j with q | q | q
 ·exact absurd e (List.pairwise_iff_getElem.1 hp i j h1 h2 q)
 ·exact q
 ·exact absurd e.symm (List.pairwise_iff_getElem.1 hp j i h2 h1 q)
def jn (s : aM) (m : aU) (x : aP) : aU := { m with fields := x.dr s m }
theorem mem_set {l : List aU} {i : Nat} {a y : aU} (h : y ∈ l.set i a) : (y = a ∧ i < l.length) ∨ ∃ j, j ≠ i ∧ l[j]? = some y := by
 obtain ⟨j, hj⟩ := List.mem_iff_getElem?.1 h
 rw [List.getElem?_set] at hj
 split at hj
 ·rename_i e
  split at hj
  ·rename_i hl; cases hj; exact .inl ⟨rfl, by omega⟩
  ·cases hj
 ·rename_i e; exact .inr ⟨j, fun q => e q.symm, hj⟩
theorem cB.plain (A : cB s x t m at_) (h6 : x.kind ≠ 6) (h7 : x.kind ≠ 7) : t = (⟨s.enums, s.msgs.set at_ (jn s m x)⟩ : aM).sorted := by
 have := A.out
 rw [vF h6 h7] at this
 exact this
theorem cB.mem (A : cB s x t m at_) (h6 : x.kind ≠ 6) (h7 : x.kind ≠ 7) {y : aU} : y ∈ t.msgs ↔ y = (jn s m x).sort ∨ ∃ j, j ≠ at_ ∧ s.msgs[j]? = some y := by
 have hp : t.msgs.Perm ((s.msgs.set at_ (jn s m x)).map aU.sort) := by rw [A.plain h6 h7]; exact jd _
 rw [hp.mem_iff]
 constructor
 ·intro h
  obtain ⟨z, hz, rfl⟩ := List.mem_map.1 h
  rcases mem_set hz with ⟨rfl, _⟩ | ⟨j, hj, e⟩
  ·exact .inl rfl
  ·have hm := List.mem_of_getElem? e
   refine .inr ⟨j, hj, ?_⟩
   rw [aU.jD (A.fL.fr z hm) (A.fL.br z hm)]; exact e
 ·rintro (rfl | ⟨j, hj, e⟩)
  ·exact List.mem_map_of_mem (List.mem_iff_getElem?.2 ⟨at_, List.getElem?_set_self A.lt⟩)
  ·have hm := List.mem_of_getElem? e
   refine List.mem_map.2 ⟨y, (List.mem_iff_getElem?.2 ⟨j, ?_⟩), aU.jD (A.fL.fr y hm) (A.fL.br y hm)⟩
   rw [List.getElem?_set_ne (fun q => hj q.symm)]; exact e
theorem Inv.plain {w : fB} (I : Inv s w) (A : cB s x t m at_) (h6 : x.kind ≠ 6) (h7 : x.kind ≠ 7) : Inv t (w.step x) := by
 have hm : m ∈ s.msgs := List.mem_of_getElem? A.eq
 obtain ⟨k, p, k1, k2, hF⟩ := I.fwd m hm
 have hne : m.name ≠ [] := gx (A.fL.nm m hm)
 have hk : k < w.all.length := (List.getElem?_eq_some_iff.1 k2).1
 have hix : cP w.names x.msg = k := ia (by rw [← A.nm]; exact k1) fun j hj => I.uniq j k _ hj (by rw [← A.nm]; exact k1) (by rw [← A.nm]; exact hne)
 have hgd : w.all.getD k bY = p := by rw [List.getD_eq_getElem?_getD, k2]; rfl
 have hst : w.step x = ⟨w.all.set k (bV (aO p x)), w.names⟩ := by
  unfold fB.step
  simp only [hix, h6, h7, if_false, au, hgd]
  congr 1
  rw [List.getD_eq_getElem?_getD, List.getElem?_set_self hk]
  simp
 have hnew : (jn s m x).sort ∈ t.msgs := (A.mem h6 h7).2 (.inl rfl)
 have hrise : dA (·.num) (bF Fb (x.dr s m)) := A.okT.fr _ hnew
 obtain ⟨s1, s2, s3⟩ := zI A hF h6 h7 hrise
 rw [hst]
 refine ⟨by simp [I.len], A.okT, ?_, I.uniq, fun i n hi hn => ?_, fun y hy => ?_⟩
 ·have hr := I.root
  show w.names.head? = _
  rw [hr, A.plain h6 h7]
  cases e : s.msgs with
  | nil => have := A.lt; rw [e] at this; simp at this
  | cons a l =>
   have hh : ((a :: l).set at_ (jn s m x)).head? = some (if at_ = 0 then jn s m x else a) := by
    cases at_ with
    | zero => rfl
    | succ i => rfl
   have := je (s := ⟨s.enums, (a :: l).set at_ (jn s m x)⟩) hh
   rw [this]
   simp only [List.head?_cons, Option.map_some, Option.some.injEq]
   split
   ·rename_i h0
    have := A.eq
    rw [h0, e] at this
    simp at this
    rw [this]; rfl
   ·rfl
 ·obtain ⟨y, hy, e⟩ := I.back i n hi hn
  obtain ⟨j, hj⟩ := List.mem_iff_getElem?.1 hy
  by_cases hja : j = at_
  ·subst hja
   rw [A.eq] at hj; cases hj
   exact ⟨_, hnew, e⟩
  ·exact ⟨y, (A.mem h6 h7).2 (.inr ⟨j, hja, hj⟩), e⟩
 ·rcases (A.mem h6 h7).1 hy with rfl | ⟨j, hj, e⟩
  ·refine ⟨k, _, k1, List.getElem?_set_self hk, il (s2.fit (by have := hF.rn; omega) s1)⟩
  ·obtain ⟨k', p', q1, q2, q3⟩ := I.fwd y (List.mem_of_getElem? e)
   refine ⟨k', p', q1, ?_, q3⟩
   rw [List.getElem?_set_ne, q2]
   intro hkk
   subst hkk
   rw [k1] at q1
   exact hj (iU A.fL e A.eq (by injection q1 with q1; exact q1.symm))
end
/- Plain laws: the parts are the messages behind a step that wraps, too. No condition. -/
theorem bl.names {names names' : List aw} {regs : Int} {l : List Port} (h : bl names regs l) (hn : ∀ x ∈ l, ∀ j : Nat, x.f.ty = 15 → names[j]? = some x.f.ref → names'[j]? = some x.f.ref) : bl names' regs l :=
 ⟨h.reg, h.dist, fun x hx => ⟨fun e => by obtain ⟨j, h1, h2⟩ := (h.part x hx).1 e; exact ⟨j, h1, hn x hx j e h2⟩, (h.part x hx).2⟩⟩
theorem Fit.names {names names' : List aw} {p : aR} {m : aU} (h : Fit names p m) (hn : ∀ f ∈ m.fields, ∀ j : Nat, f.ty = 15 → names[j]? = some f.ref → names'[j]? = some f.ref) : Fit names' p m :=
 (h.ew.names fun x hx j e h1 => hn x.f (by rw [← h.outs]; exact List.mem_map_of_mem hx) j e h1).fit h.rn h.outs
section
variable {s t : aM} {x : aP} {m : aU} {at_ : Nat}
def mi (m : aU) (x : aP) : aU := { ja with name := x.dest, fields := [m.aQ x.field] }
theorem uU : (mi m x).sort = mi m x := by
 refine aU.jD ?_ ?_
 ·exact List.pairwise_singleton _ _
 ·exact List.Pairwise.nil
theorem cB.wrap (A : cB s x t m at_) (h6 : x.kind = 6) : t = (⟨s.enums, s.msgs.set at_ (jn s m x) ++ [mi m x]⟩ : aM).sorted := by
 have := A.out
 rw [yI h6] at this
 have e : s.msgs.getD at_ ja = m := by rw [List.getD_eq_getElem?_getD, A.eq]; rfl
 rw [e] at this
 exact this
theorem cB.DC (A : cB s x t m at_) (h6 : x.kind = 6) {y : aU} : y ∈ t.msgs ↔ y = (jn s m x).sort ∨ (∃ j, j ≠ at_ ∧ s.msgs[j]? = some y) ∨ y = mi m x := by
 have hp : t.msgs.Perm ((s.msgs.set at_ (jn s m x) ++ [mi m x]).map aU.sort) := by rw [A.wrap h6]; exact jd _
 rw [hp.mem_iff, List.map_append, List.mem_append]
 simp only [List.map_cons, List.map_nil, List.mem_singleton, uU]
 constructor
 ·rintro (h | h)
  ·obtain ⟨z, hz, rfl⟩ := List.mem_map.1 h
   rcases mem_set hz with ⟨rfl, _⟩ | ⟨j, hj, e⟩
   ·exact .inl rfl
   ·have hm := List.mem_of_getElem? e
    refine .inr (.inl ⟨j, hj, ?_⟩)
    rw [aU.jD (A.fL.fr z hm) (A.fL.br z hm)]; exact e
  ·exact .inr (.inr h)
 ·rintro (rfl | ⟨j, hj, e⟩ | h)
  ·exact .inl (List.mem_map_of_mem (List.mem_iff_getElem?.2 ⟨at_, List.getElem?_set_self A.lt⟩))
  ·have hm := List.mem_of_getElem? e
   refine .inl (List.mem_map.2 ⟨y, (List.mem_iff_getElem?.2 ⟨j, ?_⟩), aU.jD (A.fL.fr y hm) (A.fL.br y hm)⟩)
   rw [List.getElem?_set_ne (fun q => hj q.symm)]; exact e
  ·exact .inr h
theorem cB.fresh (A : cB s x t m at_) (h6 : x.kind = 6) : ∀ y ∈ s.msgs, y.name ≠ x.dest := by
 have ht := A.th
 simp only [aP.there, h6, Bool.or_eq_false_iff, Bool.and_eq_false_iff, decide_eq_false_iff_not] at ht
 have hlt : ¬ 0 ≤ s.bD x.dest := by
  rcases ht.1.2 with q | q
  ·exact absurd trivial q
  ·exact q.2
 intro y hy e
 rcases bB (fun m : aU => m.name == x.dest) s.msgs 0 with ⟨h1, h2⟩ | ⟨i, hi, h1, h2⟩
 ·have := List.find?_eq_none.1 h2 y hy
  simp [e] at this
 ·apply hlt
  show 0 ≤ bU (fun m : aU => m.name == x.dest) s.msgs 0
  rw [h1]; omega
theorem Inv.wrap {w : fB} (I : Inv s w) (A : cB s x t m at_) (h6 : x.kind = 6) : Inv t (w.step x) := by
 have hm : m ∈ s.msgs := List.mem_of_getElem? A.eq
 obtain ⟨k, p, k1, k2, hF⟩ := I.fwd m hm
 have hne : m.name ≠ [] := gx (A.fL.nm m hm)
 have hk : k < w.all.length := (List.getElem?_eq_some_iff.1 k2).1
 have hix : cP w.names x.msg = k := ia (by rw [← A.nm]; exact k1) fun j hj => I.uniq j k _ hj (by rw [← A.nm]; exact k1) (by rw [← A.nm]; exact hne)
 have hgd : w.all.getD k bY = p := by rw [List.getD_eq_getElem?_getD, k2]; rfl
 have hhas : m.eD x.field = true := by have := A.has; simpa [aP.bg, h6] using this
 have hh := en hhas
 obtain ⟨q1, q2, q3⟩ := fJ hF.outs ⟨_, hh.1, hh.2⟩
 have q2 : (aL p.outs x.field).f = m.aQ x.field := q2
 have hfr := A.fL.fr m hm
 have hfn := A.fL.fn m hm
 let g : Port := ⟨{ dg with name := x.also, num := x.num, ty := 15, ref := x.dest }, p.regs, w.all.length⟩
 let p' : aR := { p with ops := p.ops ++ [{ gE with kind := 4, a := (aL p.outs x.field).reg, b := p.regs, part := w.all.length }], regs := p.regs + 1, outs := bN (aT p.outs x.field) g }
 let wp : aR := bV { bY with name := x.dest, born := true, regs := 1, ins := [{ aL p.outs x.field with reg := 0 }], outs := [{ aL p.outs x.field with reg := 0 }] }
 have hst : w.step x = ⟨(w.all ++ [wp]).set k (bV p'), w.names ++ [x.dest]⟩ := by
  unfold fB.step
  have h7 : ¬ x.kind = 7 := by omega
  simp only [hix, h7, h6, if_true, if_false, au, hgd, show ¬ (6 : Int) = 7 by decide]
  congr 1
  have hl : k < (w.all ++ [wp]).length := by simp; omega
  rw [List.getD_eq_getElem?_getD, List.getElem?_set_self hl]
  simp only [Option.getD_some, List.set_set]
  rfl
 have hnew : (jn s m x).sort ∈ t.msgs := (A.DC h6).2 (.inl rfl)
 have hrise : dA (·.num) (bF Fb (x.dr s m)) := A.okT.fr _ hnew
 have hext : ∀ (j : Nat) n, w.names[j]? = some n → (w.names ++ [x.dest])[j]? = some n := fun j n h => by
  rw [List.getElem?_append_left (List.getElem?_eq_some_iff.1 h).1]; exact h
 have hold : ∀ (j : Nat) n, w.names[j]? = some n → n ≠ [] → n ≠ x.dest := fun j n h hn e => by
  obtain ⟨y, hy, e2⟩ := I.back j n h hn
  exact A.fresh h6 y hy (e2.trans e)
 have ef : x.dr s m = (m.fields.filter fun f => !(f.name == x.field)) ++ [g.f] := by
  simp only [aP.dr, aP.goes, aP.comes, h6]
  simp only [show ¬ (6 : Int) = 2 by decide, show ¬ (6 : Int) = 4 by decide, show ¬ (6 : Int) = 5 by decide, if_false, if_true, true_or, or_true, eV]
  rw [cY (by omega) (by omega) (by omega)]
 have hp : (x.dr s m).Perm (g.f :: m.fields.filter fun f => !(f.name == x.field)) := by rw [ef]; exact List.perm_append_comm
 have hlast : (w.names ++ [x.dest])[w.all.length]? = some x.dest := by rw [← I.len]; simp
 have hpo : bl (w.names ++ [x.dest]) (p.regs + 1) (bN (aT p.outs x.field) g) := by
  have hw := (hF.ew.eW x.field).names (names' := w.names ++ [x.dest]) fun y hy j e h1 => hext j _ h1
  exact (hw.mono (by omega)).with ⟨hF.rn, by show p.regs < p.regs + 1; omega⟩ ((hF.ew.eW x.field).new (Int.le_refl _)) ⟨fun _ => ⟨w.all.length, rfl, hlast⟩, fun e => absurd rfl e⟩
 have hout : (bN (aT p.outs x.field) g).map (·.f) = bF Fb (x.dr s m) := by
  rw [dn, cO, hF.outs]
  exact (fg (hfr.filter _) hp hrise).symm
 rw [hst]
 refine ⟨by simp [I.len], A.okT, ?_, fun i j n hi hj hn => ?_, fun i n hi hn => ?_, fun y hy => ?_⟩
 ·have hr := I.root
  have hne0 : w.names.head? = (w.names ++ [x.dest]).head? := by
   cases e : w.names with
   | nil => rw [e] at k1; simp at k1
   | cons a l => rfl
  show (w.names ++ [x.dest]).head? = _
  rw [← hne0, hr, A.wrap h6]
  cases e : s.msgs with
  | nil => have := A.lt; rw [e] at this; simp at this
  | cons a l =>
   have hh2 : ((a :: l).set at_ (jn s m x) ++ [mi m x]).head? = some (if at_ = 0 then jn s m x else a) := by
    cases at_ with
    | zero => rfl
    | succ i => rfl
   have := je (s := ⟨s.enums, (a :: l).set at_ (jn s m x) ++ [mi m x]⟩) hh2
   rw [this]
   simp only [List.head?_cons, Option.map_some, Option.some.injEq]
   split
   ·rename_i h0
    have := A.eq
    rw [h0, e] at this
    simp at this
    rw [this]; rfl
   ·rfl
 ·have key : ∀ (i : Nat), (w.names ++ [x.dest])[i]? = some n → (w.names[i]? = some n) ∨ (i = w.names.length ∧ n = x.dest) := fun i h => by
   by_cases hl : i < w.names.length
   ·rw [List.getElem?_append_left hl] at h; exact .inl h
   ·rw [List.getElem?_append_right (by omega)] at h
    have : i - w.names.length = 0 := by
     have := (List.getElem?_eq_some_iff.1 h).1
     simp at this; omega
    rw [this] at h
    simp at h
    exact .inr ⟨by omega, h.symm⟩
  rcases key i hi with a | ⟨a, b⟩ <;> rcases key j hj with c | ⟨c, d⟩
  ·exact I.uniq i j n a c hn
  ·exact absurd d (hold i n a hn)
  ·exact absurd b (hold j n c hn)
  ·omega
 ·by_cases hl : i < w.names.length
  ·have hi' : w.names[i]? = some n := by
    have : (w.names ++ [x.dest])[i]? = some n := hi
    rwa [List.getElem?_append_left hl] at this
   obtain ⟨y, hy, e⟩ := I.back i n hi' hn
   obtain ⟨j, hj⟩ := List.mem_iff_getElem?.1 hy
   by_cases hja : j = at_
   ·subst hja
    rw [A.eq] at hj; cases hj
    exact ⟨_, hnew, e⟩
   ·exact ⟨y, (A.DC h6).2 (.inr (.inl ⟨j, hja, hj⟩)), e⟩
  ·have h : (w.names ++ [x.dest])[i]? = some n := hi
   rw [List.getElem?_append_right (by omega)] at h
   have h0 : i - w.names.length = 0 := by
    have := (List.getElem?_eq_some_iff.1 h).1
    simp at this; omega
   rw [h0] at h
   simp at h
   exact ⟨mi m x, (A.DC h6).2 (.inr (.inr rfl)), h⟩
 ·rcases (A.DC h6).1 hy with rfl | ⟨j, hj, e⟩ | rfl
  ·refine ⟨k, _, hext k _ k1, List.getElem?_set_self (by simp; omega), il (p := p') (hpo.fit (p := p') (by show 0 ≤ p.regs + 1; have := hF.rn; omega) hout)⟩
  ·obtain ⟨k', p2, r1, r2, r3⟩ := I.fwd y (List.mem_of_getElem? e)
   refine ⟨k', p2, hext k' _ r1, ?_, r3.names fun f _ j _ h1 => hext j _ h1⟩
   have hk' := (List.getElem?_eq_some_iff.1 r2).1
   rw [List.getElem?_set_ne, List.getElem?_append_left hk', r2]
   intro hkk
   subst hkk
   rw [k1] at r1
   exact hj (iU A.fL e A.eq (by injection r1 with r1; exact r1.symm))
  ·refine ⟨w.all.length, wp, hlast, ?_, ?_⟩
   ·rw [List.getElem?_set_ne (by omega)]; simp
   ·refine il ⟨(show (0 : Int) ≤ 1 by decide), ?_, fun z hz => ?_, by simp, fun z hz => ?_⟩
    ·show [(aL p.outs x.field).f] = [m.aQ x.field]
     rw [q2]
    ·simp at hz; subst hz; exact ⟨Int.le_refl _, by show (0 : Int) < 1; decide⟩
    ·simp at hz; subst hz
     have := hF.part _ q1
     refine ⟨fun e => ?_, this.2⟩
     obtain ⟨j, h1, h2⟩ := this.1 e
     exact ⟨j, h1, hext j _ h2⟩
end
/- Plain laws: the parts are the messages behind a step that unwraps, too; behind all steps. No condition. -/
theorem rP : ∀ (l : List Nat) (i : Nat) (h : i < l.length), l[i] ≤ l.sum
 | a :: l, 0, _ => by simp
 | a :: l, i + 1, h => by
  have := rP l i (by simpa using h)
  simp; omega
theorem rM : ∀ (l : List Nat) (i j : Nat) (hi : i < l.length) (hj : j < l.length), i < j → l[i] + l[j] ≤ l.sum
 | a :: l, 0, j + 1, _, hj, _ => by
  have := rP l j (by simpa using hj)
  simp; omega
 | a :: l, i + 1, j + 1, hi, hj, h => by
  have := rM l i j (by simpa using hi) (by simpa using hj) (by omega)
  simp; omega
theorem yj {l : List ag} {p : ag → Bool} {f g : ag} (hf : f ∈ l) (hg : g ∈ l) (pf : p f = true) (pg : p g = true) (hne : f ≠ g) : 2 ≤ l.countP p := by
 rw [List.countP_eq_length_filter]
 have h1 : f ∈ l.filter p := List.mem_filter.2 ⟨hf, pf⟩
 have h2 : g ∈ l.filter p := List.mem_filter.2 ⟨hg, pg⟩
 cases e : l.filter p with
 | nil => rw [e] at h1; cases h1
 | cons a r =>
  cases r with
  | nil =>
   rw [e] at h1 h2
   simp at h1 h2
   exact absurd (h1.trans h2.symm) hne
  | cons b r => simp
theorem nh {s : aM} {ref : aw} (h : s.kY ref = 1) {i : Nat} {m : aU} (hi : s.msgs[i]? = some m) {f : ag} (hf : f ∈ m.fields) (ht : f.ty = 15) (hr : f.ref = ref) {j : Nat} {y : aU} (hj : s.msgs[j]? = some y) {g : ag} (hg : g ∈ y.fields) (gt : g.ty = 15) (gr : g.ref = ref) : j = i ∧ g = f := by
 let p : ag → Bool := fun f => decide (f.ty = 15) && f.ref == ref
 have pf : p f = true := by simp [p, ht, hr]
 have pg : p g = true := by simp [p, gt, gr]
 have hpos : ∀ (m : aU) (f : ag), f ∈ m.fields → p f = true → 1 ≤ m.fields.countP p := fun m f hf hp => List.countP_pos_iff.2 ⟨f, hf, hp⟩
 have hs : (s.msgs.map fun m => m.fields.countP p).sum = 1 := h
 obtain ⟨hi1, rfl⟩ := List.getElem?_eq_some_iff.1 hi
 obtain ⟨hj1, rfl⟩ := List.getElem?_eq_some_iff.1 hj
 have c1 := hpos _ f hf pf
 have c2 := hpos _ g hg pg
 have hij : j = i := by
  apply Classical.byContradiction
  intro hne
  rcases Nat.lt_or_gt_of_ne hne with q | q
  ·have := rM (s.msgs.map fun m => m.fields.countP p) j i (by simpa using hj1) (by simpa using hi1) q
   simp only [List.getElem_map] at this
   omega
  ·have := rM (s.msgs.map fun m => m.fields.countP p) i j (by simpa using hi1) (by simpa using hj1) q
   simp only [List.getElem_map] at this
   omega
 refine ⟨hij, ?_⟩
 subst hij
 apply Classical.byContradiction
 intro hne
 have h2 := yj (p := p) hg hf pg pf hne
 have := rP (s.msgs.map fun m => m.fields.countP p) j (by simpa using hj1)
 simp only [List.getElem_map] at this
 omega
section
variable {s t : aM} {x : aP} {m : aU} {at_ : Nat}
theorem kt (h7 : x.kind = 7) {r : aU} {ref : aw} {y : aU} (hl : at_ < s.msgs.length) : y ∈ x.msgs s at_ r ref ↔ y = r ∨ ∃ j, j ≠ at_ ∧ s.msgs[j]? = some y ∧ y.name ≠ ref := by
 unfold aP.msgs
 simp only [h7, show ¬ (7 : Int) = 6 by decide, if_false, List.append_nil, true_and]
 rw [List.mem_filterMap]
 constructor
 ·rintro ⟨⟨a, i⟩, h1, h2⟩
  have h1 := List.mem_zipIdx_iff_getElem?.1 h1
  simp only at h1 h2
  split at h2
  ·cases h2; exact .inl rfl
  ·rename_i hne
   split at h2
   ·cases h2
   ·rename_i hn
    cases h2
    exact .inr ⟨i, hne, h1, hn⟩
 ·rintro (rfl | ⟨j, h1, h2, h3⟩)
  ·exact ⟨(s.msgs[at_], at_), List.mem_zipIdx_iff_getElem?.2 (List.getElem?_eq_getElem hl), by simp⟩
  ·exact ⟨(y, j), List.mem_zipIdx_iff_getElem?.2 h2, by simp [h1, h3]⟩
theorem tu (h7 : x.kind = 7) {r : aU} {ref : aw} {a : aU} {l : List aU} (e : s.msgs = a :: l) (hn : a.name ≠ ref) : (x.msgs s at_ r ref).head? = some (if at_ = 0 then r else a) := by
 unfold aP.msgs
 simp only [h7, show ¬ (7 : Int) = 6 by decide, if_false, List.append_nil, true_and, e, List.zipIdx_cons, List.filterMap_cons]
 by_cases h0 : at_ = 0
 ·subst h0; simp
 ·have : ¬ 0 = at_ := fun q => h0 q.symm
  simp [this, hn, h0]
structure Hr (s : aM) (m : aU) (f : ag) (m2 : aU) (g : ag) (j2 : Nat) : Prop where
 ty : f.ty = 15
 at2 : s.msgs[j2]? = some m2
 pos : 1 ≤ j2
 nm : m2.name = f.ref
 ne : f.ref ≠ m.name
 use : s.kY f.ref = 1
 one : m2.fields = [g]
 find : s.iV f.ref = some m2
theorem cB.boxed (A : cB s x t m at_) (h7 : x.kind = 7) : ∃ m2 g j2, Hr s m (m.aQ x.field) m2 g j2 := by
 have ha := A.ask
 simp only [aP.asked, h7, show ¬ (7 : Int) = 3 by decide, show ¬ (7 : Int) = 4 by decide, show ¬ (7 : Int) = 5 by decide, show ¬ (7 : Int) = 6 by decide, show ¬ (7 : Int) = 10 by decide, if_false, if_true] at ha
 simp only [aM.boxed, Bool.and_eq_true, decide_eq_true_eq, Bool.not_eq_true', beq_eq_false_iff_ne] at ha
 obtain ⟨⟨⟨⟨⟨h1, h2⟩, h3⟩, h4⟩, h5⟩, h6⟩ := ha
 rcases bB (fun m' : aU => m'.name == (m.aQ x.field).ref) s.msgs 0 with ⟨q1, q2⟩ | ⟨i, hi, q1, q2, q3⟩
 ·have : s.bD (m.aQ x.field).ref = -1 := q1
  rw [this] at h3; omega
 ·have hix : s.bD (m.aQ x.field).ref = ((0 + i : Nat) : Int) := q1
  rw [hix] at h3
  have hat : s.iV (m.aQ x.field).ref = some s.msgs[i] := q2
  rw [hat] at h6
  simp only [Option.map_some] at h6
  cases e : s.msgs[i].fields with
  | nil => rw [e] at h6; cases h6
  | cons g r =>
   cases r with
   | nil => exact ⟨s.msgs[i], g, i, h1, List.getElem?_eq_getElem hi, by omega, by simpa using q3, h4, h5, e, hat⟩
   | cons b r => rw [e] at h6; cases h6
theorem Inv.EM {w : fB} (I : Inv s w) (A : cB s x t m at_) (h7 : x.kind = 7) : Inv t (w.step x) := by
 have hm : m ∈ s.msgs := List.mem_of_getElem? A.eq
 obtain ⟨k, p, k1, k2, hF⟩ := I.fwd m hm
 have hne : m.name ≠ [] := gx (A.fL.nm m hm)
 have hk : k < w.all.length := (List.getElem?_eq_some_iff.1 k2).1
 have hix : cP w.names x.msg = k := ia (by rw [← A.nm]; exact k1) fun j hj => I.uniq j k _ hj (by rw [← A.nm]; exact k1) (by rw [← A.nm]; exact hne)
 have hgd : w.all.getD k bY = p := by rw [List.getD_eq_getElem?_getD, k2]; rfl
 have hhas : m.eD x.field = true := by have := A.has; simpa [aP.bg, h7] using this
 have hh := en hhas
 obtain ⟨q1, q2, q3⟩ := fJ hF.outs ⟨_, hh.1, hh.2⟩
 have q2 : (aL p.outs x.field).f = m.aQ x.field := q2
 obtain ⟨m2, g, j2, B⟩ := A.boxed h7
 have hfr := A.fL.fr m hm
 have hm2 : m2 ∈ s.msgs := List.mem_of_getElem? B.at2
 have hn2 : m2.name ≠ [] := gx (A.fL.nm m2 hm2)
 obtain ⟨k', p2, r1, r2, F2⟩ := I.fwd m2 hm2
 obtain ⟨j, hj1, hj2⟩ := (hF.part _ q1).1 (by rw [q2]; exact B.ty)
 rw [q2] at hj2
 have hjk : k' = j := I.uniq k' j _ r1 (by rw [B.nm]; exact hj2) hn2
 subst hjk
 have hpart : (aL p.outs x.field).part.toNat = k' := by rw [hj1]; simp
 have hg2 : w.all.getD k' bY = p2 := by rw [List.getD_eq_getElem?_getD, r2]; rfl
 obtain ⟨G, hG, hGf⟩ : ∃ G, p2.outs = [G] ∧ G.f = g := by
  have := F2.outs
  rw [B.one] at this
  cases e : p2.outs with
  | nil => rw [e] at this; cases this
  | cons a r =>
   rw [e] at this
   simp at this
   exact ⟨a, by rw [this.2], this.1⟩
 let g' : Port := { G with reg := p.regs }
 let p' : aR := { p with ops := p.ops ++ [{ gE with kind := 5, a := (aL p.outs x.field).reg, b := p.regs, part := (aL p.outs x.field).part }], regs := p.regs + 1, outs := bN (aT p.outs x.field) g' }
 have hst : w.step x = ⟨w.all.set k (bV p'), w.names.set k' []⟩ := by
  unfold fB.step
  simp only [hix, h7, if_true, if_false, au, hgd, hpart, hg2, hG, show ¬ (7 : Int) = 6 by decide]
  congr 1
  rw [List.getD_eq_getElem?_getD, List.getElem?_set_self hk]
  simp only [Option.getD_some, List.set_set]
  rfl
 have hout := A.out
 have hmem : ∀ y, y ∈ t.msgs ↔ y = (jn s m x).sort ∨ ∃ j, j ≠ at_ ∧ s.msgs[j]? = some y ∧ y.name ≠ (m.aQ x.field).ref := by
  intro y
  have hp : t.msgs.Perm ((x.msgs s at_ (jn s m x) (m.aQ x.field).ref).map aU.sort) := by rw [hout]; exact jd _
  rw [hp.mem_iff, List.mem_map]
  constructor
  ·rintro ⟨z, hz, rfl⟩
   rcases (kt h7 A.lt).1 hz with rfl | ⟨i, a1, a2, a3⟩
   ·exact .inl rfl
   ·have hz2 := List.mem_of_getElem? a2
    refine .inr ⟨i, a1, ?_, a3⟩
    rw [aU.jD (A.fL.fr z hz2) (A.fL.br z hz2)]; exact a2
  ·rintro (rfl | ⟨i, a1, a2, a3⟩)
   ·exact ⟨_, (kt h7 A.lt).2 (.inl rfl), rfl⟩
   ·have hz2 := List.mem_of_getElem? a2
    exact ⟨y, (kt h7 A.lt).2 (.inr ⟨i, a1, a2, a3⟩), aU.jD (A.fL.fr y hz2) (A.fL.br y hz2)⟩
 have hnew : (jn s m x).sort ∈ t.msgs := (hmem _).2 (.inl rfl)
 have hrise : dA (·.num) (bF Fb (x.dr s m)) := A.okT.fr _ hnew
 have hset : ∀ (i : Nat) n, w.names[i]? = some n → i ≠ k' → (w.names.set k' [])[i]? = some n := fun i n h hi => by rw [List.getElem?_set_ne (fun q => hi q.symm)]; exact h
 have hun : ∀ (i : Nat) n, (w.names.set k' [])[i]? = some n → n ≠ [] → i ≠ k' ∧ w.names[i]? = some n := fun i n h hn => by
  rw [List.getElem?_set] at h
  split at h
  ·split at h
   ·cases h; exact absurd rfl hn
   ·cases h
  ·rename_i e; exact ⟨fun q => e q.symm, h⟩
 have hkk : k ≠ k' := fun e => by
  rw [e, hj2] at k1
  injection k1 with k1
  exact B.ne k1
 have ef : x.dr s m = (m.fields.filter fun f => !(f.name == x.field)) ++ [g] := by
  simp only [aP.dr, aP.goes, aP.comes, h7]
  simp only [show ¬ (7 : Int) = 2 by decide, show ¬ (7 : Int) = 4 by decide, show ¬ (7 : Int) = 5 by decide, show ¬ (7 : Int) = 6 by decide, if_false, if_true, true_or, or_true, eV, B.find, Option.getD_some, B.one, List.headD_cons]
  rw [cY (by omega) (by omega) (by omega)]
 have hp : (x.dr s m).Perm (g :: m.fields.filter fun f => !(f.name == x.field)) := by rw [ef]; exact List.perm_append_comm
 have hpo : bl (w.names.set k' []) (p.regs + 1) (bN (aT p.outs x.field) g') := by
  have hw := (hF.ew.eW x.field).names (names' := w.names.set k' []) fun y hy i e h1 => hset i _ h1 fun hi => by
   subst hi
   rw [hj2] at h1
   injection h1 with h1
   obtain ⟨hy1, hy2⟩ := List.mem_filter.1 hy
   have := (nh B.use A.eq hh.1 B.ty rfl A.eq (g := y.f) (by rw [← hF.outs]; exact List.mem_map_of_mem hy1) e h1.symm).2
   rw [this, hh.2] at hy2
   simp at hy2
  refine (hw.mono (by omega)).with ⟨hF.rn, by show p.regs < p.regs + 1; omega⟩ ((hF.ew.eW x.field).new (Int.le_refl _)) ?_
  have hGp := F2.part G (by rw [hG]; simp)
  refine ⟨fun e => ?_, hGp.2⟩
  obtain ⟨i, a1, a2⟩ := hGp.1 e
  refine ⟨i, a1, hset i _ a2 fun hi => ?_⟩
  subst hi
  rw [hj2] at a2
  injection a2 with a2
  have := (nh B.use A.eq hh.1 B.ty rfl B.at2 (g := G.f) (by rw [B.one, hGf]; simp) e a2.symm).1
  have h3 := B.at2
  rw [this, A.eq] at h3
  cases h3
  exact B.ne B.nm.symm
 have houts : (bN (aT p.outs x.field) g').map (·.f) = bF Fb (x.dr s m) := by
  rw [dn, cO, hF.outs]
  have : g'.f = g := hGf
  rw [this]
  exact (fg (hfr.filter _) hp hrise).symm
 rw [hst]
 refine ⟨by simp [I.len], A.okT, ?_, fun i i2 n hi hj hn => ?_, fun i n hi hn => ?_, fun y hy => ?_⟩
 ·show (w.names.set k' []).head? = _
  cases e : s.msgs with
  | nil => have := A.lt; rw [e] at this; simp at this
  | cons a l =>
   have hr := I.root
   rw [e] at hr
   simp only [List.head?_cons, Option.map_some] at hr
   have ha0 : s.msgs[0]? = some a := by rw [e]; rfl
   have hna : a.name ≠ (m.aQ x.field).ref := fun q => by
    have := iU A.fL ha0 B.at2 (q.trans B.nm.symm)
    have := B.pos
    omega
   have hk0 : k' ≠ 0 := fun q => by
    rw [q, ← List.head?_eq_getElem?, hr] at hj2
    injection hj2 with hj2
    exact hna hj2
   have h1 : (w.names.set k' []).head? = some a.name := by
    rw [← hr]
    cases w.names with
    | nil => rfl
    | cons b r =>
     obtain ⟨i, rfl⟩ : ∃ i, k' = i + 1 := ⟨k' - 1, by omega⟩
     rfl
   rw [h1, hout, je (tu h7 e hna)]
   simp only [Option.map_some, Option.some.injEq]
   split
   ·rename_i h0
    have := A.eq
    rw [h0, e] at this
    simp at this
    rw [this]; rfl
   ·rfl
 ·exact I.uniq i i2 n (hun i n hi hn).2 (hun i2 n hj hn).2 hn
 ·obtain ⟨a1, a2⟩ := hun i n hi hn
  obtain ⟨y, hy, e⟩ := I.back i n a2 hn
  obtain ⟨i2, hi2⟩ := List.mem_iff_getElem?.1 hy
  by_cases hja : i2 = at_
  ·subst hja
   rw [A.eq] at hi2; cases hi2
   exact ⟨_, hnew, e⟩
  ·refine ⟨y, (hmem y).2 (.inr ⟨i2, hja, hi2, fun q => ?_⟩), e⟩
   rw [← e, q] at a2
   exact a1 (I.uniq i k' _ a2 hj2 (by rw [← q, e]; exact hn))
 ·rcases (hmem y).1 hy with rfl | ⟨i2, b1, b2, b3⟩
  ·exact ⟨k, _, hset k _ k1 hkk, List.getElem?_set_self hk, il (p := p') (hpo.fit (p := p') (by show 0 ≤ p.regs + 1; have := hF.rn; omega) houts)⟩
  ·obtain ⟨k3, p3, c1, c2, c3⟩ := I.fwd y (List.mem_of_getElem? b2)
   refine ⟨k3, p3, hset k3 _ c1 fun q => ?_, ?_, c3.names fun f hf i e h1 => hset i _ h1 fun q => ?_⟩
   ·rw [q, hj2] at c1
    injection c1 with c1
    exact b3 c1.symm
   ·rw [List.getElem?_set_ne, c2]
    intro q
    subst q
    rw [k1] at c1
    injection c1 with c1
    exact b1 (iU A.fL b2 A.eq c1.symm)
   ·rw [q, hj2] at h1
    injection h1 with h1
    exact b1 (nh B.use A.eq hh.1 B.ty rfl b2 hf e h1.symm).1
end
/- Plain laws: behind all steps of a migration the parts are the messages of its last schema; ahead of them, of its first one. No condition. -/
theorem ue {x : aP} (h : x.right = true) : 1 ≤ x.kind ∧ x.kind ≤ 10 := by
 simp only [aP.right, Bool.and_eq_true, decide_eq_true_eq] at h
 obtain ⟨⟨⟨⟨⟨⟨⟨⟨⟨⟨q1, q2⟩, _⟩, _⟩, _⟩, _⟩, _⟩, _⟩, _⟩, _⟩, _⟩ := h
 exact ⟨q1, q2⟩
theorem Inv.step {s t : aM} {x : aP} {w : fB} (I : Inv s w) (h : s.apply x = .ok t) : Inv t (w.step x) := by
 obtain ⟨m, at_, A⟩ := gg h
 by_cases h6 : x.kind = 6
 ·exact I.wrap A h6
 ·by_cases h7 : x.kind = 7
  ·exact I.EM A h7
  ·exact I.plain A h6 h7
def gG (s : aM) : fB := ⟨bb s, s.msgs.map (·.name)⟩
theorem qb (s : aM) : ∀ (l : List ag) (n : Nat), ((l.zipIdx n).map fun (f, k) => jK s f k).map (·.f) = l
 | [], n => rfl
 | f :: l, n => by
  simp only [List.zipIdx_cons, List.map_cons]
  congr 1
  exact qb s l (n + 1)
theorem oO (s : aM) : ∀ (l : List ag) (n : Nat), ((l.zipIdx n).map fun (f, k) => jK s f k).map (·.reg) = (List.range' n l.length).map fun (k : Nat) => (k : Int)
 | [], n => rfl
 | f :: l, n => by
  simp only [List.zipIdx_cons, List.map_cons, List.length_cons, List.range'_succ]
  congr 1
  exact oO s l (n + 1)
theorem mJ {s : aM} {m : aU} {y : Port} (h : y ∈ bM s m) : ∃ (k : Nat), k < m.fields.length ∧ y.reg = (k : Int) ∧ y.f ∈ m.fields ∧ y.part = (if y.f.ty = 15 then s.bD y.f.ref else -1) := by
 unfold bM at h
 obtain ⟨⟨f, k⟩, h1, rfl⟩ := List.mem_map.1 h
 have h2 := List.mem_zipIdx_iff_getElem?.1 h1
 simp only at h2
 exact ⟨k, (List.getElem?_eq_some_iff.1 h2).1, rfl, List.mem_of_getElem? h2, rfl⟩
theorem Inv.begin {s : aM} (hs : s.tU) : Inv s (gG s) := by
 have hget : ∀ (i : Nat) n, (s.msgs.map (·.name))[i]? = some n → ∃ m, s.msgs[i]? = some m ∧ m.name = n := fun i n h => by
  rw [List.getElem?_map] at h
  cases e : s.msgs[i]? with
  | none => rw [e] at h; cases h
  | some m => rw [e] at h; simp at h; exact ⟨m, rfl, h⟩
 refine ⟨by simp [gG, bb], hs, by simp [gG], fun i j n hi hj hn => ?_, fun i n hi hn => ?_, fun m hm => ?_⟩
 ·obtain ⟨a, ha, ea⟩ := hget i n hi
  obtain ⟨b, hb, eb⟩ := hget j n hj
  exact iU hs ha hb (ea.trans eb.symm)
 ·obtain ⟨a, ha, ea⟩ := hget i n hi
  exact ⟨a, List.mem_of_getElem? ha, ea⟩
 ·obtain ⟨k, hk⟩ := List.mem_iff_getElem?.1 hm
  refine ⟨k, bV { bY with name := m.name, ins := bM s m, outs := bM s m, regs := m.fields.length }, by simp [gG, hk], by simp [gG, bb, hk], il ⟨by show (0 : Int) ≤ (m.fields.length : Int); omega, qb s m.fields 0, fun y hy => ?_, ?_, fun y hy => ?_⟩⟩
  ·obtain ⟨k, h1, h2, _⟩ := mJ hy
   refine ⟨by omega, ?_⟩
   show y.reg < (m.fields.length : Int)
   omega
  ·show ((bM s m).map (·.reg)).Nodup
   unfold bM
   rw [oO]
   exact List.Pairwise.map _ (fun a b hab => by omega) List.nodup_range'
  ·obtain ⟨k, h1, h2, h3, h4⟩ := mJ hy
   refine ⟨fun e => ?_, fun e => by rw [h4, if_neg e]⟩
   rw [if_pos e] at h4
   have hr := (hs.refs m hm y.f h3).2 e
   obtain ⟨i, hi, e1, e2⟩ := kU (fun m : aU => m.name == y.f.ref) s.msgs (by show ¬ s.bD y.f.ref < 0; omega)
   refine ⟨i, by rw [h4]; exact e1, ?_⟩
   show (s.msgs.map (·.name))[i]? = _
   rw [List.getElem?_map, List.getElem?_eq_getElem hi]
   simp only [Option.map_some, Option.some.injEq]
   simpa using e2
theorem rE : ∀ {l : List aP} {s : aM} {acc L : List aM} {w : fB}, Inv s w → acc.getLast? = some s → aM.dO l s acc = .ok L → L.length = acc.length + l.length ∧ ∃ t, L.getLast? = some t ∧ Inv t (l.foldl fB.step w)
 | [], s, acc, L, w, I, ha, h => by
  cases h
  exact ⟨by simp, s, ha, I⟩
 | x :: l, s, acc, L, w, I, ha, h => by
  unfold aM.dO at h
  cases e : s.apply x with
  | error k => rw [e] at h; cases h
  | ok t =>
   rw [e] at h
   obtain ⟨h1, h2⟩ := rE (acc := acc ++ [t]) (I.step e) (by simp) h
   refine ⟨by rw [h1]; simp; omega, h2⟩
theorem D8 {s : aM} {l : List aP} {L : List aM} (h : s.all l = .ok L) : L.length = l.length + 1 ∧ ∃ t, L[l.length]? = some t ∧ Inv t (l.foldl fB.step (gG s)) := by
 unfold aM.all at h
 split at h
 ·cases h
 rename_i h1
 split at h
 ·cases h
 have hs := aM.gF (by simpa using h1)
 obtain ⟨h2, t, h3, h4⟩ := rE (Inv.begin hs) (by simp) h
 simp at h2
 refine ⟨by omega, t, ?_, h4⟩
 rw [List.getLast?_eq_getElem?] at h3
 have : L.length - 1 = l.length := by omega
 rwa [this] at h3
/-! ### ahead of the steps -/
structure mB (s : aM) (w : fB) : Prop where
 ins : ∀ (k : Nat) m, s.msgs[k]? = some m → ∃ p, w.all[k]? = some p ∧ p.ins = bM s m ∧ (m.fields.length : Int) ≤ p.regs
/- Plain laws: what the steps of a migration want of the parts; how large these are. No condition. -/
structure aR.bd (n : Nat) (p : aR) : Prop where
 ops : p.ops.length ≤ n
 outs : p.outs.length ≤ 10 + 2 * n
 rn : 0 ≤ p.regs
 regs : p.regs ≤ 10 + 2 * (n : Int)
 ever : p.ever.length ≤ 100 * (n + 1)
structure aR.bs (n : Nat) (p : aR) : Prop where
 ops : p.ops.length ≤ n + 1
 outs : p.outs.length ≤ 10 + 2 * (n + 1)
 rn : 0 ≤ p.regs
 regs : p.regs ≤ 10 + 2 * ((n : Int) + 1)
 ever : p.ever.length ≤ 100 * (n + 1)
theorem aR.bd.bs {n : Nat} {p : aR} (h : p.bd n) : p.bs n := ⟨by have := h.ops; omega, by have := h.outs; omega, h.rn, by have := h.regs; omega, h.ever⟩
theorem aR.bs.bd {n : Nat} {p : aR} (h : p.bs n) (hn : n ≤ 16) : (bV p).bd (n + 1) := by
 have e : (bV p).ever = tz p p.outs.length := by unfold tz; rw [List.take_of_length_le (Nat.le_refl _)]; rfl
 refine ⟨h.ops, h.outs, h.rn, by have := h.regs; show p.regs ≤ _; omega, ?_⟩
 rw [e]
 have h1 := n9 p p.outs.length
 have h2 := h.ever
 have h3 := h.outs
 omega
theorem aR.bs.up {n : Nat} {p : aR} (h : p.bs n) (hn : n ≤ 16) : p.bd (n + 1) := ⟨h.ops, h.outs, h.rn, by have := h.regs; omega, by have := h.ever; omega⟩
theorem FX {n : Nat} {p : aR} {x : aP} (h : p.bd n) (hk : 1 ≤ x.kind ∧ x.kind ≤ 10) (h6 : x.kind ≠ 6) (h7 : x.kind ≠ 7) : (aO p x).bs n := by
 have h1 := h.ops
 have h2 := h.outs
 have h3 := h.rn
 have h4 := h.regs
 have h5 := h.ever
 have w1 := bH p.outs x.field
 have w2 := bH (aT p.outs x.field) x.also
 rcases show x.kind = 1 ∨ x.kind = 2 ∨ x.kind = 3 ∨ x.kind = 4 ∨ x.kind = 5 ∨ x.kind = 8 ∨ x.kind = 9 ∨ x.kind = 10 by omega with e | e | e | e | e | e | e | e
 ·rw [o8 e]; exact ⟨by show p.ops.length ≤ _; omega, by show (bN _ _).length ≤ _; rw [dQ]; omega, h3, by show p.regs ≤ _; omega, h5⟩
 ·rw [o7 e]; exact ⟨by show p.ops.length ≤ _; omega, by show (bN _ _).length ≤ _; rw [dQ]; omega, h3, by show p.regs ≤ _; omega, h5⟩
 ·rw [o6 e]; exact ⟨by show (p.ops ++ [_]).length ≤ _; simp; omega, by show (bN _ _).length ≤ _; rw [dQ]; omega, h3, by show p.regs ≤ _; omega, h5⟩
 ·rw [o5 e]; exact ⟨by show (p.ops ++ [_]).length ≤ _; simp; omega, by show (bN (bN _ _) _).length ≤ _; rw [dQ, dQ]; omega, by show 0 ≤ p.regs + 2; omega, by show p.regs + 2 ≤ _; omega, h5⟩
 ·rw [o4 e]; exact ⟨by show (p.ops ++ [_]).length ≤ _; simp; omega, by show (bN _ _).length ≤ _; rw [dQ]; omega, by show 0 ≤ p.regs + 1; omega, by show p.regs + 1 ≤ _; omega, h5⟩
 ·rw [AB e]; exact ⟨by show (p.ops ++ [_]).length ≤ _; simp; omega, by show (c7 p x _).length ≤ _; rw [fK]; omega, h3, by show p.regs ≤ _; omega, h5⟩
 ·rw [AA e]; exact ⟨by show (p.ops ++ [_]).length ≤ _; simp; omega, by show (bN _ _).length ≤ _; rw [dQ]; omega, by show 0 ≤ p.regs + 1; omega, by show p.regs + 1 ≤ _; omega, h5⟩
 ·rw [uz e]; exact ⟨by show p.ops.length ≤ _; omega, by show (aT _ _).length ≤ _; omega, h3, by show p.regs ≤ _; omega, h5⟩
theorem iX {α : Type} {l : List α} {i : Nat} {a y : α} (h : y ∈ l.set i a) : y = a ∨ y ∈ l := by
 rcases List.mem_or_eq_of_mem_set h with h | h
 ·exact .inr h
 ·exact .inl h
theorem sR {n : Nat} {all : List aR} {i : Nat} {p : aR} {x : aP} (hb : ∀ q ∈ all, q.bd n) (hp : all[i]? = some p) (hk : 1 ≤ x.kind ∧ x.kind ≤ 10) : (∀ q ∈ au all i x, q.bs n) ∧ (au all i x).length ≤ all.length + 1 ∧ all.length ≤ (au all i x).length := by
 have h := hb p (List.mem_of_getElem? hp)
 have h1 := h.ops
 have h2 := h.outs
 have h3 := h.rn
 have h4 := h.regs
 have h5 := h.ever
 have w1 := bH p.outs x.field
 by_cases e6 : x.kind = 6
 ·rw [BZ hp e6]
  refine ⟨fun q hq => ?_, by simp, by simp⟩
  rcases iX hq with rfl | hq
  ·exact ⟨by show (p.ops ++ [_]).length ≤ _; simp; omega, by show (bN _ _).length ≤ _; rw [dQ]; omega, by show 0 ≤ p.regs + 1; omega, by show p.regs + 1 ≤ _; omega, h5⟩
  ·rcases List.mem_append.1 hq with hq | hq
   ·exact (hb q hq).bs
   ·have hq := List.mem_singleton.1 hq
    subst hq
    refine ⟨by show 0 ≤ _; omega, by show 1 ≤ _; omega, by show (0 : Int) ≤ 1; decide, by show (1 : Int) ≤ _; omega, ?_⟩
    have := n9 { bY with name := x.dest, born := true, regs := 1, ins := [{ (aL p.outs x.field) with reg := 0 }], outs := [{ (aL p.outs x.field) with reg := 0 }] } 1
    have h9 : (tz { bY with name := x.dest, born := true, regs := 1, ins := [{ (aL p.outs x.field) with reg := 0 }], outs := [{ (aL p.outs x.field) with reg := 0 }] } 1).length ≤ 0 + 1 := this
    show (tz { bY with name := x.dest, born := true, regs := 1, ins := [{ (aL p.outs x.field) with reg := 0 }], outs := [{ (aL p.outs x.field) with reg := 0 }] } 1).length ≤ _
    omega
 ·by_cases e7 : x.kind = 7
  ·rw [BY hp e7]
   refine ⟨fun q hq => ?_, by simp, by simp⟩
   rcases iX hq with rfl | hq
   ·exact ⟨by show (p.ops ++ [_]).length ≤ _; simp; omega, by show (bN _ _).length ≤ _; rw [dQ]; omega, by show 0 ≤ p.regs + 1; omega, by show p.regs + 1 ≤ _; omega, h5⟩
   ·exact (hb q hq).bs
  ·rw [BX hp e6 e7]
   refine ⟨fun q hq => ?_, by simp, by simp⟩
   rcases iX hq with rfl | hq
   ·exact FX h hk e6 e7
   ·exact (hb q hq).bs
theorem mK {l : List Port} {n : aw} (h : ∃ y ∈ l, y.f.name = n) : 0 ≤ bZ l n := by
 obtain ⟨y, hy, hn⟩ := h
 rcases bB (fun x : Port => x.f.name == n) l 0 with ⟨q1, q2⟩ | ⟨i, hi, q1, q2, q3⟩
 ·have := List.find?_eq_none.1 q2 y hy
  simp [hn] at this
 ·have e : bZ l n = ((0 + i : Nat) : Int) := q1
  omega
structure nB (w : fB) (x : aP) (k : Nat) (p : aR) : Prop where
 nm : w.names[k]? = some x.msg
 un : ∀ j, w.names[j]? = some x.msg → j = k
 ix : cP w.names x.msg = k
 pt : w.all[k]? = some p
 kd : 1 ≤ x.kind ∧ x.kind ≤ 10
 h5 : x.kind = 5 → 0 ≤ bZ (aT p.outs x.field) x.also
 h7 : x.kind = 7 → 0 ≤ bZ p.outs x.field ∧ 0 ≤ (aL p.outs x.field).part ∧ (aL p.outs x.field).part < (w.all.length : Int) ∧ (w.all.getD (aL p.outs x.field).part.toNat bY).outs ≠ []
 h8 : x.kind = 8 → (p.outs.map fun y => y.f.name).Nodup ∧ ∀ n ∈ x.names, 0 ≤ bZ p.outs n
theorem s9 {s t : aM} {w : fB} {x : aP} {m : aU} {at_ : Nat} (I : Inv s w) (A : cB s x t m at_) : ∃ k p, nB w x k p := by
 have hm : m ∈ s.msgs := List.mem_of_getElem? A.eq
 obtain ⟨k, p, k1, k2, k3⟩ := I.fwd m hm
 have hne : m.name ≠ [] := gx (A.fL.nm m hm)
 have hu : ∀ j, w.names[j]? = some x.msg → j = k := fun j hj => I.uniq j k _ hj (by rw [← A.nm]; exact k1) (by rw [← A.nm]; exact hne)
 have k1' : w.names[k]? = some x.msg := by rw [← A.nm]; exact k1
 have hex : ∀ n, m.eD n = true → ∃ y ∈ p.outs, y.f.name = n := fun n hn => by
  obtain ⟨q1, q2⟩ := en hn
  obtain ⟨r1, _, r3⟩ := fJ k3.outs ⟨_, q1, q2⟩
  exact ⟨_, r1, r3⟩
 refine ⟨k, p, k1', hu, ia k1' hu, k2, ue A.rt, fun h => ?_, fun h => ?_, fun h => ⟨?_, fun n hn => ?_⟩⟩
 ·have hneed := A.has
  have hask := A.ask
  unfold aP.bg at hneed
  rw [h] at hneed
  unfold aP.asked at hask
  rw [h] at hask
  have h1 : m.eD x.also = true := by simp at hneed; exact hneed.2
  have h2 : x.field ≠ x.also := by simp at hask; exact hask.1.1.1.1
  obtain ⟨y, hy, hn⟩ := hex _ h1
  exact mK ⟨y, List.mem_filter.2 ⟨hy, by simp [hn]; exact fun e => h2 e.symm⟩, hn⟩
 ·have hneed := A.has
  unfold aP.bg at hneed
  rw [h] at hneed
  have h1 : m.eD x.field = true := by simp at hneed; exact hneed
  obtain ⟨q1, q2⟩ := en h1
  obtain ⟨r1, r2, r3⟩ := fJ k3.outs ⟨_, q1, q2⟩
  obtain ⟨m2, g, j2, B⟩ := A.boxed h
  have hty : (aL p.outs x.field).f.ty = 15 := by rw [r2]; exact B.ty
  obtain ⟨j, e1, e2⟩ := (k3.part _ r1).1 hty
  have hm2 : m2 ∈ s.msgs := List.mem_of_getElem? B.at2
  obtain ⟨k', p', l1, l2, l3⟩ := I.fwd m2 hm2
  have href : (aL p.outs x.field).f.ref = m2.name := by rw [r2]; exact B.nm.symm
  have hjk : j = k' := I.uniq j k' m2.name (by rw [← href]; exact e2) l1 (gx (A.fL.nm m2 hm2))
  subst hjk
  have hjl : j < w.all.length := (List.getElem?_eq_some_iff.1 l2).1
  refine ⟨mK ⟨_, r1, r3⟩, by omega, by omega, ?_⟩
  rw [e1, Int.toNat_natCast, List.getD_eq_getElem?_getD, l2]
  intro h0
  have h0' : p'.outs = [] := h0
  have := l3.outs
  rw [h0', B.one] at this
  cases this
 ·have : (p.outs.map fun y => y.f.name) = m.fields.map (·.name) := by rw [← k3.outs, List.map_map]; rfl
  rw [this]; exact A.fL.fn m hm
 ·have hneed := A.has
  unfold aP.bg at hneed
  rw [if_pos h] at hneed
  exact mK (hex n (List.all_eq_true.1 hneed n hn))
/- The program logic: parts that lie in objects become a value. No condition. -/
theorem Kept.bind {s : St} {Q R : St → Prop} (h : Kept s Q) (k : ∀ s', Q s' → Kept s' R) : Kept s R := fun E N a w hf => let ⟨s', h1, h2⟩ := h E N a w hf; k s' h2 E N a w h1
theorem Kept.HI {s : St} {Q : St → Prop} (A j : Nat) {H : Hp} {cs : List Hc} (hH : get s .h = some (.hp H)) (hA : H.obj A = some cs) (hj : cs[j]? = some (.v .nsl)) (h : Kept ((.h, .hp (H.set A (cs.set j (.v (.sl []))))) :: s) Q) : Kept s Q := fun E N a w ⟨G, L, hr⟩ => by
 obtain ⟨H0, gH, hok, hmay⟩ := hr.heap
 rw [hH] at gH; cases gH
 obtain ⟨blkA, arr, el, a1, a2, a3, a4, a5⟩ := hok.obj A cs hA
 have hv : V G (arr.getD j undef) .nsl := (a4 j _ hj).2
 have hlt : j < cs.length := (List.getElem?_eq_some_iff.1 hj).1
 refine h E N a w ⟨G, L, hr.lK (w' := w) (arr' := arr) hH hA a1 a2 rfl rfl rfl rfl (fun _ _ => rfl) a2 ⟨rfl, by simpa using a3.1⟩ (fun i x e => ?_) (fun i el esz zs e => ?_)⟩
 ·by_cases hi : i = j
  ·subst hi
   rw [List.getElem?_set_self hlt] at e; cases e
   refine ⟨rfl, ?_⟩
   generalize arr.getD i undef = u at hv
   cases hv
   exact V.slE none 0
  ·rw [List.getElem?_set_ne (by omega)] at e
   exact a4 i x e
 ·by_cases hi : i = j
  ·subst hi
   rw [List.getElem?_set_self hlt] at e; cases e
  ·rw [List.getElem?_set_ne (by omega)] at e
   exact ⟨e, rfl⟩
def oh (all : List aR) (os : List AV) (n : Nat) : List AV := (all.take n).map aR.av ++ (dw all os).drop n
theorem AP (all : List aR) (os : List AV) (n : Nat) : ∀ e ∈ oh all os n, e.cells.length = 7 := fun e he => by
 rcases List.mem_append.1 he with h | h
 ·obtain ⟨p, _, rfl⟩ := List.mem_map.1 h; rfl
 ·exact fC all os e (List.mem_of_mem_drop h)
theorem tb {all : List aR} {os : List AV} {n : Nat} {p : aR} {o : AV} (hp : all[n]? = some p) (ho : os[n]? = some o) : (oh all os n)[n]? = some (da p o) := by
 have hn := (List.getElem?_eq_some_iff.1 hp).1
 have h1 : ((all.take n).map aR.av).length = n := by simp; omega
 unfold oh
 rw [List.getElem?_append_right (by omega), h1, Nat.sub_self, List.getElem?_drop, Nat.add_zero]
 exact gM hp ho
theorem AO {all : List aR} {os : List AV} {n : Nat} {p : aR} (hl : os.length = all.length) (hp : all[n]? = some p) : (oh all os n).set n p.av = oh all os (n + 1) := by
 have hn := (List.getElem?_eq_some_iff.1 hp).1
 have h1 : ((all.take n).map aR.av).length = n := by simp; omega
 have hz : n < (dw all os).length := by rw [cq hl]; exact hn
 unfold oh
 rw [List.set_append_right _ _ (by omega), h1, Nat.sub_self, List.drop_eq_getElem_cons hz, List.set_cons_zero, List.take_add_one, hp]
 simp
structure LF (H0 K : Hp) (A : Nat) (os : List AV) (all : List aR) (n : Nat) : Prop where
 nx : H0.next ≤ K.next
 old : ∀ i, i < H0.next → K.obj i = H0.obj i
 lo : H0.next ≤ A
 len : os.length = all.length
 row : K.obj A = some (ae (oh all os n))
 ops : ∀ (i : Nat) o p, n ≤ i → os[i]? = some o → all[i]? = some p → dC K o 13 (p.ops.map al.av)
 ids : ∀ (i : Nat) id n e, os[i]? = some (.os id n e) → H0.next ≤ id ∧ id ≠ A
 dist : ∀ (i j : Nat) id n e n' e', os[i]? = some (.os id n e) → os[j]? = some (.os id n' e') → i = j
theorem LH.lf {H0 K : Hp} {A : Nat} {os : List AV} {all : List aR} (I : LH H0 K A os all) : LF H0 K A os all 0 := ⟨I.nx, I.old, I.lo, I.len, I.row, fun i o p _ h1 h2 => I.ops i o p h1 h2, I.ids, I.dist⟩
theorem Ia {s : St} {H0 K : Hp} {A : Nat} {os : List AV} {all : List aR} {n : Nat} (hH : get s .h = some (.hp K)) (I : LF H0 K A os all n) (hn : n < all.length) :
  Kept s fun s' => (∀ c, c ≠ .h → get s' c = get s c) ∧ ∃ K', get s' .h = some (.hp K') ∧ LF H0 K' A os all (n + 1) := by
 have hl := I.len
 obtain ⟨p, hp⟩ : ∃ p, all[n]? = some p := ⟨_, List.getElem?_eq_getElem hn⟩
 obtain ⟨o, ho⟩ : ∃ o, os[n]? = some o := ⟨_, List.getElem?_eq_getElem (by omega)⟩
 have hc : (ae (oh all os n))[n * 7 + 2]? = some (.v o) := by
  rw [gR (AP all os n) (tb hp ho) (by decide)]; rfl
 have hset : (ae (oh all os n)).set (n * 7 + 2) (.v (.sl (p.ops.map al.av))) = ae (oh all os (n + 1)) := by
  rw [lR (AP all os n) (tb hp ho) (by decide)]
  exact congrArg ae (AO hl hp)
 rcases I.ops n o p (Nat.le_refl _) ho hp with ⟨e1, e2⟩ | ⟨id, e1, e2⟩
 ·subst e1
  rw [e2] at hset
  refine Kept.HI A (n * 7 + 2) hH I.row hc (Kept.now ⟨fun c hc => by simp [get, Ne.symm hc], _, rfl, ?_⟩)
  refine ⟨I.nx, fun i hi => ?_, I.lo, hl, by rw [hset]; exact Hp.dG, fun i o2 p2 h1 h2 h3 => ?_, I.ids, I.dist⟩
  ·show (if i = A then _ else K.obj i) = _
   rw [if_neg (by have := I.lo; omega)]; exact I.old i hi
  ·refine gZ (I.ops i o2 p2 (by omega) h2 h3) fun id n e h => ?_
   show (if id = A then _ else K.obj id) = _
   rw [if_neg (by rw [h] at h2; exact (I.ids i id n e h2).2)]
 ·subst e1
  have hne : A ≠ id := fun e => (I.ids n id _ _ ho).2 e.symm
  refine Kept.HY A (n * 7 + 2) (ys := p.ops.map al.av) hH I.row hc e2 hne (eA _) (by rw [List.take_of_length_le]; rw [cZ (eA _)]; exact Nat.le_refl _) (Nat.le_refl _) (Kept.now ⟨fun c hc => by simp [get, Ne.symm hc], _, rfl, ?_⟩)
  rw [List.take_of_length_le (Nat.le_refl _), hset]
  refine ⟨I.nx, fun i hi => ?_, I.lo, hl, Hp.dG, fun i o2 p2 h1 h2 h3 => ?_, I.ids, I.dist⟩
  ·show (if i = A then _ else if i = id then none else K.obj i) = _
   have := (I.ids n id _ _ ho).1
   rw [if_neg (by have := I.lo; omega), if_neg (by omega)]; exact I.old i hi
  ·refine gZ (I.ops i o2 p2 (by omega) h2 h3) fun id2 n2 e h => ?_
   rw [h] at h2
   show (if id2 = A then _ else if id2 = id then none else K.obj id2) = _
   rw [if_neg (I.ids i id2 n2 e h2).2, if_neg (fun e3 => by
    subst e3
    have := I.dist i n id2 _ _ _ _ h2 ho
    omega)]
theorem H7 {H0 : Hp} {A : Nat} {os : List AV} {all : List aR} : ∀ (k n : Nat) {s : St} {K : Hp} (_ : get s .h = some (.hp K)) (_ : LF H0 K A os all n) (_ : n + k = all.length),
  Kept s fun s' => (∀ c, c ≠ .h → get s' c = get s c) ∧ ∃ K', get s' .h = some (.hp K') ∧ LF H0 K' A os all all.length
 | 0, n, s, K, hH, I, hk => by
  have : n = all.length := by omega
  subst this
  exact Kept.now ⟨fun _ _ => rfl, K, hH, I⟩
 | k + 1, n, s, K, hH, I, hk => (Ia hH I (by omega)).bind fun s' ⟨h1, K', h2, I'⟩ => (H7 k (n + 1) h2 I' (by omega)).bind fun s2 ⟨h3, K2, h4, I2⟩ => Kept.now ⟨fun c hc => (h3 c hc).trans (h1 c hc), K2, h4, I2⟩
theorem Kept.Ah {s : St} {Q : St → Prop} (b : Nat) {H0 K : Hp} {A : Nat} {os : List AV} {all : List aR} (I : LH H0 K A os all) (hH : get s .h = some (.hp K)) (hk : get s (.b b) = some (.bx [.v (.os A all.length 7)]))
  (h : ∀ s' K', (∀ c, c ≠ .h → c ≠ .b b → get s' c = get s c) → get s' (.b b) = some (.bx [.v (.sl (all.map aR.av))]) → get s' .h = some (.hp K') → H0.next ≤ K'.next → (∀ i, i < H0.next → K'.obj i = H0.obj i) → Q s') : Kept s Q := by
 refine (H7 all.length 0 hH I.lf (by omega)).bind fun s' ⟨h1, K', h2, I'⟩ => ?_
 have cE : K'.obj A = some (ae (all.map aR.av)) := by
  have := I'.row
  rw [this]
  unfold oh
  rw [List.take_of_length_le (Nat.le_refl _), List.drop_eq_nil_of_le (by rw [cq I.len]; exact Nat.le_refl _), List.append_nil]
 refine Kept.Ai b A (ys := all.map aR.av) (cs := [.v (.os A all.length 7)]) (ds := [.v (.sl (all.map aR.av))]) (esz := 7) (by rw [h1 _ (by simp)]; exact hk) h2 cE (fun e he => by obtain ⟨p, _, rfl⟩ := List.mem_map.1 he; rfl) (by
  have e : (all.map aR.av).take all.length = all.map aR.av := List.take_of_length_le (by simp)
  simp [iG, ez, e]) (Kept.now (h _ (K'.del A) (fun c hc1 hc2 => ?_) ?_ ?_ I'.nx fun i hi => ?_))
 ·simp [get, Ne.symm hc1, Ne.symm hc2]; exact h1 c hc1
 ·simp [get]
 ·simp [get]
 ·show (if i = A then none else K'.obj i) = _
  rw [if_neg (by have := I'.lo; omega)]; exact I'.old i hi
theorem LH.begin {H : Hp} {s : aM} : LH H (H.bump s.msgs.length (ae ((bb s).map j1))) (H.next + s.msgs.length) (List.replicate s.msgs.length .nsl) (bb s) := by
 have hlen : (bb s).length = s.msgs.length := by unfold bb; simp
 have hget : ∀ (i : Nat) (o : AV), (List.replicate s.msgs.length AV.nsl)[i]? = some o → o = AV.nsl := fun i o h => List.eq_of_mem_replicate (n := s.msgs.length) (List.mem_of_getElem? h)
 have hz : dw (bb s) (List.replicate s.msgs.length .nsl) = (bb s).map j1 := by
  unfold dw
  refine List.ext_getElem? fun i => ?_
  rw [List.getElem?_zipWith, List.getElem?_map]
  by_cases hi : i < s.msgs.length
  ·rw [List.getElem?_eq_getElem (show i < (bb s).length by omega), List.getElem?_replicate, if_pos hi]; rfl
  ·rw [List.getElem?_eq_none (show (bb s).length ≤ i by omega)]; rfl
 refine ⟨pZ _ _, show H.next ≤ H.next + _ + 1 by omega, fun i hi => Hp.kD hi, by omega, by simp [hlen], by rw [hz]; exact Hp.cl, fun i o p h1 h2 => ?_, fun i id n e h => ?_, fun i j id n e n' e' h1 h2 => ?_⟩
 ·have hm := List.mem_of_getElem? h2
  obtain ⟨m, _, rfl⟩ := List.mem_map.1 (show p ∈ s.msgs.map fun m => bV { bY with name := m.name, ins := bM s m, outs := bM s m, regs := m.fields.length } from hm)
  exact .inl ⟨hget i o h1, rfl⟩
 ·have := hget i _ h; cases this
 ·have := hget i _ h1; cases this
/- the document: migrations lowered -/
theorem m8 : aa Tryz.prog 17 = true := by kernel_rfl
theorem GU : aa Tryz.prog 24 = true := by kernel_rfl
theorem GS : aa Tryz.prog 26 = true := by kernel_rfl
theorem cx : lk Tryz.prog 33 = some (true, 1) := by kernel_rfl
theorem EO : Tryz.prog.underlying 78 = some (TypeDesc.slice 9) := Tryz.underlying78
theorem oM {s : aM} {l : List aP} {L : List aM} (hs : s.fT) (hb : ∀ x ∈ l, x.fT ∧ x.names.length ≤ 1000) (hl : l.length ≤ 9223372036854775807) (h : s.all l = .ok L) : Pure Tryz.prog 17 [s.av, .sl (l.map aP.av)] (.tup [.sl (L.map aM.av), .int .i64 (sS s l), .int .i64 0]) := by
 have := Dn s l hs hb hl
 rw [h] at this; exact this
theorem oN {s : aM} {l : List aP} {e : Int} (hs : s.fT) (hb : ∀ x ∈ l, x.fT ∧ x.names.length ≤ 1000) (hl : l.length ≤ 9223372036854775807) (h : s.all l = .error e) : Pure Tryz.prog 17 [s.av, .sl (l.map aP.av)] (.tup [.sl [], .int .i64 (sS s l), .int .i64 e]) := by
 have := Dn s l hs hb hl
 rw [h] at this; exact this
theorem pj : ∀ {l : List aP} {s : aM} {acc : List aM} {e : Int}, aM.dO l s acc = .error e → e ≠ 0
 | [], _, _, _, h => by cases h
 | x :: l, s, acc, e, h => by
  unfold aM.dO at h
  split at h
  ·exact pj h
  ·rename_i e2 h2
   cases h
   exact pa h2
theorem ph {s : aM} {l : List aP} {e : Int} (h : s.all l = .error e) : e ≠ 0 := by
 unfold aM.all at h
 split at h
 ·rename_i hc; cases h; exact hc
 ·split at h
  ·cases h; decide
  ·exact pj h
def bo (ps : List aR) : AV := .agg [.sl (ps.map aR.av)]
def jR (s : aM) (l : List aP) : AV := match s.all l with
 | .ok _ => .tup [bo (lower s l), .int .i64 0]
 | .error _ => .tup [.agg [.sl []], .int .i64 1]
structure LI (s : aM) (l : List aP) (L : List aM) (H : Hp) (q : Nat) (w : fB) (K : Hp) (A : Nat) (os : List AV) : Prop where
 lh : LH H K A os w.all
 eq : w = (l.take q).foldl fB.step (gG s)
 bd : ∀ p ∈ w.all, p.bd q
 len : w.all.length ≤ 6 + q
 inv : ∃ t acc, Inv t w ∧ acc.getLast? = some t ∧ aM.dO (l.drop q) t acc = .ok L
theorem uK {s : aM} (hs : s.sm) : ∀ p ∈ bb s, p.bd 0 := fun p hp => by
 obtain ⟨m, hm, rfl⟩ := List.mem_map.1 (show p ∈ s.msgs.map fun m => bV (jl s m) from hp)
 have hf := hs.f m hm
 have hpo : (bM s m).length = m.fields.length := by unfold bM; simp
 refine ⟨by show 0 ≤ 0; omega, by show (bM s m).length ≤ _; omega, by show 0 ≤ (m.fields.length : Int); omega, by show (m.fields.length : Int) ≤ _; omega, ?_⟩
 have e : (bV (jl s m)).ever = tz (jl s m) (jl s m).outs.length := by unfold tz; rw [List.take_of_length_le (Nat.le_refl _)]; rfl
 rw [e]
 have := n9 (jl s m) (jl s m).outs.length
 have h0 : (jl s m).ever.length = 0 := rfl
 have h1 : (jl s m).outs.length = (bM s m).length := rfl
 omega
theorem LI.start {s : aM} {l : List aP} {L : List aM} {H : Hp} (h : s.all l = .ok L) : LI s l L H 0 (gG s) (H.bump s.msgs.length (ae ((bb s).map j1))) (H.next + s.msgs.length) (List.replicate s.msgs.length .nsl) := by
 unfold aM.all at h
 split at h
 ·cases h
 ·rename_i hc
  have hok := aM.gF (s := s) (by simpa using hc)
  split at h
  ·cases h
  ·refine ⟨LH.begin, rfl, uK hok.sm, ?_, s, [s], Inv.begin hok, rfl, h⟩
   show (bb s).length ≤ 6
   have := hok.sm.m
   unfold bb; simp; omega
theorem mA {s : aM} {l : List aP} {L : List aM} (h : s.all l = .ok L) : s.fu = 0 ∧ l.length ≤ 16 := by
 unfold aM.all at h
 split at h
 ·cases h
 ·rename_i hc
  split at h
  ·cases h
  ·exact ⟨by simpa using hc, by omega⟩
theorem LI.go {s : aM} {l : List aP} {L : List aM} {H : Hp} {q : Nat} {w : fB} {K : Hp} {A : Nat} {os : List AV} (I : LI s l L H q w K A os) (hq : q < l.length) :
  ∃ k p o, nB w l[q] k p ∧ os[k]? = some o ∧ k < w.all.length ∧ w.names.length = w.all.length ∧ ∃ t acc, Inv t (w.step l[q]) ∧ acc.getLast? = some t ∧ aM.dO (l.drop (q + 1)) t acc = .ok L := by
 obtain ⟨t, acc, I1, h1, h2⟩ := I.inv
 rw [List.drop_eq_getElem_cons hq] at h2
 unfold aM.dO at h2
 split at h2
 ·rename_i t' h3
  obtain ⟨m, at_, A1⟩ := gg h3
  obtain ⟨k, p, W⟩ := s9 I1 A1
  have hk := (List.getElem?_eq_some_iff.1 W.pt).1
  have hl := I.lh.len
  exact ⟨k, p, os[k]'(by omega), W, List.getElem?_eq_getElem (by omega), hk, I1.len, t', acc ++ [t'], I1.step h3, by simp, h2⟩
 ·cases h2
theorem LI.next {s : aM} {l : List aP} {L : List aM} {H : Hp} {q : Nat} {w : fB} {K : Hp} {A : Nat} {os : List AV} (I : LI s l L H q w K A os) (hq : q < l.length) (hq16 : q ≤ 16) {k : Nat} {p : aR} (W : nB w l[q] k p)
  (hg : ∃ t acc, Inv t (w.step l[q]) ∧ acc.getLast? = some t ∧ aM.dO (l.drop (q + 1)) t acc = .ok L) {K1 : Hp} {A1 : Nat} {xu : List AV} (J : LH H K1 A1 xu (au w.all k l[q])) {p1 : aR} {o1 : AV} (hp1 : (au w.all k l[q])[k]? = some p1) (ho1 : xu[k]? = some o1) :
  LI s l L H (q + 1) (w.step l[q]) (K1.set A1 (ae ((dw (au w.all k l[q]) xu).set k (da (bV p1) o1)))) A1 (xu.set k o1) := by
 obtain ⟨hb, hlen, _⟩ := sR I.bd W.pt W.kd
 have hall : (w.step l[q]).all = (au w.all k l[q]).set k (bV p1) := by
  show ((au w.all (cP w.names (l[q]).msg) l[q]).set (cP w.names (l[q]).msg) (bV ((au w.all (cP w.names (l[q]).msg) l[q]).getD (cP w.names (l[q]).msg) bY))) = _
  rw [W.ix, List.getD_eq_getElem?_getD, hp1]; rfl
 refine ⟨by rw [hall]; exact J.put (q := bV p1) hp1 ho1 (Mv.same J.fin (J.ops k o1 p1 ho1 hp1)), ?_, fun y hy => ?_, ?_, hg⟩
 ·rw [List.take_add_one, List.getElem?_eq_getElem hq, List.foldl_append, ← I.eq]; rfl
 ·rw [hall] at hy
  rcases iX hy with rfl | hy
  ·exact (hb p1 (List.mem_of_getElem? hp1)).bd hq16
  ·exact (hb y hy).up hq16
 ·rw [hall, List.length_set]
  have := I.len
  omega
def rm (w : fB) (x : aP) (p : aR) : List aw := if x.kind = 7 then w.names.set (aL p.outs x.field).part.toNat [] else w.names
theorem oa {w : fB} {x : aP} {k : Nat} {p : aR} (W : nB w x k p) : (w.step x).names = if x.kind = 6 then rm w x p ++ [x.dest] else rm w x p := by
 have e : w.all.getD (cP w.names x.msg) bY = p := by rw [W.ix, List.getD_eq_getElem?_getD, W.pt]; rfl
 show (if x.kind = 6 then (if x.kind = 7 then w.names.set (aL (w.all.getD (cP w.names x.msg) bY).outs x.field).part.toNat [] else w.names) ++ [x.dest] else _) = _
 rw [e]; rfl
theorem xd (l : List aw) : (l.map AV.str).flatMap AV.cells = l.map AV.str := by
 induction l with
 | nil => rfl
 | cons a l ih => rw [List.map_cons, List.flatMap_cons, ih]; rfl
theorem HG {l : List aw} {k : Nat} (hk : k < l.length) : vO false 1 ((((l.map AV.str).flatMap AV.cells).drop (k * 1)).map .v) = some (.v (.str l[k])) := by
 rw [xd]
 show (List.map Sv.v _)[0]? = _
 rw [List.getElem?_map, List.getElem?_drop, Nat.mul_one, Nat.add_zero, List.getElem?_map, List.getElem?_eq_getElem hk]; rfl
theorem u6 {xs : List AV} {k : Nat} {a : AV} (h : k < xs.length) : iC xs k [a] = xs.set k a := by
 unfold iC
 rw [List.set_eq_take_append_cons_drop, if_pos h]
 simp
theorem HL {rest : List (aK × CV)} {n n' t el esz : Nat} {a b : List AV} (hn : n = n') (h : a = b) : ((aK.s 10, CV.sv (.om t n)) :: (aK.t t, CV.tk true el esz a) :: rest) = [(aK.s 10, CV.sv (.om t n')), (aK.t t, CV.tk true el esz b)] ++ rest := by rw [hn, h]; rfl
theorem IV {v : CV} {rest : List (aK × CV)} {n n' t el esz : Nat} {a b : List AV} (hn : n = n') (h : a = b) : ((aK.s 11, v) :: (aK.s 10, CV.sv (.om t n)) :: (aK.t t, CV.tk true el esz a) :: rest) = [(aK.s 11, v), (aK.s 10, CV.sv (.om t n')), (aK.t t, CV.tk true el esz b)] ++ rest := by rw [hn, h]; rfl
theorem I3 {v : CV} {rest : List (aK × CV)} {A n n' m m' t el esz : Nat} {a b : List AV} {K : Hp} (h1 : n = n') (h2 : m = m') (h : a = b) : ((aK.s 12, v) :: (aK.s 9, CV.sv (.v (.os A n 7))) :: (aK.s 10, CV.sv (.om t m)) :: (aK.t t, CV.tk true el esz a) :: (aK.h, CV.hp K) :: rest) = [(aK.s 12, v), (aK.s 9, CV.sv (.v (.os A n' 7))), (aK.s 10, CV.sv (.om t m')), (aK.t t, CV.tk true el esz b), (aK.h, CV.hp K)] ++ rest := by rw [h1, h2, h]; rfl
theorem zk {s : St} {t : Nat} {x : Sv} (h : get s (.s t) = some (.sv x)) : fq (.tmp t) s = some x := by simp [fq, h]
theorem FC {s : St} {t : Nat} {a : AV} (h : get s (.s t) = some (.sv (.v a))) : cU (.tmp t) s = some a := by simp [cU, fq, h, Sv.av]
theorem oc {w : fB} {x : aP} {p : aR} : (rm w x p).length = w.names.length := by unfold rm; split <;> simp
theorem AG {w : fB} {x : aP} {p : aR} (h : x.kind = 7) (hlt : (aL p.outs x.field).part.toNat < w.names.length) : iC (w.names.map AV.str) ((aL p.outs x.field).part.toNat * 1) [.str []] = (rm w x p).map AV.str := by
 rw [Nat.mul_one, u6 (by simpa using hlt)]
 unfold rm
 rw [if_pos h, List.map_set]
theorem JL {s : aM} {i : Nat} (hi : i < (bb s).length) : ((bb s).map j1)[i]? = some (j1 (bb s)[i]) := by rw [List.getElem?_map, List.getElem?_eq_getElem hi]; rfl
theorem zJ {w : fB} {x : aP} {k : Nat} {p : aR} (W : nB w x k p) : (au w.all k x).length = (w.step x).all.length := by
 show _ = ((au w.all (cP w.names x.msg) x).set (cP w.names x.msg) _).length
 rw [List.length_set, W.ix]
mutual
theorem cf.lZ {D : Nat → Prop} : ∀ v : cf, bE D v.av
 | .mk n s m => by
  rw [cf.av]
  exact .agg _ (ah.cons (.int _ _) (ah.cons (.str _) (ah.cons (.sl _ (qQ m)) ah.nil)))
theorem Slot.lZ {D : Nat → Prop} : ∀ v : Slot, bE D v.av
 | .mk n vs => by
  rw [Slot.av]
  exact .agg _ (ah.cons (.int _ _) (ah.cons (.sl _ (sa vs)) ah.nil))
theorem Tree.lZ {D : Nat → Prop} : ∀ v : Tree, bE D v.av
 | .mk ss r => by
  rw [Tree.av]
  exact .agg _ (ah.cons (.sl _ (qT ss)) (ah.cons (.sl _ (ah.map fun x _ => .agg _ (ah.cons (.int _ _) (ah.cons (.int _ _) (ah.cons (.int _ _) (ah.cons (.str _) ah.nil)))))) ah.nil))
theorem qQ {D : Nat → Prop} : ∀ l : List Tree, ah D (gm l)
 | [] => by rw [gm]; exact ah.nil
 | t :: l => by rw [gm]; exact ah.cons t.lZ (qQ l)
theorem sa {D : Nat → Prop} : ∀ l : List cf, ah D (jc l)
 | [] => by rw [jc]; exact ah.nil
 | t :: l => by rw [jc]; exact ah.cons t.lZ (sa l)
theorem qT {D : Nat → Prop} : ∀ l : List Slot, ah D (gq l)
 | [] => by rw [gq]; exact ah.nil
 | t :: l => by rw [gq]; exact ah.cons t.lZ (qT l)
end
theorem Port.lZ {D : Nat → Prop} (x : Port) : bE D x.av := .agg _ (ah.cons (.str _) (ah.cons (.int _ _) (ah.cons (.int _ _) (ah.cons (.str _) (ah.cons (.bool _) (ah.cons (.bool _) (ah.cons (.str _) (ah.cons (.int _ _) (ah.cons (.int _ _) ah.nil)))))))))
theorem al.lZ {D : Nat → Prop} (x : al) : bE D x.av := .agg _ (ah.cons (.int _ _) (ah.cons (.int _ _) (ah.cons (.int _ _) (ah.cons (.int _ _) (ah.cons (.int _ _) (ah.cons (.int _ _) (ah.cons (.int _ _) (ah.cons (.int _ _) (ah.cons (.int _ _) (ah.cons (.sl _ (ah.map fun n _ => .int _ _)) (ah.cons (.int _ _) (ah.cons (.str _) (ah.cons (.sl _ (ah.map fun t _ => t.lZ)) ah.nil)))))))))))))
theorem aR.lZ {D : Nat → Prop} (x : aR) : bE D x.av := .agg _ (ah.cons (.str _) (ah.cons (.sl _ (ah.map fun y _ => y.lZ)) (ah.cons (.sl _ (ah.map fun y _ => y.lZ)) (ah.cons (.sl _ (ah.map fun y _ => y.lZ)) (ah.cons (.int _ _) (ah.cons (.sl _ (ah.map fun y _ => .int _ _)) (ah.cons (.bool _) ah.nil)))))))
theorem yL {D : Nat → Prop} (s : aM) (l : List aP) : bE D (jR s l) := by
 unfold jR
 split
 ·exact .tup _ (ah.cons (.agg _ (ah.cons (.sl _ (ah.map fun y _ => y.lZ)) ah.nil)) (ah.cons (.int _ _) ah.nil))
 ·exact .tup _ (ah.cons (.agg _ (ah.cons (.sl _ ah.nil) ah.nil)) (ah.cons (.int _ _) ah.nil))
theorem AZ {s : aM} {l : List aP} {L : List aM} {H : Hp} {q : Nat} {w : fB} {K : Hp} {A : Nat} {os : List AV} (h : s.all l = .ok L) (hq : l.length ≤ q) (I : LI s l L H q w K A os) : AV.tup [.agg [.sl (w.all.map aR.av)], .int .i64 0] = jR s l := by
 unfold jR
 rw [h, I.eq, List.take_of_length_le hq]; rfl
theorem DE (s : aM) : s.msgs.length = (gG s).all.length := by show _ = (s.msgs.map _).length; simp
def AH (s : aM) (i : Nat) : List aw := ((bb s).take i).map (·.name)
theorem Cu {s : aM} {i : Nat} (h : s.msgs.length ≤ i) : AH s i = (gG s).names := by
 have hl : (bb s).length = s.msgs.length := by unfold bb; simp
 unfold AH
 rw [List.take_of_length_le (by omega)]
 show (s.msgs.map _).map _ = s.msgs.map _
 rw [List.map_map]; rfl
theorem tW {s : aM} {i : Nat} (hi : i < (bb s).length) : (AH s i).map AV.str ++ [.str (bb s)[i].name] = (AH s (i + 1)).map AV.str := by
 unfold AH
 rw [List.take_add_one, List.getElem?_eq_getElem hi, List.map_append, List.map_append]; rfl
theorem EA {w : fB} {x : aP} {k0 : Nat} {p : aR} (W : nB w x k0 p) {k : Nat} (hk : k < w.names.length) : (w.names[k] == x.msg) = decide (k = k0) := by
 by_cases e : k = k0
 ·subst e
  have := W.nm
  rw [List.getElem?_eq_getElem hk] at this
  rw [Option.some.inj this]
  simp
 ·have : w.names[k] ≠ x.msg := fun h => e (W.un k (by rw [List.getElem?_eq_getElem hk, h]))
  simp [e, this]
theorem CW (s : aM) (l : List aP) (hs : s.fT) (hb : ∀ x ∈ l, x.fT ∧ x.names.length ≤ 1000) (hl : l.length ≤ 9223372036854775807) : Pure Tryz.prog 18 [s.av, .sl (l.map aP.av)] (jR s l) := by
 refine fun H => dW.fin fun hfin => ?_
 refine dW.nY Tryz.func18 rfl rfl (aF rfl) (yL _ _) ?_
 refine aC.seq (aC.region ?_)
 refine aB.run II 3 rfl ?_
 refine aB.nil (aC.seq (aC.region ?_))
 refine aB.run II 2 rfl ?_
 cases hp1 : s.all l with
 | ok x1 => 
  refine aB.c1 rfl (aG (aF rfl) m8 rfl (oM hs hb hl hp1)) ?_
  refine aB.run II 7 rfl ?_
  refine aB.nil (aC.seq (aC.seq (aC.region ?_)))
  refine aB.run II 2 rfl ?_
  refine aB.nil ?_
  refine aC.bR rfl rfl ?_
  refine aC.skip (aC.seq (aC.region ?_))
  refine aB.run II 1 rfl ?_
  refine aB.c2 rfl (db (aF rfl) GU rfl rfl (C1 s (aM.gF (mA hp1).1).sm H)) ?_
  refine aB.run II 1 rfl ?_
  refine aB.nil (aC.seq (aC.region ?_))
  refine aB.c2 rfl (zo («as» := []) (aF rfl) bT dk rfl rfl rfl (ft rfl) rfl) ?_
  refine aB.run II 1 rfl ?_
  refine aB.nil (aC.seq (aC.seq (aC.region ?_)))
  refine aB.run II 1 rfl ?_
  refine aB.nil (aC.blk ?_)
  refine aC.aJ (Kept.aH [.s 11, .s 10, .t 28, .h, .s 1, .s 4, .b 4, .s 9] rfl (by decide) (Kept.now ?_))
  refine aC.aW (fun (i : Nat) => [(.s 11, .sv (.v (.int .i64 (i : Int)))), (.s 10, .sv (.om 28 ((AH s i).map AV.str).length)), (.t 28, .tk true 9 1 ((AH s i).map AV.str))]) _ (fun (i : Nat) => True) (fun (i : Nat) => s.msgs.length - i) 0 rfl trivial ?_
  rintro i hI
  have hbl : (bb s).length = s.msgs.length := (by unfold bb; simp)
  have hsm := (aM.gF (mA hp1).1).sm.m
  refine aC.seq (aC.seq (aC.region ?_))
  refine aB.run II 4 rfl ?_
  refine aB.nil ?_
  refine aC.cond rfl (fun hc1 => ?_) (fun hc1 => ?_)
  ·have hi := Hv hc1
   refine aC.skip (aC.seq (aC.blk (aC.region ?_)))
   refine aB.run II 3 rfl ?_
   refine aB.c1 rfl (cM (aF rfl) cm rfl rfl (Int.natCast_nonneg _) (by omega)) ?_
   refine aB.run II 1 rfl ?_
   refine aB.c1 rfl (c9 (aF rfl) tc rfl rfl Hp.cl (wT _) rfl (JL (by omega)) rfl) ?_
   refine aB.run II 1 rfl ?_
   refine aB.c3 rfl (zz (aF rfl) bT rfl rfl rfl rfl rfl rfl (by rw [List.length_map]; have : (AH s i).length ≤ i := (by unfold AH; simp; omega); simp only [List.length_cons, List.length_nil]; omega) (by rw [List.length_map]; have : (AH s i).length ≤ i := (by unfold AH; simp; omega); simp only [List.length_cons, List.length_nil]; omega)) ?_
   refine aB.run II 1 rfl ?_
   refine aB.nil (aC.region ?_)
   refine aB.run II 3 rfl ?_
   refine aB.kept (Kept.aX 11 rfl (inc (by omega)) (Kept.aH [.s 11, .s 10, .t 42, .h, .s 1, .s 4, .b 4, .s 9] rfl (by decide) (Kept.cS 42 28 (by decide) rfl (Kept.now ?_))))
   exact ⟨i + 1, by omega, trivial, IV (congrArg List.length (tW (by omega))) (tW (by omega))⟩
  ·have hi := DL hc1
   rw [Cu hi]
   refine aC.exit (aC.seq (aC.seq ?_))
   refine aC.aJ (Kept.k6 rfl (rfl) (Kept.IJ 9 rfl (congrArg (fun n => AV.os (H.next + s.msgs.length) n 7) (DE s)) (Kept.now ?_))) --  (Kept.now ?_))
   refine aC.region ?_
   refine aB.run II 1 rfl ?_
   refine aB.nil (aC.blk ?_)
   refine aC.aJ (Kept.aH [.s 12, .s 9, .s 10, .t 28, .h, .s 1, .s 4, .b 4] rfl (by decide) (Kept.now ?_))
   refine aC.aW (fun ((q, w, K, A, os) : Nat × fB × Hp × Nat × List AV) => [(.s 12, .sv (.v (.int .i64 (q : Int)))), (.s 9, .sv (.v (.os A w.all.length 7))), (.s 10, .sv (.om 28 (w.names.map AV.str).length)), (.t 28, .tk true 9 1 (w.names.map AV.str)), (.h, .hp K)]) _ (fun ((q, w, K, A, os) : Nat × fB × Hp × Nat × List AV) => LI s l x1 H q w K A os) (fun ((q, w, K, A, os) : Nat × fB × Hp × Nat × List AV) => l.length - q) (0, gG s, H.bump s.msgs.length (ae ((bb s).map j1)), H.next + s.msgs.length, List.replicate s.msgs.length .nsl) rfl (LI.start hp1) ?_
   rintro ⟨q, w, K, A, os⟩ hI
   dsimp only at hI
   refine aC.seq (aC.seq (aC.region ?_))
   refine aB.run II 4 rfl ?_
   refine aB.nil ?_
   refine aC.cond rfl (fun hc2 => ?_) (fun hc2 => ?_)
   ·have hq := ch hc2
    obtain ⟨k0, p0, o0, W, ho0, hk0, hnl, hgo⟩ := hI.go hq
    have hq16 := (mA hp1).2
    have hlen := hI.len
    refine aC.skip (aC.seq (aC.blk (aC.seq (aC.region ?_))))
    refine aB.run II 1 rfl ?_
    refine aB.nil (aC.seq (aC.seq (aC.region ?_)))
    refine aB.run II 1 rfl ?_
    refine aB.nil (aC.blk ?_)
    refine aC.aJ (Kept.aH [.s 14, .s 13, .h, .s 1, .s 4, .b 4, .s 9, .s 10, .t 28, .s 12] rfl (by decide) (Kept.now ?_))
    refine aC.aW (fun ((k, a) : Nat × Int) => [(.s 14, .sv (.v (.int .i64 (k : Int)))), (.s 13, .sv (.v (.int .i64 a)))]) _ (fun ((k, a) : Nat × Int) => a = if k0 < k then (k0 : Int) else -1) (fun ((k, a) : Nat × Int) => w.names.length - k) (0, -1) rfl rfl ?_
    rintro ⟨k, a⟩ hK
    refine aC.seq (aC.seq (aC.region ?_))
    refine aB.run II 2 rfl ?_
    refine aB.c1 rfl (zr (aF rfl) EO rfl) ?_
    refine aB.run II 1 rfl ?_
    refine aB.nil ?_
    refine aC.cond rfl (fun hc3 => ?_) (fun hc3 => ?_)
    ·have hk := ch hc3
     refine aC.skip (aC.seq (aC.blk (aC.seq ?_)))
     refine aC.drawn mixed rfl ?_
     refine aD.run II 2 rfl ?_
     refine aD.c1 rfl (zu (aF rfl) ca rfl rfl rfl (Int.natCast_nonneg _) (by rw [List.length_map]; omega)) ?_
     refine aD.c1 rfl (FJ (aF rfl) tc rfl rfl (HG hk)) ?_
     refine aD.run II 2 rfl ?_
     refine aD.c1 rfl (aI (aF rfl) jy rfl rfl (Int.natCast_nonneg _) (bz hq) rfl) ?_
     refine aD.run II 3 rfl ?_
     refine aD.nil (by kernel_rfl) (Kept.now ?_)
     refine aC.cond rfl (fun hc4 => ?_) (fun hc4 => ?_)
     ·refine aC.region ?_
      refine aB.run II 2 rfl ?_
      refine aB.nil (aC.region ?_)
      refine aB.run II 3 rfl ?_
      refine aB.kept (Kept.aX 14 rfl (inc (by omega)) (Kept.aH [.s 14, .s 13, .h, .s 1, .s 4, .b 4, .s 9, .s 10, .t 28, .s 12] rfl (by decide) (Kept.now ?_)))
      exact ⟨(k + 1, (k : Int)), by dsimp only; omega, (by have e := of_decide_eq_true ((EA W hk).symm.trans hc4); dsimp only; rw [if_pos (by omega)]; omega), rfl⟩
     ·refine aC.skip (aC.region ?_)
      refine aB.run II 3 rfl ?_
      refine aB.kept (Kept.aX 14 rfl (inc (by omega)) (Kept.aH [.s 14, .s 13, .h, .s 1, .s 4, .b 4, .s 9, .s 10, .t 28, .s 12] rfl (by decide) (Kept.now ?_)))
      exact ⟨(k + 1, a), by dsimp only; omega, (by have e := of_decide_eq_false ((EA W hk).symm.trans hc4); have h2 := hK; dsimp only at h2 ⊢; rw [h2]; exact if h : k0 < k then (by rw [if_pos h, if_pos (by omega)]) else (by rw [if_neg h, if_neg (by omega)])), rfl⟩
    ·have hk := ck hc3
     have ha : a = (k0 : Int) := (by have := hK; dsimp only at this; rw [this, if_pos (by omega)])
     subst ha
     refine aC.exit ?_
     refine aC.c8 [.h, .s 1, .s 4, .b 4, .s 9, .s 12, .s 13] (fun (_ : Unit) => [(.s 10, .sv (.om 28 ((rm w (l[q]'hq) p0).map AV.str).length)), (.t 28, .tk true 9 1 ((rm w (l[q]'hq) p0).map AV.str))]) (fun (_ : Unit) => True) rfl ?_ ?_
     ·refine aC.seq (aC.region ?_)
      refine aB.run II 2 rfl ?_
      refine aB.c1 rfl (aI (aF rfl) jy rfl rfl (Int.natCast_nonneg _) (bz hq) rfl) ?_
      refine aB.run II 3 rfl ?_
      refine aB.nil ?_
      refine aC.cond rfl (fun hc5 => ?_) (fun hc5 => ?_)
      ·refine aC.seq ?_
       refine aC.drawn mixed rfl ?_
       refine aD.run II 2 rfl ?_
       refine aD.c1 rfl (cM (aF rfl) cm rfl rfl (Int.natCast_nonneg _) (by omega)) ?_
       refine aD.run II 1 rfl ?_
       refine aD.c1 rfl (c9 (aF rfl) gY rfl rfl hI.lh.row (fC _ _) rfl (gM W.pt ho0) rfl) ?_
       refine aD.run II 2 rfl ?_
       refine aD.c1 rfl (cM (aF rfl) cm rfl rfl (Int.natCast_nonneg _) (by omega)) ?_
       refine aD.run II 1 rfl ?_
       refine aD.c1 rfl (c9 (aF rfl) gY rfl rfl hI.lh.row (fC _ _) rfl (gM W.pt ho0) rfl) ?_
       refine aD.run II 2 rfl ?_
       refine aD.c1 rfl (aI (aF rfl) jy rfl rfl (Int.natCast_nonneg _) (bz hq) rfl) ?_
       refine aD.run II 2 rfl ?_
       refine aD.c1 rfl (aG (aF rfl) sH rfl (lT _ _ (by have := (hI.bd _ (List.mem_of_getElem? W.pt)).outs; omega))) ?_
       refine aD.c1 rfl (aI (aF rfl) cy rfl rfl ((W.h7 (by simpa using hc5)).1) (gT (W.h7 (by simpa using hc5)).1) rfl) ?_
       refine aD.run II 3 rfl ?_
       refine aD.nil (by kernel_rfl) (Kept.now ?_)
       refine aC.region ?_
       refine aB.run II 2 rfl ?_
       refine aB.c1 rfl (zu (aF rfl) ca rfl rfl rfl ((W.h7 (by simpa using hc5)).2.1) (by rw [List.length_map]; have := (W.h7 (by simpa using hc5)).2.2.1; omega)) ?_
       refine aB.c1 rfl (FD tc rfl rfl rfl rfl (by rw [List.length_map]; have := (W.h7 (by simpa using hc5)).2.2.1; have := (W.h7 (by simpa using hc5)).2.1; omega)) ?_
       refine aB.kept (Kept.aH [.s 10, .t 28, .h, .s 1, .s 4, .b 4, .s 9, .s 12, .s 13] rfl (by decide) (Kept.now ?_))
       exact ⟨(), trivial, HL (by rw [List.length_map, List.length_map, oc]) (AG (by simpa using hc5) (by have := (W.h7 (by simpa using hc5)).2.2.1; have := (W.h7 (by simpa using hc5)).2.1; omega))⟩
      ·refine aC.aJ (Kept.aH [.s 10, .t 28, .h, .s 1, .s 4, .b 4, .s 9, .s 12, .s 13] rfl (by decide) (Kept.now ?_))
       refine aC.skip ?_
       exact ⟨(), trivial, by rw [show rm w _ p0 = w.names from if_neg (by simpa using hc5)]; rfl⟩
     ·rintro _ hF22
      refine aC.seq (aC.region ?_)
      refine aB.run II 4 rfl ?_
      refine aB.c1 rfl (aI (aF rfl) jy rfl rfl (Int.natCast_nonneg _) (bz hq) rfl) ?_
      refine aB.run II 1 rfl ?_
      refine aB.dh (aF rfl) GS rfl rfl (CO H K A os w.all k0 (l[q]'hq) p0 o0 hI.lh W.pt ho0 (by have := hI.len; omega) (by have := (hI.bd _ (List.mem_of_getElem? W.pt)).ops; omega) (by have := (hI.bd _ (List.mem_of_getElem? W.pt)).outs; omega) (by have := (hI.bd _ (List.mem_of_getElem? W.pt)).rn; have := (hI.bd _ (List.mem_of_getElem? W.pt)).regs; omega) W.kd (hb _ (List.getElem_mem hq)).2 W.h5 (fun h => (W.h7 h).2) W.h8) (fun r2 K2 hP2 => ?_)
      obtain ⟨A1, xu, rfl, hL⟩ := hP2
      refine aB.run II 1 rfl ?_
      refine aB.nil ?_
      refine aC.c8 [.h, .s 1, .s 4, .b 4, .s 9, .s 12, .s 13] (fun (_ : Unit) => [(.s 10, .sv (.om 28 ((w.step (l[q]'hq)).names.map AV.str).length)), (.t 28, .tk true 9 1 ((w.step (l[q]'hq)).names.map AV.str))]) (fun (_ : Unit) => True) rfl ?_ ?_
      ·refine aC.seq (aC.region ?_)
       refine aB.run II 2 rfl ?_
       refine aB.c1 rfl (aI (aF rfl) jy rfl rfl (Int.natCast_nonneg _) (bz hq) rfl) ?_
       refine aB.run II 3 rfl ?_
       refine aB.nil ?_
       refine aC.cond rfl (fun hc6 => ?_) (fun hc6 => ?_)
       ·refine aC.region ?_
        refine aB.run II 3 rfl ?_
        refine aB.c1 rfl (aI (aF rfl) jy rfl rfl (Int.natCast_nonneg _) (bz hq) rfl) ?_
        refine aB.run II 3 rfl ?_
        refine aB.c3 rfl (zz (aF rfl) bT rfl rfl rfl rfl rfl rfl (by rw [List.length_map, oc]; have := hI.len; simp only [List.length_cons, List.length_nil]; omega) (by rw [List.length_map, oc]; have := hI.len; simp only [List.length_cons, List.length_nil]; omega)) ?_
        refine aB.run II 1 rfl ?_
        refine aB.kept (Kept.aH [.s 10, .t 114, .h, .s 1, .s 4, .b 4, .s 9, .s 12, .s 13] rfl (by decide) (Kept.cS 114 28 (by decide) rfl (Kept.now ?_)))
        exact ⟨(), trivial, HL (by rw [oa W, if_pos (by simpa using hc6), List.map_append]; rfl) (by rw [oa W, if_pos (by simpa using hc6), List.map_append]; rfl)⟩
       ·refine aC.aJ (Kept.aH [.s 10, .t 28, .h, .s 1, .s 4, .b 4, .s 9, .s 12, .s 13] rfl (by decide) (Kept.now ?_))
        refine aC.skip ?_
        exact ⟨(), trivial, by rw [oa W, if_neg (by simpa using hc6)]; rfl⟩
      ·rintro _ hF25
       have hbs := (sR hI.bd W.pt W.kd).1
       have hsl := (sR hI.bd W.pt W.kd).2.2
       have hll := hL.len
       obtain ⟨p2, hp2⟩ : ∃ p2, (au w.all k0 (l[q]'hq))[k0]? = some p2 := ⟨_, List.getElem?_eq_getElem (by omega)⟩
       obtain ⟨o2, ho2⟩ : ∃ o2, xu[k0]? = some o2 := ⟨_, List.getElem?_eq_getElem (by omega)⟩
       refine aC.region ?_
       refine aB.run II 4 rfl ?_
       refine aB.c1 rfl (cM (aF rfl) cm rfl rfl (Int.natCast_nonneg _) (by omega)) ?_
       refine aB.c1 rfl (ed (aF rfl) eL rfl rfl hL.row (fC _ _) rfl (gM hp2 ho2)) ?_
       refine aB.c1 rfl (aG (aF rfl) vd rfl (uh p2 o2 (by have := (hbs p2 (List.mem_of_getElem? hp2)).outs; omega) (by have := (hbs p2 (List.mem_of_getElem? hp2)).ever; omega))) ?_
       refine aB.c1 rfl (cM (aF rfl) cm rfl rfl (Int.natCast_nonneg _) (by omega)) ?_
       refine aB.c1 rfl (kq eL rfl rfl hL.row rfl (fC _ _) rfl (by rw [cq hL.len]; omega) rfl) ?_
       refine aB.nil (aC.region ?_)
       refine aB.run II 3 rfl ?_
       refine aB.kept (Kept.aX 12 rfl (inc (by omega)) (Kept.aH [.s 12, .s 9, .s 10, .t 28, .h, .s 1, .s 4, .b 4] rfl (by decide) (Kept.now ?_)))
       exact ⟨(q + 1, w.step (l[q]'hq), _, A1, xu.set k0 o2), by dsimp only; omega, hI.next hq (by omega) W hgo hL hp2 ho2, I3 (zJ W) rfl rfl⟩
   ·have hq := ck hc2
    refine aC.exit (aC.seq (aC.region ?_))
    refine aB.run II 4 rfl ?_
    refine aB.kept (Kept.Ah 4 hI.lh rfl rfl (fun s2 K2 e1 e2 e3 e4 e5 => ?_))
    refine aC.ret ?_
    exact ⟨.inr rfl, (aE.r2 rfl (.cell cx (zk ((e1 (.s 4) (by decide) (by decide)).trans rfl)) e2 rfl rfl (.tmp (FC ((e1 (.s 5) (by decide) (by decide)).trans rfl)) .nil))).cast (AZ hp1 hq hI), K2, e3, e4, e5⟩
 | error e1 => 
  refine aB.c1 rfl (aG (aF rfl) m8 rfl (oN hs hb hl hp1)) ?_
  refine aB.run II 7 rfl ?_
  refine aB.nil (aC.seq (aC.seq (aC.region ?_)))
  refine aB.run II 2 rfl ?_
  refine aB.nil ?_
  refine aC.bG rfl (by simpa using ph hp1) ?_
  refine aC.seq (aC.region ?_)
  refine aB.run II 3 rfl ?_
  refine aB.nil (aC.ret ?_)
  exact ⟨.inr rfl, (aE.r2 rfl (.cell cx rfl rfl rfl rfl (.tmp rfl .nil))).cast (by unfold jR; rw [hp1]), H, rfl, Nat.le_refl _, fun _ _ => rfl⟩
end Go.Proofs.YtpifnegikoldmaaGreatDoor.X
