/- A program logic over pure values: the values, what a concrete value stands for, the state of a frame, and that a frame and a world fit it. No condition. -/
import Derived.Test.YthoncmadikifnaaDoorX0
import Derived.Orders
import Derived.Laws.OwnMore
import Derived.Maps.AppendAt
import Derived.Below
import Derived.WalkKit
import Derived.Laws.StructEq
import Derived.Lib.ConvBytes
namespace Go.Proofs.YthoncmadikifnaaDoor.X
open Go Go.RowKit

/-- A pure value: slices are lists, strings lists of bytes; 'kp cs': a pointer to cells that are never written again. -/
inductive AV where
  | bool (b : Bool)
  | int (k : IntKind) (n : Int)
  | str (s : List UInt8)
  | sl (xs : List AV)
  | agg (cs : List AV)
  | tup (vs : List AV)
  | nilp
  | nsl
  | sll (n : Nat)
  | kp (cs : List AV)
  | op (id off : Nat)
  | fn (f : FuncId) (caps : List AV)
  | nilf
  | ifc (t : TypeId) (v : AV)
  | nili
  | junk
  deriving Inhabited

def AV.flat : AV → Bool
  | .agg _ | .tup _ => false
  | _ => true
def AV.cells : AV → List AV
  | .agg cs => cs
  | v => [v]

/-- What is known for ever of memory: cells that are never written again; the objects' blocks. -/
structure Gh where
  kn : Nat → Nat → Option Value
  ob : Nat → Option Nat

/-- A concrete value stands for a pure one. -/
inductive V (G : Gh) : Value → AV → Prop where
  | bool (b : Bool) : V G (.bool b) (.bool b)
  | int (k : IntKind) (n : Int) : V G (.int k n) (.int k n)
  | str (s : List UInt8) : V G (.string ⟨s.toArray⟩) (.str s)
  | junk (v : Value) (h : v.oneCell' = true) : V G v .junk
  | nilp : V G (.pointer none) .nilp
  | nsl : V G (.slice none 0 0) .nsl
  | sll (a : Option Addr) (n cap : Nat) : V G (.slice a n cap) (.sll n)
  | kp (b off : Nat) (cs : List AV) (vs : Nat → Value)
      (hk : ∀ (j : Nat) (c : AV), cs[j]? = some c → G.kn b (off + j) = some (vs j))
      (hf : ∀ (j : Nat) (c : AV), cs[j]? = some c → c.flat = true)
      (hv : ∀ (j : Nat) (c : AV), cs[j]? = some c → V G (vs j) c) : V G (.pointer (some ⟨b, off, none⟩)) (.kp cs)
  | op (id off b : Nat) (h : G.ob id = some b) : V G (.pointer (some ⟨b, off, none⟩)) (.op id off)
  | slE (a : Option Addr) (cap : Nat) : V G (.slice a 0 cap) (.sl [])
  | slN (b off cap esz : Nat) (xs : List AV) (vs : Nat → Nat → Value) (hc : xs.length ≤ cap)
      (he : ∀ (i : Nat) (e : AV), xs[i]? = some e → e.cells.length = esz)
      (hk : ∀ (i : Nat) (e : AV) (j : Nat) (c : AV), xs[i]? = some e → e.cells[j]? = some c → G.kn b (off + i * esz + j) = some (vs i j))
      (hf : ∀ (i : Nat) (e : AV) (j : Nat) (c : AV), xs[i]? = some e → e.cells[j]? = some c → c.flat = true)
      (hv : ∀ (i : Nat) (e : AV) (j : Nat) (c : AV), xs[i]? = some e → e.cells[j]? = some c → V G (vs i j) c) : V G (.slice (some ⟨b, off, none⟩) xs.length cap) (.sl xs)
  | agg (vs : Array Value) (cs : List AV) (hl : vs.size = cs.length) (hf : ∀ (j : Nat) (c : AV), cs[j]? = some c → c.flat = true)
      (hv : ∀ (j : Nat) (c : AV), cs[j]? = some c → V G (vs.getD j undef) c) : V G (.agg vs) (.agg cs)
  | tup (vs : Array Value) (cs : List AV) (hl : vs.size = cs.length)
      (hv : ∀ (j : Nat) (c : AV), cs[j]? = some c → V G (vs.getD j undef) c) : V G (.tuple vs) (.tup cs)
  | fn (f : FuncId) (vs : Array Value) (cs : List AV) (hl : vs.size = cs.length)
      (hv : ∀ (j : Nat) (c : AV), cs[j]? = some c → V G (vs.getD j undef) c) : V G (.func (.func f) #[] vs) (.fn f cs)
  | nilf : V G .nilFunc .nilf
  | ifc (t : TypeId) (v : Value) (a : AV) (h : V G v a) : V G (.iface t v) (.ifc t a)
  | nili : V G .nilIface .nili

/-- More is known. -/
structure Gh.le (G G' : Gh) : Prop where
  kn : ∀ b o v, G.kn b o = some v → G'.kn b o = some v
  ob : ∀ id b, G.ob id = some b → G'.ob id = some b
theorem Gh.le.refl (G : Gh) : G.le G := ⟨fun _ _ _ h => h, fun _ _ h => h⟩
theorem Gh.le.trans {A B C : Gh} (h : A.le B) (k : B.le C) : A.le C := ⟨fun b o v e => k.kn b o v (h.kn b o v e), fun i b e => k.ob i b (h.ob i b e)⟩

theorem V.mono {G G' : Gh} (h : G.le G') {v : Value} {a : AV} (hv : V G v a) : V G' v a := by
  induction hv with
  | bool b => exact .bool b
  | int k n => exact .int k n
  | str s => exact .str s
  | junk v h => exact .junk v h
  | nilp => exact .nilp
  | nsl => exact .nsl
  | sll a n cap => exact .sll a n cap
  | kp b off cs vs hk hf _ ih => exact .kp b off cs vs (fun j c e => h.kn _ _ _ (hk j c e)) hf ih
  | op id off b e => exact .op id off b (h.ob _ _ e)
  | slE a cap => exact .slE a cap
  | slN b off cap esz xs vs hc he hk hf _ ih => exact .slN b off cap esz xs vs hc he (fun i e j c h1 h2 => h.kn _ _ _ (hk i e j c h1 h2)) hf ih
  | agg vs cs hl hf _ ih => exact .agg vs cs hl hf ih
  | tup vs cs hl _ ih => exact .tup vs cs hl ih
  | fn f vs cs hl _ ih => exact .fn f vs cs hl ih
  | nilf => exact .nilf
  | ifc t v a _ ih => exact .ifc t v a ih
  | nili => exact .nili

theorem V.oneCell {G : Gh} {v : Value} {a : AV} (hv : V G v a) (hf : a.flat = true) : v.oneCell' = true := by
  cases hv <;> first | rfl | assumption | (simp [AV.flat] at hf)

theorem AV.cells_flat {a : AV} (h : a.flat = true) : a.cells = [a] := by cases a <;> first | rfl | (simp [AV.flat] at h)
theorem vcells_one {v : Value} (h : v.oneCell' = true) : v.cells = #[v] := by cases v <;> first | rfl | (simp [Value.oneCell'] at h)
/-- The cells of a value stand for the cells of what it stands for. -/
theorem V.cells {G : Gh} {v : Value} {a : AV} (hv : V G v a) (ht : ∀ vs, a ≠ .tup vs) : v.cells.size = a.cells.length ∧ (∀ (j : Nat) (c : AV), a.cells[j]? = some c → c.flat = true ∧ V G (v.cells.getD j undef) c) := by
  by_cases hf : a.flat = true
  · rw [AV.cells_flat hf, vcells_one (hv.oneCell hf)]
    refine ⟨rfl, fun j c hc => ?_⟩
    cases j with
    | zero => simp at hc; subst hc; exact ⟨hf, hv⟩
    | succ j => simp at hc
  · cases hv
    case agg vs cs hl hf2 hv => exact ⟨hl, fun j c h => ⟨hf2 j c h, hv j c h⟩⟩
    case tup => exact absurd rfl (ht _)
    all_goals exact absurd rfl hf

/-! ### The state of a frame -/
/-- What a slot, or a cell of a local box, holds: a pure value; a pointer into the local box 'k'; a slice that grows, 'k', with what it holds; the slice over the local box 'k' (n elements); the slice over the row 'k' that may be written (n elements); a value that is there if 'b' (behind the guard 'g'). -/
inductive Sv where
  | v (a : AV)
  | lp (k off : Nat)
  | ow (k : Nat) (xs : List AV)
  | mv (k n : Nat)
  | om (k n : Nat)
  | ov (k esz lo n : Nat)
  | ta (k off : Nat)
  | cd (g : Nat) (b : Bool) (a : AV)
  deriving Inhabited
def Sv.av : Sv → Option AV
  | .v a => some a
  | .ow _ xs => some (.sl xs)
  | _ => none
def Sv.flat : Sv → Bool
  | .v a => a.flat
  | .cd _ _ _ => false
  | _ => true

/-- A cell of a shared object: a value; the slice over a row of its own. -/
inductive Hc where
  | v (a : AV)
  | row (el esz : Nat) (xs : List AV)
/-- Objects that are shared. -/
structure Hp where
  next : Nat
  obj : Nat → Option (List Hc)

inductive Comp where
  | s (n : Nat) | b (n : Nat) | t (n : Nat) | h
  deriving DecidableEq
inductive CV where
  | sv (x : Sv)
  | bx (cs : List Sv)
  | ob (id : Nat) (cs : List Sv)
  | bt (ty : TypeId) (cs : List Sv)
  | it (s : List UInt8) (pos : Nat)
  | tk (m : Bool) (el esz : Nat) (xs : List AV)
  | hp (H : Hp)
  | gone
/-- It has a block of its own. -/
def CV.live : CV → Bool
  | .bx _ | .ob _ _ | .it _ _ | .bt _ _ => true
  | _ => false
/-- The object that it is. -/
def CV.link : CV → Option Nat
  | .ob id _ => some id
  | _ => none
/-- Its cells. -/
def CV.box? : CV → Option (List Sv)
  | .bx cs => some cs
  | .ob _ cs => some cs
  | _ => none
def CV.setBox : CV → List Sv → CV
  | .ob id _, cs => .ob id cs
  | _, cs => .bx cs
abbrev St := List (Comp × CV)
def get : St → Comp → Option CV
  | [], _ => none
  | (c, v) :: s, d => if c = d then some v else get s d
theorem get_append (s t : St) (d : Comp) : get (s ++ t) d = match get s d with | some v => some v | none => get t d := by
  induction s with
  | nil => simp [get]
  | cons x s ih =>
    obtain ⟨c, v⟩ := x
    simp only [List.cons_append, get]
    split
    · rfl
    · exact ih

/-- Where the local boxes, and the slices that grow, are. -/
structure Loc where
  box : Nat → Option Nat
  tok : Nat → Option Value

def SV (G : Gh) (L : Loc) (v : Value) : Sv → Prop
  | .v a => V G v a
  | .lp k off => ∃ blk, L.box k = some blk ∧ v = .pointer (some ⟨blk, off, none⟩)
  | .ow k xs => V G v (.sl xs) ∧ L.tok k = some v
  | .mv k n => ∃ blk cap, L.box k = some blk ∧ v = .slice (some ⟨blk, 0, none⟩) n cap ∧ n ≤ cap
  | .om k n => L.tok k = some v ∧ ∃ a cap, v = .slice a n cap
  | .ov k esz lo n => (n = 0 ∧ ∃ a c, v = .slice a 0 c) ∨ ∃ blk m c c', L.tok k = some (.slice (some ⟨blk, 0, none⟩) m c) ∧ v = .slice (some ⟨blk, lo * esz, none⟩) n c'
  | .ta k off => ∃ blk m c, L.tok k = some (.slice (some ⟨blk, 0, none⟩) m c) ∧ v = .pointer (some ⟨blk, off, none⟩)
  | .cd _ b a => b = true → V G v a

theorem SV.mono {G G' : Gh} (h : G.le G') {L : Loc} {v : Value} {x : Sv} (hv : SV G L v x) : SV G' L v x := by
  cases x with
  | v a => exact V.mono h hv
  | lp k off => exact hv
  | ow k xs => exact ⟨V.mono h hv.1, hv.2⟩
  | mv k n => exact hv
  | om k n => exact hv
  | ov k esz lo n => exact hv
  | ta k off => exact hv
  | cd g b a => exact fun e => V.mono h (hv e)
theorem SV.loc {G : Gh} {L L' : Loc} (hb : ∀ k b, L.box k = some b → L'.box k = some b) (ht : ∀ k u, L.tok k = some u → L'.tok k = some u) {v : Value} {x : Sv} (hv : SV G L v x) : SV G L' v x := by
  cases x with
  | v a => exact hv
  | lp k off => obtain ⟨blk, h, e⟩ := hv; exact ⟨blk, hb _ _ h, e⟩
  | ow k xs => exact ⟨hv.1, ht _ _ hv.2⟩
  | mv k n => obtain ⟨blk, cap, h, e⟩ := hv; exact ⟨blk, cap, hb _ _ h, e⟩
  | om k n => exact ⟨ht _ _ hv.1, hv.2⟩
  | ov k esz lo n =>
    rcases hv with h0 | ⟨blk, m, c, c', h1, h2⟩
    · exact .inl h0
    · exact .inr ⟨blk, m, c, c', ht _ _ h1, h2⟩
  | ta k off => obtain ⟨blk, m, c, h1, h2⟩ := hv; exact ⟨blk, m, c, ht _ _ h1, h2⟩
  | cd g b a => exact hv
theorem SV.oneCell {G : Gh} {L : Loc} {v : Value} {x : Sv} (hv : SV G L v x) (hf : x.flat = true) : v.oneCell' = true := by
  cases x with
  | v a => exact V.oneCell hv hf
  | lp k off => obtain ⟨blk, h, rfl⟩ := hv; rfl
  | ow k xs => exact V.oneCell hv.1 rfl
  | mv k n => obtain ⟨blk, cap, h, rfl, _⟩ := hv; rfl
  | om k n => obtain ⟨_, a, cap, rfl⟩ := hv; rfl
  | ov k esz lo n => rcases hv with ⟨_, a, c, rfl⟩ | ⟨blk, m, c, c', _, rfl⟩ <;> rfl
  | ta k off => obtain ⟨blk, m, c, _, rfl⟩ := hv; rfl
  | cd g b a => simp [Sv.flat] at hf
/-- What can leave the frame. -/
theorem SV.av {G : Gh} {L : Loc} {v : Value} {x : Sv} {a : AV} (hv : SV G L v x) (h : x.av = some a) : V G v a := by
  cases x with
  | v b => simp [Sv.av] at h; subst h; exact hv
  | lp k off => simp [Sv.av] at h
  | ow k xs => simp [Sv.av] at h; subst h; exact hv.1
  | mv k n => simp [Sv.av] at h
  | om k n => simp [Sv.av] at h
  | ov k esz lo n => simp [Sv.av] at h
  | ta k off => simp [Sv.av] at h
  | cd g b a => simp [Sv.av] at h

/-- Of the old blocks only such may have turned. -/
structure Fr (M : Nat → Prop) (w w' : World) : Prop where
  os : w'.os = w.os
  tape : w'.tape = w.tape
  output : w'.output = w.output
  size : w.heap.size ≤ w'.heap.size
  block : ∀ k, k < w.heap.size → ¬ M k → w'.heap[k]? = w.heap[k]?
theorem Fr.refl (M : Nat → Prop) (w : World) : Fr M w w := ⟨rfl, rfl, rfl, Nat.le_refl _, fun _ _ _ => rfl⟩

/-- A frame began with this; of the old blocks it may turn such. -/
structure Ent where
  G0 : Gh
  w0 : World
  M : Nat → Prop
/-- The package variables are as they are known to be, and no object lies among them. -/
def GE (E : Ent) : Prop := gok E.w0 ∧ gN ≤ E.w0.heap.size ∧ ∀ g, g < gN → ¬ E.M g
def Ent.may (E : Ent) (b : Nat) : Prop := E.w0.heap.size ≤ b ∨ E.M b

/-- A block holds what is said of it. -/
def ObjOK (G : Gh) (L : Loc) (o : Obj) : CV → Prop
  | .bx cs => ∃ arr el, o = .cells arr el (0, 0) ∧ arr.size = cs.length ∧ ∀ (j : Nat) x, cs[j]? = some x → x.flat = true ∧ SV G L (arr.getD j undef) x
  | .ob _ cs => ∃ arr el, o = .cells arr el (0, 0) ∧ arr.size = cs.length ∧ ∀ (j : Nat) x, cs[j]? = some x → x.flat = true ∧ SV G L (arr.getD j undef) x
  | .bt ty cs => ∃ arr, o = .cells arr ty (0, 0) ∧ arr.size = cs.length ∧ ∀ (j : Nat) x, cs[j]? = some x → x.flat = true ∧ SV G L (arr.getD j undef) x
  | .it s pos => o = .stringIter ⟨s.toArray⟩ pos
  | _ => False
theorem ObjOK.mono {G G' : Gh} (h : G.le G') {L : Loc} {o : Obj} {cv : CV} (k : ObjOK G L o cv) : ObjOK G' L o cv := by
  cases cv with
  | bx cs =>
    obtain ⟨arr, el, e, hs, hc⟩ := k
    exact ⟨arr, el, e, hs, fun j x hx => ⟨(hc j x hx).1, (hc j x hx).2.mono h⟩⟩
  | ob id cs =>
    obtain ⟨arr, el, e, hs, hc⟩ := k
    exact ⟨arr, el, e, hs, fun j x hx => ⟨(hc j x hx).1, (hc j x hx).2.mono h⟩⟩
  | bt ty cs =>
    obtain ⟨arr, e, hs, hc⟩ := k
    exact ⟨arr, e, hs, fun j x hx => ⟨(hc j x hx).1, (hc j x hx).2.mono h⟩⟩
  | it s pos => exact k
  | _ => exact k
theorem ObjOK.loc {G : Gh} {L L' : Loc} (hb : ∀ k b, L.box k = some b → L'.box k = some b) (ht : ∀ k u, L.tok k = some u → L'.tok k = some u) {o : Obj} {cv : CV} (k : ObjOK G L o cv) : ObjOK G L' o cv := by
  cases cv with
  | bx cs =>
    obtain ⟨arr, el, e, hs, hc⟩ := k
    exact ⟨arr, el, e, hs, fun j x hx => ⟨(hc j x hx).1, (hc j x hx).2.loc hb ht⟩⟩
  | ob id cs =>
    obtain ⟨arr, el, e, hs, hc⟩ := k
    exact ⟨arr, el, e, hs, fun j x hx => ⟨(hc j x hx).1, (hc j x hx).2.loc hb ht⟩⟩
  | bt ty cs =>
    obtain ⟨arr, e, hs, hc⟩ := k
    exact ⟨arr, e, hs, fun j x hx => ⟨(hc j x hx).1, (hc j x hx).2.loc hb ht⟩⟩
  | it s pos => exact k
  | _ => exact k
/-- A box is the object that it says; or it is new, and no object. -/
def Linked (E : Ent) (G : Gh) (blk : Nat) : Option Nat → Prop
  | some id => G.ob id = some blk
  | none => E.w0.heap.size ≤ blk ∧ ∀ id, G.ob id ≠ some blk
def BoxOK (E : Ent) (G : Gh) (L : Loc) (w : World) (k : Nat) (cv : CV) : Prop :=
  ∃ blk o, L.box k = some blk ∧ E.may blk ∧ w.heap[blk]? = some o ∧ ObjOK G L o cv ∧ (∀ j, G.kn blk j = none) ∧ Linked E G blk cv.link
/-- A box stays, where its block does. -/
theorem BoxOK.stay {E : Ent} {G G' : Gh} {L : Loc} {w w' : World} {k : Nat} {cv : CV} (h : BoxOK E G L w k cv) (hle : G.le G') (hob : ∀ id b, G'.ob id = some b → G.ob id = some b ∨ w.heap.size ≤ b) (hb : ∀ b, L.box k = some b → w'.heap[b]? = w.heap[b]?) (hkn : ∀ b, L.box k = some b → ∀ o, G'.kn b o = G.kn b o) : BoxOK E G' L w' k cv := by
  obtain ⟨blk, o, q1, q2, q3, q4, q5, q6⟩ := h
  refine ⟨blk, o, q1, q2, (hb blk q1).trans q3, q4.mono hle, fun j => (hkn blk q1 j).trans (q5 j), ?_⟩
  cases hl : cv.link with
  | some id => rw [hl] at q6; exact hle.ob _ _ q6
  | none =>
    rw [hl] at q6
    refine ⟨q6.1, fun id e => ?_⟩
    rcases hob id blk e with e | e
    · exact q6.2 id e
    · have := (Array.getElem?_eq_some_iff.1 q3).1; omega
/-- The cells of a row, element for element. -/
def Lay (G : Gh) (esz : Nat) (xs : List AV) (cells : List Value) : Prop :=
  (∀ (i : Nat) (e : AV), xs[i]? = some e → e.cells.length = esz) ∧
  ∀ (i : Nat) (e : AV) (j : Nat) (c : AV), xs[i]? = some e → e.cells[j]? = some c → c.flat = true ∧ V G (cells.getD (i * esz + j) undef) c
theorem Lay.mono {G G' : Gh} (h : G.le G') {esz : Nat} {xs : List AV} {cells : List Value} (k : Lay G esz xs cells) : Lay G' esz xs cells :=
  ⟨k.1, fun i e j c a b => ⟨(k.2 i e j c a b).1, (k.2 i e j c a b).2.mono h⟩⟩
/-- A row of one's own: m: it may be written; else its elements are known. -/
def RowOK (G : Gh) (w : World) (m : Bool) (el esz : Nat) (v : Value) (xs : List AV) : Prop :=
  ∃ cells, (m = false → V G v (.sl xs)) ∧ w.ownsRow 0 el esz v xs.length cells ∧ 0 < esz ∧ Lay G esz xs cells ∧
    ∀ blk, v.ownBlock = some blk → match m with
      | true => ∀ o, G.kn blk o = none
      | false => (∀ o, o < xs.length * esz → G.kn blk o = cells[o]?) ∧ ∀ o, xs.length * esz ≤ o → G.kn blk o = none
theorem RowOK.lt {G : Gh} {w : World} {m : Bool} {el esz : Nat} {v : Value} {xs : List AV} (h : RowOK G w m el esz v xs) {b : Nat} (hb : v.ownBlock = some b) : b < w.heap.size := by
  obtain ⟨cells, _, ho, _⟩ := h
  exact (ho.lt _ hb).2
/-- It stays, where its block does. -/
theorem RowOK.stay {G G' : Gh} {w w' : World} {m : Bool} {el esz : Nat} {v : Value} {xs : List AV} (h : RowOK G w m el esz v xs) (hle : G.le G') (hb : ∀ b, v.ownBlock = some b → w'.heap[b]? = w.heap[b]?) (hkn : ∀ b, v.ownBlock = some b → ∀ o, G'.kn b o = G.kn b o) : RowOK G' w' m el esz v xs := by
  obtain ⟨cells, hV, ho, hz, hL, hk⟩ := h
  refine ⟨cells, fun e => (hV e).mono hle, ⟨ho.1, ?_⟩, hz, hL.mono hle, fun blk e => ?_⟩
  · rcases ho.2 with hnil | ⟨g, cap, cur, rfl, hb0, hgg, rest⟩
    · exact .inl hnil
    · exact .inr ⟨g, cap, cur, rfl, hb0, by rw [hb g rfl]; exact hgg, rest⟩
  · have := hk blk e
    cases m with
    | true => exact fun o => (hkn blk e o).trans (this o)
    | false => exact ⟨fun o h => (hkn blk e o).trans (this.1 o h), fun o h => (hkn blk e o).trans (this.2 o h)⟩
def TokOK (E : Ent) (G : Gh) (L : Loc) (w : World) (k : Nat) (m : Bool) (el esz : Nat) (xs : List AV) : Prop :=
  ∃ v, L.tok k = some v ∧ RowOK G w m el esz v xs ∧ ∀ blk, v.ownBlock = some blk → E.may blk ∧ ∀ id, G.ob id ≠ some blk
/-- Cell j of object id is the slice over a row, and that lies there. -/
def hrow (G : Gh) (H : Hp) (w : World) (id j blk : Nat) : Prop :=
  ∃ cs el esz xs b arr t fr, H.obj id = some cs ∧ cs[j]? = some (.row el esz xs) ∧ G.ob id = some b ∧ w.heap[b]? = some (.cells arr t fr) ∧ (arr.getD j undef).ownBlock = some blk
/-- The blocks of the objects, and of their rows. -/
def foot (G : Gh) (H : Hp) (w : World) (blk : Nat) : Prop := (∃ id, (∃ cs, H.obj id = some cs) ∧ G.ob id = some blk) ∨ ∃ id j, hrow G H w id j blk
def HcOK (G : Gh) (w : World) (v : Value) : Hc → Prop
  | .v a => a.flat = true ∧ V G v a
  | .row el esz xs => RowOK G w true el esz v xs
structure HpOK (G : Gh) (w : World) (H : Hp) : Prop where
  lt : ∀ id b, G.ob id = some b → id < H.next ∧ b < w.heap.size
  inj : ∀ id id' b, G.ob id = some b → G.ob id' = some b → id = id'
  obj : ∀ id cs, H.obj id = some cs → ∃ blk arr el, G.ob id = some blk ∧ w.heap[blk]? = some (.cells arr el (0, 0)) ∧ arr.size = cs.length ∧
    (∀ (j : Nat) x, cs[j]? = some x → HcOK G w (arr.getD j undef) x) ∧ ∀ o, G.kn blk o = none
  apart : ∀ id j blk, hrow G H w id j blk → (∀ id', G.ob id' ≠ some blk) ∧ ∀ id' j', hrow G H w id' j' blk → id' = id ∧ j' = j
theorem HpOK.row {G : Gh} {w : World} {H : Hp} (h : HpOK G w H) {id j blk : Nat} (hr : hrow G H w id j blk) : blk < w.heap.size ∧ ∀ o, G.kn blk o = none := by
  obtain ⟨cs, el, esz, xs, b, arr, t, fr, h1, h2, h3, h4, h5⟩ := hr
  obtain ⟨b', arr', el', q1, q2, q3, q4, q5⟩ := h.obj id cs h1
  rw [h3] at q1; cases q1
  rw [h4] at q2; cases q2
  have hk : RowOK G w true el esz (arr.getD j undef) xs := q4 j _ h2
  have hk2 := hk
  obtain ⟨cells, _, _, _, _, hkn⟩ := hk2
  exact ⟨hk.lt h5, hkn blk h5⟩
theorem HpOK.foot {G : Gh} {w : World} {H : Hp} (h : HpOK G w H) {blk : Nat} (hf : foot G H w blk) : blk < w.heap.size ∧ ∀ o, G.kn blk o = none := by
  rcases hf with ⟨id, ⟨cs, h1⟩, h2⟩ | ⟨id, j, hr⟩
  · obtain ⟨b', arr', el', q1, q2, q3, q4, q5⟩ := h.obj id cs h1
    rw [h2] at q1; cases q1
    exact ⟨(h.lt _ _ h2).2, q5⟩
  · exact h.row hr
/-- Objects stay, where their blocks do. -/
theorem HpOK.stay {G G' : Gh} {w w' : World} {H : Hp} (h : HpOK G w H) (hle : G.le G') (hob : G'.ob = G.ob) (hkn : ∀ b, X.foot G H w b → ∀ o, G'.kn b o = none) (hb : ∀ b, X.foot G H w b → w'.heap[b]? = w.heap[b]?) (hs : w.heap.size ≤ w'.heap.size) :
    HpOK G' w' H ∧ ∀ b, X.foot G' H w' b ↔ X.foot G H w b := by
  have hrw : ∀ id j b, hrow G' H w' id j b ↔ hrow G H w id j b := by
    intro id j b
    constructor
    · rintro ⟨cs, el, esz, xs, b0, arr, t, fr, h1, h2, h3, h4, h5⟩
      rw [hob] at h3
      rw [hb b0 (.inl ⟨id, ⟨cs, h1⟩, h3⟩)] at h4
      exact ⟨cs, el, esz, xs, b0, arr, t, fr, h1, h2, h3, h4, h5⟩
    · rintro ⟨cs, el, esz, xs, b0, arr, t, fr, h1, h2, h3, h4, h5⟩
      refine ⟨cs, el, esz, xs, b0, arr, t, fr, h1, h2, by rw [hob]; exact h3, ?_, h5⟩
      rw [hb b0 (.inl ⟨id, ⟨cs, h1⟩, h3⟩)]; exact h4
  refine ⟨⟨fun id b e => ?_, fun id id' b e e' => h.inj id id' b (by rw [← hob]; exact e) (by rw [← hob]; exact e'), fun id cs e => ?_, fun id j blk hr => ?_⟩, fun b => ?_⟩
  · rw [hob] at e
    exact ⟨(h.lt id b e).1, Nat.lt_of_lt_of_le (h.lt id b e).2 hs⟩
  · obtain ⟨blk, arr, el, q1, q2, q3, q4, q5⟩ := h.obj id cs e
    have hf : X.foot G H w blk := .inl ⟨id, ⟨cs, e⟩, q1⟩
    refine ⟨blk, arr, el, by rw [hob]; exact q1, by rw [hb blk hf]; exact q2, q3, fun j x hx => ?_, hkn blk hf⟩
    have := q4 j x hx
    cases x with
    | v a => exact ⟨this.1, this.2.mono hle⟩
    | row el2 esz xs =>
      have hk : RowOK G w true el2 esz (arr.getD j undef) xs := this
      refine RowOK.stay hk hle (fun b e2 => hb b (.inr ⟨id, j, _, _, _, _, _, _, _, _, e, hx, q1, q2, e2⟩)) (fun b e2 o => ?_)
      have hf2 : X.foot G H w b := .inr ⟨id, j, _, _, _, _, _, _, _, _, e, hx, q1, q2, e2⟩
      rw [hkn b hf2 o, (h.foot hf2).2 o]
  · rw [hrw] at hr
    obtain ⟨h1, h2⟩ := h.apart id j blk hr
    exact ⟨fun id' => by rw [hob]; exact h1 id', fun id' j' hr' => h2 id' j' ((hrw _ _ _).1 hr')⟩
  · unfold X.foot
    rw [hob]
    simp only [hrw]

/-- What is the frame's own, and where. -/
def owns (s : St) (L : Loc) (c : Comp) (blk : Nat) : Prop :=
  match c with
  | .b k => (∃ cv, get s (.b k) = some cv ∧ cv.live = true) ∧ L.box k = some blk
  | .t k => (∃ m el esz xs, get s (.t k) = some (.tk m el esz xs)) ∧ ∃ v, L.tok k = some v ∧ v.ownBlock = some blk
  | _ => False

/-- A frame and a world fit a state. -/
structure Rel (E : Ent) (N : Nat) (G : Gh) (L : Loc) (a : Act) (w : World) (s : St) : Prop where
  size : a.tmps.size = N
  defs : a.defers = []
  ge : GE E
  kn : ∀ b o v, G.kn b o = some v → w.cell? ⟨b, o, none⟩ = some v
  old : ∀ b o, b < E.w0.heap.size → ¬ E.M b → G.kn b o = E.G0.kn b o
  obs : ∀ id b, E.G0.ob id = some b → G.ob id = some b
  obn : ∀ id b, G.ob id = some b → E.G0.ob id = some b ∨ E.w0.heap.size ≤ b
  fr : Fr E.M E.w0 w
  slot : ∀ n x, get s (.s n) = some (.sv x) → SV G L (a.tmps.getD n undef) x
  box : ∀ k cv, get s (.b k) = some cv → cv.live = true → BoxOK E G L w k cv
  tok : ∀ k m el esz xs, get s (.t k) = some (.tk m el esz xs) → TokOK E G L w k m el esz xs
  disj : ∀ c d blk, owns s L c blk → owns s L d blk → c = d
  heap : ∃ H, get s .h = some (.hp H) ∧ HpOK G w H ∧ ∀ b, foot G H w b → E.may b
  hdisj : ∀ c blk, owns s L c blk → ∀ H, get s .h = some (.hp H) → ¬ foot G H w blk
  nobox : ∀ k, get s (.b k) = none → L.box k = none
  notok : ∀ k, get s (.t k) = none → L.tok k = none

/-- Only what is got of a state counts. -/
theorem Rel.ext {E : Ent} {N : Nat} {G : Gh} {L : Loc} {a : Act} {w : World} {s t : St} (h : Rel E N G L a w s) (e : ∀ c, get t c = get s c) : Rel E N G L a w t := by
  have ho : ∀ c blk, owns t L c blk → owns s L c blk := by
    intro c blk hc
    cases c <;> simp only [owns, e] at hc ⊢ <;> exact hc
  exact ⟨h.size, h.defs, h.ge, h.kn, h.old, h.obs, h.obn, h.fr, fun n x g => h.slot n x (by rw [← e]; exact g), fun k cv g => h.box k cv (by rw [← e]; exact g),
    fun k m el esz xs g => h.tok k m el esz xs (by rw [← e]; exact g), fun c d blk hc hd => h.disj c d blk (ho _ _ hc) (ho _ _ hd), (by rw [e]; exact h.heap),
    fun c blk hc H g => h.hdisj c blk (ho _ _ hc) H (by rw [← e]; exact g), fun k g => h.nobox k (by rw [← e]; exact g), fun k g => h.notok k (by rw [← e]; exact g)⟩

theorem Rel.base_le {E : Ent} {N : Nat} {G : Gh} {L : Loc} {a : Act} {w : World} {s : St} (h : Rel E N G L a w s) : E.w0.heap.size ≤ w.heap.size := h.fr.size
theorem Rel.knlt {E : Ent} {N : Nat} {G : Gh} {L : Loc} {a : Act} {w : World} {s : St} (h : Rel E N G L a w s) {b o : Nat} {v : Value} (e : G.kn b o = some v) : b < w.heap.size :=
  World.block_lt_of_cell? w _ (h.kn b o v e)

/-- A slot gets a value; the world stays. -/
theorem Rel.put {E : Ent} {N : Nat} {G : Gh} {L : Loc} {a : Act} {w : World} {s : St} (h : Rel E N G L a w s) (d : Nat) (hd : d < N) (v : Value) (x : Sv) (hv : SV G L v x) :
    Rel E N G L (a.put (some d) v) w ((.s d, .sv x) :: s) := by
  have ho : ∀ c blk, owns ((.s d, .sv x) :: s) L c blk → owns s L c blk := by
    intro c blk hc
    cases c <;> simp only [owns, get, reduceCtorEq, if_false] at hc ⊢ <;> exact hc
  refine ⟨by simpa [Act.put] using h.size, by simpa [Act.put] using h.defs, h.ge, h.kn, h.old, h.obs, h.obn, h.fr, ?_, fun k cv g => h.box k cv (by simpa [get] using g),
    fun k m el esz xs g => h.tok k m el esz xs (by simpa [get] using g), fun c d blk hc hd => h.disj c d blk (ho _ _ hc) (ho _ _ hd), (by simpa [get] using h.heap),
    fun c blk hc H g => h.hdisj c blk (ho _ _ hc) H (by simpa [get] using g), fun k g => h.nobox k (by simpa [get] using g), fun k g => h.notok k (by simpa [get] using g)⟩
  intro n y g
  have hsz := h.size
  by_cases e : d = n
  · subst e
    simp [get] at g
    subst g
    have : (a.put (some d) v).tmps.getD d undef = v := by
      simp only [Act.put, Array.getD_eq_getD_getElem?]
      rw [Array.getElem?_setIfInBounds_self_of_lt (by omega)]
      rfl
    rw [this]; exact hv
  · simp [get, e] at g
    have : (a.put (some d) v).tmps.getD n undef = a.tmps.getD n undef := by
      simp only [Act.put, Array.getD_eq_getD_getElem?]
      rw [Array.getElem?_setIfInBounds_ne (by omega)]
    rw [this]; exact h.slot n y g
/-- Nothing is asked of a slot any more. -/
theorem Rel.drop {E : Ent} {N : Nat} {G : Gh} {L : Loc} {a : Act} {w : World} {s : St} (h : Rel E N G L a w s) (d : Option Nat) (v : Value) :
    Rel E N G L (a.put d v) w (match d with | some d => (.s d, .gone) :: s | none => s) := by
  cases d with
  | none => exact h
  | some d =>
    have ho : ∀ c blk, owns ((.s d, .gone) :: s) L c blk → owns s L c blk := by
      intro c blk hc
      cases c <;> simp only [owns, get, reduceCtorEq, if_false] at hc ⊢ <;> exact hc
    refine ⟨by simpa [Act.put] using h.size, by simpa [Act.put] using h.defs, h.ge, h.kn, h.old, h.obs, h.obn, h.fr, ?_, fun k cv g => h.box k cv (by simpa [get] using g),
      fun k m el esz xs g => h.tok k m el esz xs (by simpa [get] using g), fun c d blk hc hd => h.disj c d blk (ho _ _ hc) (ho _ _ hd), (by simpa [get] using h.heap),
      fun c blk hc H g => h.hdisj c blk (ho _ _ hc) H (by simpa [get] using g), fun k g => h.nobox k (by simpa [get] using g), fun k g => h.notok k (by simpa [get] using g)⟩
    intro n y g
    by_cases e : d = n
    · subst e
      simp [get] at g
    · simp [get, e] at g
      have : (a.put (some d) v).tmps.getD n undef = a.tmps.getD n undef := by
        simp only [Act.put, Array.getD_eq_getD_getElem?]
        rw [Array.getElem?_setIfInBounds_ne (by omega)]
      rw [this]; exact h.slot n y g
end Go.Proofs.YthoncmadikifnaaDoor.X
