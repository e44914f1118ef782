/- The package variables of the program: what is known of those that the library's decoder of texts reads. No condition. -/
import Derived.Test.YtgmdapgedlachaaGreatDoorProg
import Derived.Orders
import Derived.KernelRfl
import Derived.Shelf.Unicode.DecodeSlow
import Derived.Laws.OwnMore
import Derived.Maps.AppendAt
import Derived.Below
import Derived.WalkKit
import Derived.Laws.StructEq
import Derived.Lib.ConvBytes
import Derived.Deep.LoopGhost
namespace Go.Proofs.YtgmdapgedlachaaGreatDoor.X
open Go
def gN : Nat := 2
def KM (w : World) : Prop := Lib.Utf8Tabs 0 1 w
theorem kK {w w' : World} {b : Nat} (h : w'.heap[b]? = w.heap[b]?) (o : Nat) : w'.cell? ⟨b, o, none⟩ = w.cell? ⟨b, o, none⟩ := by
 simp only [World.cell?, h]
theorem JY {w w' : World} (h : ∀ k, k < gN → w'.heap[k]? = w.heap[k]?) (k : KM w) : KM w' := by
 obtain ⟨h1, h2⟩ := k
 refine ⟨fun c hc => ?_, fun i hi => ?_⟩
 ·rw [kK (h 0 (by decide))]; exact h1 c hc
 ·rw [kK (h 1 (by decide)), kK (h 1 (by decide))]; exact h2 i hi
theorem M0 {w : World} (h : KM w) : Lib.Utf8Tabs 0 1 w := h
open Go Go.RowKit

inductive AV where
 | bool (b : Bool)
 | int (k : IntKind) (n : Int)
 | str (s : List UInt8)
 | sl (xs : List AV)
 | agg (cs : List AV)
 | tup (vs : List AV)
 | nilp
 | nsl
 | sll (n : Nat)
 | kp (cs : List AV)
 | op (id off : Nat)
 | os (id n c : Nat)
 | fn (f : FuncId) (caps : List AV)
 | nilf
 | yf (l : Nat)
 | ifc (t : TypeId) (v : AV)
 | nili
 | junk
 deriving Inhabited

def AV.flat : AV → Bool
 | .agg _ | .tup _ => false
 | _ => true
def AV.cells : AV → List AV
 | .agg cs => cs
 | v => [v]

structure Gh where
 kn : Nat → Nat → Option Value
 ob : Nat → Option Nat
 sz : Nat → Nat

inductive V (G : Gh) : Value → AV → Prop where
 | bool (b : Bool) : V G (.bool b) (.bool b)
 | int (k : IntKind) (n : Int) : V G (.int k n) (.int k n)
 | str (s : List UInt8) : V G (.string ⟨s.toArray⟩) (.str s)
 | junk (v : Value) (h : v.oneCell' = true) : V G v .junk
 | nilp : V G (.pointer none) .nilp
 | nsl : V G (.slice none 0 0) .nsl
 | sll (a : Option Addr) (n cap : Nat) : V G (.slice a n cap) (.sll n)
 | kp (b off : Nat) (cs : List AV) (vs : Nat → Value)
   (hk : ∀ (j : Nat) (c : AV), cs[j]? = some c → G.kn b (off + j) = some (vs j))
   (hf : ∀ (j : Nat) (c : AV), cs[j]? = some c → c.flat = true)
   (hv : ∀ (j : Nat) (c : AV), cs[j]? = some c → V G (vs j) c) : V G (.pointer (some ⟨b, off, none⟩)) (.kp cs)
 | op (id off b : Nat) (h : G.ob id = some b) : V G (.pointer (some ⟨b, off, none⟩)) (.op id off)
 | os (id n e b c : Nat) (h : G.ob id = some b) (hn : n ≤ c) (hz : c * e ≤ G.sz id) : V G (.slice (some ⟨b, 0, none⟩) n c) (.os id n e)
 | slE (a : Option Addr) (cap : Nat) : V G (.slice a 0 cap) (.sl [])
 | slN (b off cap esz : Nat) (xs : List AV) (vs : Nat → Nat → Value) (hc : xs.length ≤ cap)
   (he : ∀ (i : Nat) (e : AV), xs[i]? = some e → e.cells.length = esz)
   (hk : ∀ (i : Nat) (e : AV) (j : Nat) (c : AV), xs[i]? = some e → e.cells[j]? = some c → G.kn b (off + i * esz + j) = some (vs i j))
   (hf : ∀ (i : Nat) (e : AV) (j : Nat) (c : AV), xs[i]? = some e → e.cells[j]? = some c → c.flat = true)
   (hv : ∀ (i : Nat) (e : AV) (j : Nat) (c : AV), xs[i]? = some e → e.cells[j]? = some c → V G (vs i j) c) : V G (.slice (some ⟨b, off, none⟩) xs.length cap) (.sl xs)
 | agg (vs : Array Value) (cs : List AV) (hl : vs.size = cs.length) (hf : ∀ (j : Nat) (c : AV), cs[j]? = some c → c.flat = true)
   (hv : ∀ (j : Nat) (c : AV), cs[j]? = some c → V G (vs.getD j undef) c) : V G (.agg vs) (.agg cs)
 | tup (vs : Array Value) (cs : List AV) (hl : vs.size = cs.length)
   (hv : ∀ (j : Nat) (c : AV), cs[j]? = some c → V G (vs.getD j undef) c) : V G (.tuple vs) (.tup cs)
 | fn (f : FuncId) (vs : Array Value) (cs : List AV) (hl : vs.size = cs.length)
   (hv : ∀ (j : Nat) (c : AV), cs[j]? = some c → V G (vs.getD j undef) c) : V G (.func (.func f) #[] vs) (.fn f cs)
 | nilf : V G .nilFunc .nilf
 | yf (l : Nat) : V G (.func (.yield l) #[] #[]) (.yf l)
 | ifc (t : TypeId) (v : Value) (a : AV) (h : V G v a) : V G (.iface t v) (.ifc t a)
 | nili : V G .nilIface .nili

structure Gh.le (G G' : Gh) : Prop where
 kn : ∀ b o v, G.kn b o = some v → G'.kn b o = some v
 ob : ∀ id b, G.ob id = some b → G'.ob id = some b
 sz : ∀ id b, G.ob id = some b → G'.sz id = G.sz id
theorem Gh.le.refl (G : Gh) : G.le G := ⟨fun _ _ _ h => h, fun _ _ h => h, fun _ _ _ => rfl⟩
theorem V.mono {G G' : Gh} (h : G.le G') {v : Value} {a : AV} (hv : V G v a) : V G' v a := by
 induction hv with
 | bool b => exact .bool b
 | int k n => exact .int k n
 | str s => exact .str s
 | junk v h => exact .junk v h
 | nilp => exact .nilp
 | nsl => exact .nsl
 | sll a n cap => exact .sll a n cap
 | kp b off cs vs hk hf _ ih => exact .kp b off cs vs (fun j c e => h.kn _ _ _ (hk j c e)) hf ih
 | op id off b e => exact .op id off b (h.ob _ _ e)
 | os id n s b c e hn hz => exact .os id n s b c (h.ob _ _ e) hn (by rw [h.sz _ _ e]; exact hz)
 | slE a cap => exact .slE a cap
 | slN b off cap esz xs vs hc he hk hf _ ih => exact .slN b off cap esz xs vs hc he (fun i e j c h1 h2 => h.kn _ _ _ (hk i e j c h1 h2)) hf ih
 | agg vs cs hl hf _ ih => exact .agg vs cs hl hf ih
 | tup vs cs hl _ ih => exact .tup vs cs hl ih
 | fn f vs cs hl _ ih => exact .fn f vs cs hl ih
 | nilf => exact .nilf
 | yf l => exact .yf l
 | ifc t v a _ ih => exact .ifc t v a ih
 | nili => exact .nili

theorem V.fX {G : Gh} {v : Value} {a : AV} (hv : V G v a) (hf : a.flat = true) : v.oneCell' = true := by
 cases hv <;> first | rfl | assumption | (simp [AV.flat] at hf)

theorem AV.gm {a : AV} (h : a.flat = true) : a.cells = [a] := by cases a <;> first | rfl | (simp [AV.flat] at h)
theorem kv {v : Value} (h : v.oneCell' = true) : v.cells = #[v] := by cases v <;> first | rfl | (simp [Value.oneCell'] at h)
theorem V.cells {G : Gh} {v : Value} {a : AV} (hv : V G v a) (ht : ∀ vs, a ≠ .tup vs) : v.cells.size = a.cells.length ∧ (∀ (j : Nat) (c : AV), a.cells[j]? = some c → c.flat = true ∧ V G (v.cells.getD j undef) c) := by
 by_cases hf : a.flat = true
 ·rw [AV.gm hf, kv (hv.fX hf)]
  refine ⟨rfl, fun j c hc => ?_⟩
  cases j with
  | zero => simp at hc; subst hc; exact ⟨hf, hv⟩
  | succ j => simp at hc
 ·cases hv
  case agg vs cs hl hf2 hv => exact ⟨hl, fun j c h => ⟨hf2 j c h, hv j c h⟩⟩
  case tup => exact absurd rfl (ht _)
  all_goals exact absurd rfl hf

inductive Sv where
 | v (a : AV)
 | lp (k off : Nat)
 | ow (k : Nat) (xs : List AV)
 | mv (k n : Nat)
 | om (k n : Nat)
 | ov (k esz lo n : Nat)
 | ta (k off : Nat)
 | mp (k : Nat)
 | cd (g : Nat) (b : Bool) (a : AV)
 deriving Inhabited
def Sv.av : Sv → Option AV
 | .v a => some a
 | .ow _ xs => some (.sl xs)
 | _ => none
def Sv.flat : Sv → Bool
 | .v a => a.flat
 | .cd _ _ _ => false
 | _ => true

inductive Hc where
 | v (a : AV)
 | row (el esz : Nat) (xs : List AV)
structure Hp where
 next : Nat
 obj : Nat → Option (List Hc)

inductive aI where
 | s (n : Nat) | b (n : Nat) | t (n : Nat) | h
 deriving DecidableEq
inductive CV where
 | sv (x : Sv)
 | bx (cs : List Sv)
 | ob (id : Nat) (cs : List Sv)
 | bt (ty : TypeId) (cs : List Sv)
 | it (s : List UInt8) (pos : Nat)
 | tk (m : Bool) (el esz : Nat) (xs : List AV)
 | raw (Φ : Obj → Prop)
 | hp (H : Hp)
 | gone
def CV.live : CV → Bool
 | .bx _ | .ob _ _ | .it _ _ | .bt _ _ | .raw _ => true
 | _ => false
def CV.link : CV → Option Nat
 | .ob id _ => some id
 | _ => none
def CV.AP : CV → Option (List Sv)
 | .bx cs => some cs
 | .ob _ cs => some cs
 | _ => none
def CV.cM : CV → List Sv → CV
 | .ob id _, cs => .ob id cs
 | _, cs => .bx cs
abbrev St := List (aI × CV)
def get : St → aI → Option CV
 | [], _ => none
 | (c, v) :: s, d => if c = d then some v else get s d
theorem get_append (s t : St) (d : aI) : get (s ++ t) d = match get s d with | some v => some v | none => get t d := by
 induction s with
 | nil => simp [get]
 | cons x s ih =>
  obtain ⟨c, v⟩ := x
  simp only [List.cons_append, get]
  split
  ·rfl
  ·exact ih

structure Loc where
 box : Nat → Option Nat
 tok : Nat → Option Value

def SV (G : Gh) (L : Loc) (v : Value) : Sv → Prop
 | .v a => V G v a
 | .lp k off => ∃ blk, L.box k = some blk ∧ v = .pointer (some ⟨blk, off, none⟩)
 | .ow k xs => V G v (.sl xs) ∧ L.tok k = some v
 | .mv k n => ∃ blk cap, L.box k = some blk ∧ v = .slice (some ⟨blk, 0, none⟩) n cap ∧ n ≤ cap
 | .om k n => L.tok k = some v ∧ ∃ a cap, v = .slice a n cap
 | .ov k esz lo n => (n = 0 ∧ ∃ a c, v = .slice a 0 c) ∨ ∃ blk m c c', L.tok k = some (.slice (some ⟨blk, 0, none⟩) m c) ∧ v = .slice (some ⟨blk, lo * esz, none⟩) n c'
 | .ta k off => ∃ blk m c, L.tok k = some (.slice (some ⟨blk, 0, none⟩) m c) ∧ v = .pointer (some ⟨blk, off, none⟩)
 | .mp k => ∃ blk, L.box k = some blk ∧ v = .map (some blk)
 | .cd _ b a => b = true → V G v a

theorem SV.mono {G G' : Gh} (h : G.le G') {L : Loc} {v : Value} {x : Sv} (hv : SV G L v x) : SV G' L v x := by
 cases x with
 | v a => exact V.mono h hv
 | lp k off => exact hv
 | ow k xs => exact ⟨V.mono h hv.1, hv.2⟩
 | mv k n => exact hv
 | om k n => exact hv
 | ov k esz lo n => exact hv
 | ta k off => exact hv
 | mp k => exact hv
 | cd g b a => exact fun e => V.mono h (hv e)
theorem SV.loc {G : Gh} {L L' : Loc} (hb : ∀ k b, L.box k = some b → L'.box k = some b) (ht : ∀ k u, L.tok k = some u → L'.tok k = some u) {v : Value} {x : Sv} (hv : SV G L v x) : SV G L' v x := by
 cases x with
 | v a => exact hv
 | lp k off => obtain ⟨blk, h, e⟩ := hv; exact ⟨blk, hb _ _ h, e⟩
 | ow k xs => exact ⟨hv.1, ht _ _ hv.2⟩
 | mv k n => obtain ⟨blk, cap, h, e⟩ := hv; exact ⟨blk, cap, hb _ _ h, e⟩
 | om k n => exact ⟨ht _ _ hv.1, hv.2⟩
 | ov k esz lo n =>
  rcases hv with h0 | ⟨blk, m, c, c', h1, h2⟩
  ·exact .inl h0
  ·exact .inr ⟨blk, m, c, c', ht _ _ h1, h2⟩
 | ta k off => obtain ⟨blk, m, c, h1, h2⟩ := hv; exact ⟨blk, m, c, ht _ _ h1, h2⟩
 | mp k => obtain ⟨blk, h, e⟩ := hv; exact ⟨blk, hb _ _ h, e⟩
 | cd g b a => exact hv
theorem SV.fX {G : Gh} {L : Loc} {v : Value} {x : Sv} (hv : SV G L v x) (hf : x.flat = true) : v.oneCell' = true := by
 cases x with
 | v a => exact V.fX hv hf
 | lp k off => obtain ⟨blk, h, rfl⟩ := hv; rfl
 | ow k xs => exact V.fX hv.1 rfl
 | mv k n => obtain ⟨blk, cap, h, rfl, _⟩ := hv; rfl
 | om k n => obtain ⟨_, a, cap, rfl⟩ := hv; rfl
 | ov k esz lo n => rcases hv with ⟨_, a, c, rfl⟩ | ⟨blk, m, c, c', _, rfl⟩ <;> rfl
 | ta k off => obtain ⟨blk, m, c, _, rfl⟩ := hv; rfl
 | mp k => obtain ⟨blk, h, rfl⟩ := hv; rfl
 | cd g b a => simp [Sv.flat] at hf
theorem SV.av {G : Gh} {L : Loc} {v : Value} {x : Sv} {a : AV} (hv : SV G L v x) (h : x.av = some a) : V G v a := by
 cases x with
 | v b => simp [Sv.av] at h; subst h; exact hv
 | lp k off => simp [Sv.av] at h
 | ow k xs => simp [Sv.av] at h; subst h; exact hv.1
 | mv k n => simp [Sv.av] at h
 | om k n => simp [Sv.av] at h
 | ov k esz lo n => simp [Sv.av] at h
 | ta k off => simp [Sv.av] at h
 | mp k => simp [Sv.av] at h
 | cd g b a => simp [Sv.av] at h

structure Fr (M : Nat → Prop) (w w' : World) : Prop where
 os : w'.os = w.os
 tape : w'.tape = w.tape
 output : w'.output = w.output
 size : w.heap.size ≤ w'.heap.size
 block : ∀ k, k < w.heap.size → ¬ M k → w'.heap[k]? = w.heap[k]?
theorem Fr.refl (M : Nat → Prop) (w : World) : Fr M w w := ⟨rfl, rfl, rfl, Nat.le_refl _, fun _ _ _ => rfl⟩

structure eB where
 G0 : Gh
 w0 : World
 M : Nat → Prop
 ds : List Deferred
def GE (E : eB) : Prop := KM E.w0 ∧ gN ≤ E.w0.heap.size ∧ ∀ g, g < gN → ¬ E.M g
def eB.may (E : eB) (b : Nat) : Prop := E.w0.heap.size ≤ b ∨ E.M b

def iM (G : Gh) (L : Loc) (o : Obj) : CV → Prop
 | .bx cs => ∃ arr el, o = .cells arr el (0, 0) ∧ arr.size = cs.length ∧ ∀ (j : Nat) x, cs[j]? = some x → x.flat = true ∧ SV G L (arr.getD j undef) x
 | .ob id cs => ∃ arr el, o = .cells arr el (0, 0) ∧ (cs.length ≤ arr.size ∧ arr.size = G.sz id) ∧ ∀ (j : Nat) x, cs[j]? = some x → x.flat = true ∧ SV G L (arr.getD j undef) x
 | .bt ty cs => ∃ arr, o = .cells arr ty (0, 0) ∧ arr.size = cs.length ∧ ∀ (j : Nat) x, cs[j]? = some x → x.flat = true ∧ SV G L (arr.getD j undef) x
 | .it s pos => o = .stringIter ⟨s.toArray⟩ pos
 | .raw Φ => Φ o
 | _ => False
theorem iM.mono {G G' : Gh} (h : G.le G') {L : Loc} {o : Obj} {cv : CV} (hl : ∀ id, cv.link = some id → ∃ b, G.ob id = some b) (k : iM G L o cv) : iM G' L o cv := by
 cases cv with
 | bx cs =>
  obtain ⟨arr, el, e, hs, hc⟩ := k
  exact ⟨arr, el, e, hs, fun j x hx => ⟨(hc j x hx).1, (hc j x hx).2.mono h⟩⟩
 | ob id cs =>
  obtain ⟨arr, el, e, hs, hc⟩ := k
  obtain ⟨b, hb⟩ := hl id rfl
  exact ⟨arr, el, e, ⟨hs.1, hs.2.trans (h.sz id b hb).symm⟩, fun j x hx => ⟨(hc j x hx).1, (hc j x hx).2.mono h⟩⟩
 | bt ty cs =>
  obtain ⟨arr, e, hs, hc⟩ := k
  exact ⟨arr, e, hs, fun j x hx => ⟨(hc j x hx).1, (hc j x hx).2.mono h⟩⟩
 | it s pos => exact k
 | _ => exact k
theorem iM.loc {G : Gh} {L L' : Loc} (hb : ∀ k b, L.box k = some b → L'.box k = some b) (ht : ∀ k u, L.tok k = some u → L'.tok k = some u) {o : Obj} {cv : CV} (k : iM G L o cv) : iM G L' o cv := by
 cases cv with
 | bx cs =>
  obtain ⟨arr, el, e, hs, hc⟩ := k
  exact ⟨arr, el, e, hs, fun j x hx => ⟨(hc j x hx).1, (hc j x hx).2.loc hb ht⟩⟩
 | ob id cs =>
  obtain ⟨arr, el, e, hs, hc⟩ := k
  exact ⟨arr, el, e, hs, fun j x hx => ⟨(hc j x hx).1, (hc j x hx).2.loc hb ht⟩⟩
 | bt ty cs =>
  obtain ⟨arr, e, hs, hc⟩ := k
  exact ⟨arr, e, hs, fun j x hx => ⟨(hc j x hx).1, (hc j x hx).2.loc hb ht⟩⟩
 | it s pos => exact k
 | _ => exact k
def HE (E : eB) (G : Gh) (blk : Nat) : Option Nat → Prop
 | some id => G.ob id = some blk
 | none => E.w0.heap.size ≤ blk ∧ ∀ id, G.ob id ≠ some blk
theorem pX {E : eB} {G : Gh} {blk : Nat} {l : Option Nat} (h : HE E G blk l) : ∀ id, l = some id → ∃ b, G.ob id = some b := fun id e => by subst e; exact ⟨blk, h⟩
def tf (E : eB) (G : Gh) (L : Loc) (w : World) (k : Nat) (cv : CV) : Prop :=
 ∃ blk o, L.box k = some blk ∧ E.may blk ∧ w.heap[blk]? = some o ∧ iM G L o cv ∧ (∀ j, G.kn blk j = none) ∧ HE E G blk cv.link
theorem tf.stay {E : eB} {G G' : Gh} {L : Loc} {w w' : World} {k : Nat} {cv : CV} (h : tf E G L w k cv) (hle : G.le G') (hob : ∀ id b, G'.ob id = some b → (∃ i, G.ob i = some b) ∨ w.heap.size ≤ b) (hb : ∀ b, L.box k = some b → w'.heap[b]? = w.heap[b]?) (hkn : ∀ b, L.box k = some b → ∀ o, G'.kn b o = G.kn b o) : tf E G' L w' k cv := by
 obtain ⟨blk, o, q1, q2, q3, q4, q5, q6⟩ := h
 refine ⟨blk, o, q1, q2, (hb blk q1).trans q3, q4.mono hle (pX q6), fun j => (hkn blk q1 j).trans (q5 j), ?_⟩
 cases hl : cv.link with
 | some id => rw [hl] at q6; exact hle.ob _ _ q6
 | none =>
  rw [hl] at q6
  refine ⟨q6.1, fun id e => ?_⟩
  rcases hob id blk e with ⟨i, e⟩ | e
  ·exact q6.2 i e
  ·have := (Array.getElem?_eq_some_iff.1 q3).1; omega
def Lay (G : Gh) (esz : Nat) (xs : List AV) (cells : List Value) : Prop :=
 (∀ (i : Nat) (e : AV), xs[i]? = some e → e.cells.length = esz) ∧
 ∀ (i : Nat) (e : AV) (j : Nat) (c : AV), xs[i]? = some e → e.cells[j]? = some c → c.flat = true ∧ V G (cells.getD (i * esz + j) undef) c
theorem Lay.mono {G G' : Gh} (h : G.le G') {esz : Nat} {xs : List AV} {cells : List Value} (k : Lay G esz xs cells) : Lay G' esz xs cells :=
 ⟨k.1, fun i e j c a b => ⟨(k.2 i e j c a b).1, (k.2 i e j c a b).2.mono h⟩⟩
def fG (G : Gh) (w : World) (m : Bool) (el esz : Nat) (v : Value) (xs : List AV) : Prop :=
 ∃ cells, (m = false → V G v (.sl xs)) ∧ w.ownsRow 0 el esz v xs.length cells ∧ 0 < esz ∧ Lay G esz xs cells ∧
  ∀ blk, v.ownBlock = some blk → match m with
   | true => ∀ o, G.kn blk o = none
   | false => (∀ o, o < xs.length * esz → G.kn blk o = cells[o]?) ∧ ∀ o, xs.length * esz ≤ o → G.kn blk o = none
theorem fG.lt {G : Gh} {w : World} {m : Bool} {el esz : Nat} {v : Value} {xs : List AV} (h : fG G w m el esz v xs) {b : Nat} (hb : v.ownBlock = some b) : b < w.heap.size := by
 obtain ⟨cells, _, ho, _⟩ := h
 exact (ho.lt _ hb).2
theorem fG.stay {G G' : Gh} {w w' : World} {m : Bool} {el esz : Nat} {v : Value} {xs : List AV} (h : fG G w m el esz v xs) (hle : G.le G') (hb : ∀ b, v.ownBlock = some b → w'.heap[b]? = w.heap[b]?) (hkn : ∀ b, v.ownBlock = some b → ∀ o, G'.kn b o = G.kn b o) : fG G' w' m el esz v xs := by
 obtain ⟨cells, hV, ho, hz, hL, hk⟩ := h
 refine ⟨cells, fun e => (hV e).mono hle, ⟨ho.1, ?_⟩, hz, hL.mono hle, fun blk e => ?_⟩
 ·rcases ho.2 with hnil | ⟨g, cap, cur, rfl, hb0, hgg, rest⟩
  ·exact .inl hnil
  ·exact .inr ⟨g, cap, cur, rfl, hb0, by rw [hb g rfl]; exact hgg, rest⟩
 ·have := hk blk e
  cases m with
  | true => exact fun o => (hkn blk e o).trans (this o)
  | false => exact ⟨fun o h => (hkn blk e o).trans (this.1 o h), fun o h => (hkn blk e o).trans (this.2 o h)⟩
def Bl (E : eB) (G : Gh) (L : Loc) (w : World) (k : Nat) (m : Bool) (el esz : Nat) (xs : List AV) : Prop :=
 ∃ v, L.tok k = some v ∧ fG G w m el esz v xs ∧ ∀ blk, v.ownBlock = some blk → E.may blk ∧ ∀ id, G.ob id ≠ some blk
def bw (G : Gh) (H : Hp) (w : World) (id j blk : Nat) : Prop :=
 ∃ cs el esz xs b arr t fr, H.obj id = some cs ∧ cs[j]? = some (.row el esz xs) ∧ G.ob id = some b ∧ w.heap[b]? = some (.cells arr t fr) ∧ (arr.getD j undef).ownBlock = some blk
def aa (G : Gh) (H : Hp) (w : World) (blk : Nat) : Prop := (∃ id, (∃ cs, H.obj id = some cs) ∧ G.ob id = some blk) ∨ ∃ id j, bw G H w id j blk
def Mk (G : Gh) (w : World) (v : Value) : Hc → Prop
 | .v a => a.flat = true ∧ V G v a
 | .row el esz xs => fG G w true el esz v xs
structure dz (G : Gh) (w : World) (H : Hp) : Prop where
 lt : ∀ id b, G.ob id = some b → id < H.next ∧ b < w.heap.size
 inj : ∀ id id' b, G.ob id = some b → G.ob id' = some b → (∃ cs, H.obj id = some cs) → (∃ cs, H.obj id' = some cs) → id = id'
 obj : ∀ id cs, H.obj id = some cs → ∃ blk arr el, G.ob id = some blk ∧ w.heap[blk]? = some (.cells arr el (0, 0)) ∧ (cs.length ≤ arr.size ∧ arr.size = G.sz id) ∧
  (∀ (j : Nat) x, cs[j]? = some x → Mk G w (arr.getD j undef) x) ∧ ∀ o, G.kn blk o = none
 apart : ∀ id j blk, bw G H w id j blk → (∀ id', G.ob id' ≠ some blk) ∧ ∀ id' j', bw G H w id' j' blk → id' = id ∧ j' = j
theorem dz.row {G : Gh} {w : World} {H : Hp} (h : dz G w H) {id j blk : Nat} (hr : bw G H w id j blk) : blk < w.heap.size ∧ ∀ o, G.kn blk o = none := by
 obtain ⟨cs, el, esz, xs, b, arr, t, fr, h1, h2, h3, h4, h5⟩ := hr
 obtain ⟨b', arr', el', q1, q2, q3, q4, q5⟩ := h.obj id cs h1
 rw [h3] at q1; cases q1
 rw [h4] at q2; cases q2
 have hk : fG G w true el esz (arr.getD j undef) xs := q4 j _ h2
 have hk2 := hk
 obtain ⟨cells, _, _, _, _, hkn⟩ := hk2
 exact ⟨hk.lt h5, hkn blk h5⟩
theorem dz.aa {G : Gh} {w : World} {H : Hp} (h : dz G w H) {blk : Nat} (hf : aa G H w blk) : blk < w.heap.size ∧ ∀ o, G.kn blk o = none := by
 rcases hf with ⟨id, ⟨cs, h1⟩, h2⟩ | ⟨id, j, hr⟩
 ·obtain ⟨b', arr', el', q1, q2, q3, q4, q5⟩ := h.obj id cs h1
  rw [h2] at q1; cases q1
  exact ⟨(h.lt _ _ h2).2, q5⟩
 ·exact h.row hr
theorem dz.stay {G G' : Gh} {w w' : World} {H : Hp} (h : dz G w H) (hle : G.le G') (hob : G'.ob = G.ob) (hkn : ∀ b, X.aa G H w b → ∀ o, G'.kn b o = none) (hb : ∀ b, X.aa G H w b → w'.heap[b]? = w.heap[b]?) (hs : w.heap.size ≤ w'.heap.size) :
  dz G' w' H ∧ ∀ b, X.aa G' H w' b ↔ X.aa G H w b := by
 have hrw : ∀ id j b, bw G' H w' id j b ↔ bw G H w id j b := by
  intro id j b
  constructor
  ·rintro ⟨cs, el, esz, xs, b0, arr, t, fr, h1, h2, h3, h4, h5⟩
   rw [hob] at h3
   rw [hb b0 (.inl ⟨id, ⟨cs, h1⟩, h3⟩)] at h4
   exact ⟨cs, el, esz, xs, b0, arr, t, fr, h1, h2, h3, h4, h5⟩
  ·rintro ⟨cs, el, esz, xs, b0, arr, t, fr, h1, h2, h3, h4, h5⟩
   refine ⟨cs, el, esz, xs, b0, arr, t, fr, h1, h2, by rw [hob]; exact h3, ?_, h5⟩
   rw [hb b0 (.inl ⟨id, ⟨cs, h1⟩, h3⟩)]; exact h4
 refine ⟨⟨fun id b e => ?_, fun id id' b e e' k k' => h.inj id id' b (by rw [← hob]; exact e) (by rw [← hob]; exact e') k k', fun id cs e => ?_, fun id j blk hr => ?_⟩, fun b => ?_⟩
 ·rw [hob] at e
  exact ⟨(h.lt id b e).1, Nat.lt_of_lt_of_le (h.lt id b e).2 hs⟩
 ·obtain ⟨blk, arr, el, q1, q2, q3, q4, q5⟩ := h.obj id cs e
  have hf : X.aa G H w blk := .inl ⟨id, ⟨cs, e⟩, q1⟩
  refine ⟨blk, arr, el, by rw [hob]; exact q1, by rw [hb blk hf]; exact q2, ⟨q3.1, q3.2.trans (hle.sz id blk q1).symm⟩, fun j x hx => ?_, hkn blk hf⟩
  have := q4 j x hx
  cases x with
  | v a => exact ⟨this.1, this.2.mono hle⟩
  | row el2 esz xs =>
   have hk : fG G w true el2 esz (arr.getD j undef) xs := this
   refine fG.stay hk hle (fun b e2 => hb b (.inr ⟨id, j, _, _, _, _, _, _, _, _, e, hx, q1, q2, e2⟩)) (fun b e2 o => ?_)
   have hf2 : X.aa G H w b := .inr ⟨id, j, _, _, _, _, _, _, _, _, e, hx, q1, q2, e2⟩
   rw [hkn b hf2 o, (h.aa hf2).2 o]
 ·rw [hrw] at hr
  obtain ⟨h1, h2⟩ := h.apart id j blk hr
  exact ⟨fun id' => by rw [hob]; exact h1 id', fun id' j' hr' => h2 id' j' ((hrw _ _ _).1 hr')⟩
 ·unfold X.aa
  rw [hob]
  simp only [hrw]

def owns (s : St) (L : Loc) (c : aI) (blk : Nat) : Prop :=
 match c with
 | .b k => (∃ cv, get s (.b k) = some cv ∧ cv.live = true) ∧ L.box k = some blk
 | .t k => (∃ m el esz xs, get s (.t k) = some (.tk m el esz xs)) ∧ ∃ v, L.tok k = some v ∧ v.ownBlock = some blk
 | _ => False

structure Rel (E : eB) (N : Nat) (G : Gh) (L : Loc) (a : Act) (w : World) (s : St) : Prop where
 size : a.tmps.size = N
 defs : a.defers = E.ds
 ge : GE E
 kn : ∀ b o v, G.kn b o = some v → w.cell? ⟨b, o, none⟩ = some v
 old : ∀ b o, b < E.w0.heap.size → ¬ E.M b → G.kn b o = E.G0.kn b o
 obs : ∀ id b, E.G0.ob id = some b → G.ob id = some b ∧ G.sz id = E.G0.sz id
 obn : ∀ id b, G.ob id = some b → (∃ i, E.G0.ob i = some b) ∨ E.w0.heap.size ≤ b
 fr : Fr E.M E.w0 w
 slot : ∀ n x, get s (.s n) = some (.sv x) → SV G L (a.tmps.getD n undef) x
 box : ∀ k cv, get s (.b k) = some cv → cv.live = true → tf E G L w k cv
 tok : ∀ k m el esz xs, get s (.t k) = some (.tk m el esz xs) → Bl E G L w k m el esz xs
 disj : ∀ c d blk, owns s L c blk → owns s L d blk → c = d
 heap : ∃ H, get s .h = some (.hp H) ∧ dz G w H ∧ ∀ b, aa G H w b → E.may b
 hdisj : ∀ c blk, owns s L c blk → ∀ H, get s .h = some (.hp H) → ¬ aa G H w blk
 nobox : ∀ k, get s (.b k) = none → L.box k = none
 notok : ∀ k, get s (.t k) = none → L.tok k = none

theorem Rel.ext {E : eB} {N : Nat} {G : Gh} {L : Loc} {a : Act} {w : World} {s t : St} (h : Rel E N G L a w s) (e : ∀ c, get t c = get s c) : Rel E N G L a w t := by
 have ho : ∀ c blk, owns t L c blk → owns s L c blk := by
  intro c blk hc
  cases c <;> simp only [owns, e] at hc ⊢ <;> exact hc
 exact ⟨h.size, h.defs, h.ge, h.kn, h.old, h.obs, h.obn, h.fr, fun n x g => h.slot n x (by rw [← e]; exact g), fun k cv g => h.box k cv (by rw [← e]; exact g),
  fun k m el esz xs g => h.tok k m el esz xs (by rw [← e]; exact g), fun c d blk hc hd => h.disj c d blk (ho _ _ hc) (ho _ _ hd), (by rw [e]; exact h.heap),
  fun c blk hc H g => h.hdisj c blk (ho _ _ hc) H (by rw [← e]; exact g), fun k g => h.nobox k (by rw [← e]; exact g), fun k g => h.notok k (by rw [← e]; exact g)⟩

theorem Rel.iA {E : eB} {N : Nat} {G : Gh} {L : Loc} {a : Act} {w : World} {s : St} (h : Rel E N G L a w s) : E.w0.heap.size ≤ w.heap.size := h.fr.size
theorem Rel.zo {E : eB} {N : Nat} {G : Gh} {L : Loc} {a : Act} {w : World} {s : St} (h : Rel E N G L a w s) {b o : Nat} {v : Value} (e : G.kn b o = some v) : b < w.heap.size :=
 World.block_lt_of_cell? w _ (h.kn b o v e)

theorem Rel.put {E : eB} {N : Nat} {G : Gh} {L : Loc} {a : Act} {w : World} {s : St} (h : Rel E N G L a w s) (d : Nat) (hd : d < N) (v : Value) (x : Sv) (hv : SV G L v x) :
  Rel E N G L (a.put (some d) v) w ((.s d, .sv x) :: s) := by
 have ho : ∀ c blk, owns ((.s d, .sv x) :: s) L c blk → owns s L c blk := by
  intro c blk hc
  cases c <;> simp only [owns, get, reduceCtorEq, if_false] at hc ⊢ <;> exact hc
 refine ⟨by simpa [Act.put] using h.size, by simpa [Act.put] using h.defs, h.ge, h.kn, h.old, h.obs, h.obn, h.fr, ?_, fun k cv g => h.box k cv (by simpa [get] using g),
  fun k m el esz xs g => h.tok k m el esz xs (by simpa [get] using g), fun c d blk hc hd => h.disj c d blk (ho _ _ hc) (ho _ _ hd), (by simpa [get] using h.heap),
  fun c blk hc H g => h.hdisj c blk (ho _ _ hc) H (by simpa [get] using g), fun k g => h.nobox k (by simpa [get] using g), fun k g => h.notok k (by simpa [get] using g)⟩
 intro n y g
 have hsz := h.size
 by_cases e : d = n
 ·subst e
  simp [get] at g
  subst g
  have : (a.put (some d) v).tmps.getD d undef = v := by
   simp only [Act.put, Array.getD_eq_getD_getElem?]
   rw [Array.getElem?_setIfInBounds_self_of_lt (by omega)]
   rfl
  rw [this]; exact hv
 ·simp [get, e] at g
  have : (a.put (some d) v).tmps.getD n undef = a.tmps.getD n undef := by
   simp only [Act.put, Array.getD_eq_getD_getElem?]
   rw [Array.getElem?_setIfInBounds_ne (by omega)]
  rw [this]; exact h.slot n y g
set_option linter.unusedVariables false

structure nf (M : Nat → Prop) (G G' : Gh) (w : World) : Prop where
 kn : ∀ b o, b < w.heap.size → ¬ M b → G'.kn b o = G.kn b o
 ob : ∀ id b, G.ob id = some b → G'.ob id = some b ∧ G'.sz id = G.sz id
 obn : ∀ id b, G'.ob id = some b → (∃ i, G.ob i = some b) ∨ w.heap.size ≤ b
def fx (G : Gh) (w : World) : Prop := ∀ b o v, G.kn b o = some v → w.cell? ⟨b, o, none⟩ = some v
theorem fx.lt {G : Gh} {w : World} (h : fx G w) {b o : Nat} {v : Value} (e : G.kn b o = some v) : b < w.heap.size := World.block_lt_of_cell? w _ (h b o v e)
theorem nf.le {M : Nat → Prop} {G G' : Gh} {w : World} (h : nf M G G' w) (hk : fx G w) (hM : ∀ b, M b → ∀ o, G.kn b o = none) : G.le G' :=
 ⟨fun b o v e => by rw [h.kn b o (hk.lt e) (fun hm => by rw [hM b hm o] at e; cases e)]; exact e, fun id b e => (h.ob id b e).1, fun id b e => (h.ob id b e).2⟩
def VL (G : Gh) (cargs : Array Value) (args : List AV) : Prop := cargs.size = args.length ∧ ∀ (j : Nat) x, args[j]? = some x → V G (cargs.getD j undef) x

def cB (P : Program) (f : FuncId) (args : List AV) (H : Hp) (r : AV) (H' : Hp) : Prop :=
 ∀ G w cargs, GE ⟨G, w, aa G H w, []⟩ → fx G w → dz G w H → VL G cargs args → Calls P f cargs w fun e w' =>
  ∃ v G', e = .returned v ∧ V G' v r ∧ nf (aa G H w) G G' w ∧ fx G' w' ∧ dz G' w' H' ∧ Fr (aa G H w) w w' ∧ ∀ b, aa G' H' w' b → w.heap.size ≤ b ∨ aa G H w b
def Pure (P : Program) (f : FuncId) (args : List AV) (r : AV) : Prop := ∀ H, cB P f args H r H

theorem dM {s : St} {L : Loc} {c' : aI} {v : CV} {c : aI} {blk : Nat} (hne : c ≠ c') (h : owns ((c', v) :: s) L c blk) : owns s L c blk := by
 cases c <;> simp only [owns, get, if_neg (Ne.symm hne)] at h ⊢ <;> exact h
theorem iy {E : eB} {N : Nat} {G : Gh} {L : Loc} {a : Act} {w : World} {s : St} (h : Rel E N G L a w s) {c : aI} {blk : Nat} (hc : owns s L c blk) : blk < w.heap.size ∧ E.may blk := by
 cases c with
 | b k =>
  obtain ⟨⟨cs, hcs, hl⟩, hb⟩ := hc
  obtain ⟨blk', o, hb', hb2, hh, _⟩ := h.box k cs hcs hl
  rw [hb] at hb'; cases hb'
  exact ⟨(Array.getElem?_eq_some_iff.1 hh).1, hb2⟩
 | t k =>
  obtain ⟨⟨m, el, esz, xs, hcs⟩, v, hv, hb⟩ := hc
  obtain ⟨v', hv', hr, hm⟩ := h.tok k m el esz xs hcs
  rw [hv] at hv'; cases hv'
  exact ⟨hr.lt hb, (hm _ hb).1⟩
 | s n => exact hc.elim
 | h => exact hc.elim
theorem Bl.stay {E : eB} {G G' : Gh} {L : Loc} {w w' : World} {k : Nat} {m : Bool} {el esz : Nat} {xs : List AV} (h : Bl E G L w k m el esz xs) (hle : G.le G') (hob : ∀ id b, G'.ob id = some b → (∃ i, G.ob i = some b) ∨ w.heap.size ≤ b) (hb : ∀ v b, L.tok k = some v → v.ownBlock = some b → w'.heap[b]? = w.heap[b]?)
  (hkn : ∀ v b, L.tok k = some v → v.ownBlock = some b → ∀ o, G'.kn b o = G.kn b o) : Bl E G' L w' k m el esz xs := by
 obtain ⟨v, hv, hr, hm⟩ := h
 refine ⟨v, hv, hr.stay hle (fun b e => hb v b hv e) (fun b e => hkn v b hv e), fun b e => ⟨(hm b e).1, fun id e2 => ?_⟩⟩
 rcases hob id b e2 with ⟨i, e3⟩ | e3
 ·exact (hm b e).2 i e3
 ·have := hr.lt e; omega

theorem Rel.called {E : eB} {N : Nat} {G G' : Gh} {L : Loc} {a : Act} {w w' : World} {s : St} {H : Hp} (h : Rel E N G L a w s) (hH0 : get s .h = some (.hp H)) (hx : nf (aa G H w) G G' w) (hk : fx G' w') {H' : Hp} (hH : dz G' w' H') (hf : Fr (aa G H w) w w')
  (hft : ∀ b, aa G' H' w' b → w.heap.size ≤ b ∨ aa G H w b) : Rel E N G' L a w' ((.h, .hp H') :: s) := by
 obtain ⟨H2, g2, hok, hmay⟩ := h.heap
 rw [hH0] at g2; cases g2
 have hle : G.le G' := hx.le h.kn (fun b hb => (hok.aa hb).2)
 have ho : ∀ c blk, owns ((.h, .hp H') :: s) L c blk → owns s L c blk := by
  intro c blk hc
  cases c <;> simp only [owns, get, reduceCtorEq, if_false] at hc ⊢ <;> exact hc
 have hlt : ∀ c blk, owns s L c blk → blk < w.heap.size := fun c blk hc => (iy h hc).1
 have hnf : ∀ c blk, owns s L c blk → ¬ aa G H w blk := fun c blk hc => h.hdisj c blk hc H hH0
 have hblk : ∀ c blk, owns s L c blk → w'.heap[blk]? = w.heap[blk]? := fun c blk hc => hf.block blk (hlt c blk hc) (hnf c blk hc)
 have hknb : ∀ c blk, owns s L c blk → ∀ o, G'.kn blk o = G.kn blk o := fun c blk hc o => hx.kn blk o (hlt c blk hc) (hnf c blk hc)
 have hold : ∀ b, b < E.w0.heap.size → ¬ E.M b → ¬ aa G H w b := fun b hb hm hf' => by
  rcases hmay b hf' with e | e
  ·omega
  ·exact hm e
 refine ⟨h.size, h.defs, h.ge, hk, fun b o hb hm => (hx.kn b o (Nat.lt_of_lt_of_le hb h.iA) (hold b hb hm)).trans (h.old b o hb hm), fun id b e => ⟨(hx.ob id b (h.obs id b e).1).1, (hx.ob id b (h.obs id b e).1).2.trans (h.obs id b e).2⟩, ?_, ?_, ?_, ?_, ?_,
  fun c d blk hc hd => h.disj c d blk (ho _ _ hc) (ho _ _ hd), ⟨H', by simp [get], hH, fun b hb => ?_⟩, ?_, fun k g => h.nobox k (by simpa [get] using g), fun k g => h.notok k (by simpa [get] using g)⟩
 ·intro id b e
  rcases hx.obn id b e with ⟨i, e⟩ | e
  ·exact h.obn i b e
  ·exact .inr (Nat.le_trans h.iA e)
 ·exact ⟨hf.os.trans h.fr.os, hf.tape.trans h.fr.tape, hf.output.trans h.fr.output, Nat.le_trans h.fr.size hf.size, fun k hk hno =>
   (hf.block k (Nat.lt_of_lt_of_le hk h.iA) (hold k hk hno)).trans (h.fr.block k hk hno)⟩
 ·intro n x g
  exact (h.slot n x (by simpa [get] using g)).mono hle
 ·intro k cv g hl
  have g' : get s (.b k) = some cv := by simpa [get] using g
  have how : ∀ b, L.box k = some b → owns s L (.b k) b := fun b hb => ⟨⟨cv, g', hl⟩, hb⟩
  exact (h.box k cv g' hl).stay hle hx.obn (fun b hb => hblk _ _ (how b hb)) (fun b hb => hknb _ _ (how b hb))
 ·intro k m el esz xs g
  have g' : get s (.t k) = some (.tk m el esz xs) := by simpa [get] using g
  have hown : ∀ v b, L.tok k = some v → v.ownBlock = some b → owns s L (.t k) b := fun v b hv hb => ⟨⟨m, el, esz, xs, g'⟩, v, hv, hb⟩
  exact (h.tok k m el esz xs g').stay hle hx.obn (fun v b hv hb => hblk _ _ (hown v b hv hb)) (fun v b hv hb => hknb _ _ (hown v b hv hb))
 ·rcases hft b hb with e | e
  ·exact .inl (Nat.le_trans h.iA e)
  ·exact hmay b e
 ·intro c blk hc H2 g hft2
  simp [get] at g
  subst g
  rcases hft blk hft2 with e | e
  ·have := hlt c blk (ho _ _ hc); omega
  ·exact hnf c blk (ho _ _ hc) e

theorem Rel.vx {E : eB} {N : Nat} {G : Gh} {L : Loc} {a : Act} {w : World} {s : St} {H : Hp} (h : Rel E N G L a w s) (hH : get s .h = some (.hp H)) : GE ⟨G, w, aa G H w, []⟩ := by
 obtain ⟨h1, h2, h3⟩ := h.ge
 obtain ⟨H0, g0, _, hmay⟩ := h.heap
 rw [hH] at g0; cases g0
 refine ⟨JY (fun k hk => h.fr.block k (Nat.lt_of_lt_of_le hk h2) (h3 k hk)) h1, Nat.le_trans h2 h.fr.size, fun g hg hf => ?_⟩
 rcases hmay g hf with e | e
 ·exact absurd (Nat.lt_of_lt_of_le hg h2) (Nat.not_lt.2 e)
 ·exact h3 g hg e
def Reads (R : List aI) (s t : St) : Prop := ∀ c ∈ R, get t c = get s c
def aW (P : Program) (N : Nat) (o : Oper) (s : St) (R : List aI) (ws : St) : Prop :=
 ∀ t, Reads R s t → ∀ E G L a w, Rel E N G L a w t → ∀ (K : Act → World → Prop) (Q : Exit → Act → World → Prop),
  (∀ v w' G' L', Rel E N G' L' (a.put o.dst v) w' (ws ++ t) → K (a.put o.dst v) w') → o.wp P a w K Q

def Fits (E : eB) (N : Nat) (s : St) (a : Act) (w : World) : Prop := ∃ G L, Rel E N G L a w s

def aD (P : Program) (N : Nat) (ops : Array Oper) (l : List Oper) (s : St) (Q : St → Prop) : Prop :=
 ∀ E a w, Fits E N s a w → ∀ QQ : Exit → Act → World → Prop, (∀ a' w' s', Fits E N s' a' w' → Q s' → QQ .normal a' w') → wpList P ops QQ l a w
section
variable {P : Program} {N : Nat} {ops : Array Oper} {l : List Oper} {s : St} {Q : St → Prop}
theorem aD.nil (h : Q s) : aD P N ops [] s Q := fun _ _ _ hf _ hQ => hQ _ _ _ hf h
theorem aD.cons {o : Oper} {R : List aI} {ws : St} (hg : o.guard = none) (ho : aW P N o s R ws) (h : aD P N ops l (ws ++ s) Q) : aD P N ops (o :: l) s Q := by
 intro E a w ⟨G, L, hr⟩ QQ hQ
 refine wpList_plain hg fun K hK => ?_
 exact ho s (fun _ _ => rfl) E G L a w hr K QQ fun v w' G' L' hr' => hK _ _ (h E _ _ ⟨G', L', hr'⟩ QQ hQ)
def gL (ops : Array Oper) (o : Oper) : Option (Nat × Bool) :=
 match o.guard with
 | some (j, b) => ((ops[j]?).bind (·.dst)).map fun d => (d, b)
 | none => none
theorem m7 {E : eB} {G : Gh} {L : Loc} {a : Act} {w : World} (hr : Rel E N G L a w s) {o : Oper} {d : Nat} {b c : Bool} (hN : d < N) (hg : gL ops o = some (d, b)) (hc : get s (.s d) = some (.sv (.v (.bool c)))) :
  Region.wanted o (yielded ops a.tmps) = (c == b) := by
 unfold gL at hg
 split at hg
 ·rename_i j b' hgd
  cases hd : (ops[j]?).bind (·.dst) with
  | none => rw [hd] at hg; cases hg
  | some d' =>
   rw [hd] at hg
   simp only [Option.map_some, Option.some.injEq, Prod.mk.injEq] at hg
   obtain ⟨rfl, rfl⟩ := hg
   have hv := hr.slot d' _ hc
   have hsz := hr.size
   have hv' : a.tmps[d']? = some (.bool c) := by
    have hlt : d' < a.tmps.size := by rw [hsz]; exact hN
    rw [Array.getD_eq_getD_getElem?, Array.getElem?_eq_getElem hlt] at hv
    rw [Array.getElem?_eq_getElem hlt]
    simp only [Option.getD_some] at hv
    have hx : ∀ v, SV G L v (.v (.bool c)) → v = .bool c := by
     intro v h
     have h' : V G v (.bool c) := h
     cases h'
     rfl
    rw [hx _ hv]
   simp only [Region.wanted, hgd, yielded, hd, Option.bind_some, hv']
   cases c <;> cases b' <;> rfl
 ·cases hg
theorem aD.on {o : Oper} {R : List aI} {ws : St} {d : Nat} {b : Bool} (hN : d < N) (hg : gL ops o = some (d, b)) (hc : get s (.s d) = some (.sv (.v (.bool b)))) (ho : aW P N o s R ws) (h : aD P N ops l (ws ++ s) Q) :
  aD P N ops (o :: l) s Q := by
 intro E a w ⟨G, L, hr⟩ QQ hQ
 refine wpList_step fun K hK => ?_
 rw [m7 hr hN hg hc, beq_self_eq_true, if_pos rfl]
 exact ho s (fun _ _ => rfl) E G L a w hr K QQ fun v w' G' L' hr' => hK _ _ (h E _ _ ⟨G', L', hr'⟩ QQ hQ)
end

def aK (P : Program) (N : Nat) (c : Code) (s : St) (Q : Exit → St → Prop) : Prop :=
 ∀ E a w, Fits E N s a w → c.wp P (fun e a' w' => ∃ s', Fits E N s' a' w' ∧ Q e s') a w
section
variable {P : Program} {N : Nat} {s : St} {Q : Exit → St → Prop}
theorem aK.mono {c : Code} {Q' : Exit → St → Prop} (h : aK P N c s Q) (hq : ∀ e s', Q e s' → Q' e s') : aK P N c s Q' :=
 fun E a w hf => wp_mono (h E a w hf) fun e _ _ ⟨s', h1, h2⟩ => ⟨s', h1, hq e s' h2⟩
theorem aK.region {id : Nat} {l : List Oper} (h : aD P N l.toArray l s (Q .normal)) : aK P N (.region id l.toArray false) s Q :=
 fun E a w hf => wp_region_lit (h E a w hf _ fun _ _ s' h1 h2 => ⟨s', h1, h2⟩)
theorem aK.seq {c d : Code} (h : aK P N c s fun e s' => match e with | .normal => aK P N d s' Q | e => Q e s') : aK P N (.seq c d) s Q := by
 intro E a w hf
 refine wp_seq (wp_mono (h E a w hf) ?_)
 rintro e a' w' ⟨s', h1, h2⟩
 cases e with
 | normal => exact h2 E a' w' h1
 | _ => exact ⟨s', h1, h2⟩
theorem aK.skip (h : Q .normal s) : aK P N .skip s Q := fun E a w hf => wp_skip ⟨s, hf, h⟩
theorem aK.ret (h : Q .ret s) : aK P N .ret s Q := fun E a w hf => wp_ret ⟨s, hf, h⟩
theorem aK.exit {id : Nat} (h : Q (.exit id) s) : aK P N (.exit id) s Q := fun E a w hf => wp_exit ⟨s, hf, h⟩
theorem aK.label {id : Nat} (h : Q .normal s) : aK P N (.label id) s Q := fun E a w hf => wp_label ⟨s, hf, h⟩
theorem aK.block {id : Nat} {c : Code} (h : aK P N c s fun e s' => match e with | .exit id' => if id' = id then Q .normal s' else Q (.exit id') s' | e => Q e s') : aK P N (.block id c) s Q := by
 intro E a w hf
 refine wp_block (wp_mono (h E a w hf) ?_)
 rintro e a' w' ⟨s', h1, h2⟩
 cases e with
 | exit id' =>
  simp only [Exit.inBlock] at h2 ⊢
  split
  ·rename_i hid; rw [if_pos hid] at h2; exact ⟨s', h1, h2⟩
  ·rename_i hid; rw [if_neg hid] at h2; exact ⟨s', h1, h2⟩
 | _ => exact ⟨s', h1, h2⟩
theorem uL {E : eB} {G : Gh} {L : Loc} {a : Act} {w : World} (hr : Rel E N G L a w s) {t : Nat} {b : Bool} (hc : get s (.s t) = some (.sv (.v (.bool b)))) : a.eval (.tmp t) = .bool b := by
 have h : V G (a.tmps.getD t undef) (.bool b) := hr.slot t _ hc
 have hx : ∀ v, V G v (.bool b) → v = .bool b := by intro v h; cases h; rfl
 exact hx _ h
theorem aK.cond {t : Nat} {c d : Code} {b : Bool} (hc : get s (.s t) = some (.sv (.v (.bool b)))) (h1 : b = true → aK P N c s Q) (h2 : b = false → aK P N d s Q) : aK P N (.cond (.tmp t) c d) s Q := by
 intro E a w ⟨G, L, hr⟩
 exact wp_cond_split (uL hr hc) (fun e => h1 e E a w ⟨G, L, hr⟩) (fun e => h2 e E a w ⟨G, L, hr⟩)
theorem aK.Np {c d : Code} {b : Bool} (h1 : b = true → aK P N c s Q) (h2 : b = false → aK P N d s Q) : aK P N (.cond (.const (.bool b)) c d) s Q := by
 intro E a w hf
 exact wp_cond_split rfl (fun e => h1 e E a w hf) (fun e => h2 e E a w hf)
theorem aK.loop {c : Code} (T : Nat → St → Prop) (hT : ∀ n s, T n s → aK P N c s fun e s' => match e with | .normal => ∃ m, m < n ∧ T m s' | e => Q e s') {n : Nat} (h0 : T n s) : aK P N (.loop c) s Q := by
 intro E a w hf
 refine wp_loop_ghost (fun n a w => ∃ s, T n s ∧ Fits E N s a w) n ⟨s, h0, hf⟩ fun n a w ⟨s1, hT1, hf1⟩ => ?_
 refine wp_mono (hT n s1 hT1 E a w hf1) ?_
 rintro e a' w' ⟨s', h1, h2⟩
 cases e with
 | normal =>
  obtain ⟨m, hlt, hTm⟩ := h2
  exact ⟨m, hlt, s', hTm, h1⟩
 | _ => exact ⟨s', h1, h2⟩
end

def fF : List AV → Nat → St
 | [], _ => []
 | a :: l, n => (.s n, .sv (.v a)) :: fF l (n + 1)
theorem gk (args : List AV) : ∀ (n : Nat) (c : aI) (v : CV), get (fF args n) c = some v → ∃ j a, args[j]? = some a ∧ c = .s (n + j) ∧ v = .sv (.v a) := by
 induction args with
 | nil => intro n c v h; simp [fF, get] at h
 | cons a l ih =>
  intro n c v h
  simp only [fF, get] at h
  split at h
  ·rename_i hc
   cases h
   exact ⟨0, a, rfl, by rw [← hc]; simp, rfl⟩
  ·obtain ⟨j, b, h1, h2, h3⟩ := ih _ _ _ h
   exact ⟨j + 1, b, by simpa using h1, by rw [h2]; congr 1; omega, h3⟩
def aM (P : Program) (fn : Func) (s : St) (r : AV) : Prop :=
 ∀ E N G L a w, Rel E N G L a w s → ∃ v, (results fn a.tmps).run P w = .ok v w ∧ V G v r
theorem uf {fn : Func} {N : Nat} {args : List AV} {H : Hp} {G : Gh} {w : World} {cargs : Array Value} (hN : fn.ntmps = N) (hle : args.length ≤ N) (hg : GE ⟨G, w, aa G H w, []⟩) (hk : fx G w) (hH : dz G w H) (hV : VL G cargs args) :
  Fits ⟨G, w, aa G H w, []⟩ N ((.h, .hp H) :: fF args 0) { tmps := cargs ++ Array.replicate (fn.ntmps - cargs.size) undef, defers := [] } w := by
 refine ⟨G, ⟨fun _ => none, fun _ => none⟩, ?_, rfl, hg, hk, fun _ _ _ _ => rfl, fun _ _ h => ⟨h, rfl⟩, fun _ _ h => .inl ⟨_, h⟩, Fr.refl _ _, ?_, ?_, ?_, ?_, ⟨H, by simp [get], hH, fun b hb => .inr hb⟩, ?_, fun _ _ => rfl, fun _ _ => rfl⟩
 ·have := hV.1; simp; omega
 ·intro n x g
  have g' : get (fF args 0) (.s n) = some (.sv x) := by simpa [get] using g
  obtain ⟨j, b, h1, h2, h3⟩ := gk _ _ _ _ g'
  cases h3
  have : n = j := by injection h2 with h2; omega
  subst this
  have hlt : n < cargs.size := by
   have := hV.1
   have := (List.getElem?_eq_some_iff.1 h1).1
   omega
  have : (cargs ++ Array.replicate (fn.ntmps - cargs.size) undef).getD n undef = cargs.getD n undef := by
   simp only [Array.getD_eq_getD_getElem?]
   rw [Array.getElem?_append_left hlt]
  show V G ((cargs ++ Array.replicate (fn.ntmps - cargs.size) undef).getD n undef) b
  rw [this]
  exact hV.2 n b h1
 ·intro k cs g hl
  obtain ⟨j, b, _, h2, _⟩ := gk _ _ _ _ (show get (fF args 0) (.b k) = _ by simpa [get] using g)
  cases h2
 ·intro k m el esz xs g
  obtain ⟨j, b, _, h2, _⟩ := gk _ _ _ _ (show get (fF args 0) (.t k) = _ by simpa [get] using g)
  cases h2
 ·intro c d blk hc
  cases c with
  | b k =>
   obtain ⟨⟨cs, g, _⟩, _⟩ := hc
   obtain ⟨j, b, _, h2, _⟩ := gk _ _ _ _ (show get (fF args 0) (.b k) = _ by simpa [get] using g)
   cases h2
  | t k =>
   obtain ⟨⟨m, el, esz, xs, g⟩, _⟩ := hc
   obtain ⟨j, b, _, h2, _⟩ := gk _ _ _ _ (show get (fF args 0) (.t k) = _ by simpa [get] using g)
   cases h2
  | s n => exact hc.elim
  | h => exact hc.elim
 ·intro c blk hc
  cases c with
  | b k =>
   obtain ⟨⟨cs, g, _⟩, _⟩ := hc
   obtain ⟨j, b, _, h2, _⟩ := gk _ _ _ _ (show get (fF args 0) (.b k) = _ by simpa [get] using g)
   cases h2
  | t k =>
   obtain ⟨⟨m, el, esz, xs, g⟩, _⟩ := hc
   obtain ⟨j, b, _, h2, _⟩ := gk _ _ _ _ (show get (fF args 0) (.t k) = _ by simpa [get] using g)
   cases h2
  | s n => exact hc.elim
  | h => exact hc.elim
theorem cB.ah {P : Program} {f : FuncId} {fn : Func} {c : Code} {N : Nat} {args : List AV} {H : Hp} {r : AV} {H' : Hp} (hf : P.funcs[f]? = some fn) (hb : fn.body = some c) (hN : fn.ntmps = N) (hle : args.length ≤ N)
  (h : aK P N c ((.h, .hp H) :: fF args 0) fun e s' => (e = .normal ∨ e = .ret) ∧ aM P fn s' r ∧ get s' .h = some (.hp H')) : cB P f args H r H' := by
 intro G w cargs hg hk hH hV
 refine calls_of_wp hf hb ?_
 have h0 := uf hN hle hg hk hH hV
 refine wp_mono (h ⟨G, w, aa G H w, []⟩ _ w h0) ?_
 rintro e a' w' ⟨s', ⟨G', L', hr⟩, he, hres, hh⟩
 obtain ⟨v, hv, hV'⟩ := hres _ _ _ _ _ _ hr
 obtain ⟨H2, g, hok, hmay⟩ := hr.heap
 rw [hh] at g; cases g
 have hpost : ∃ v2 G', Ending.returned v = .returned v2 ∧ V G' v2 r ∧ nf (aa G H w) G G' w ∧ fx G' w' ∧ dz G' w' H' ∧ Fr (aa G H w) w w' ∧ ∀ b, aa G' H' w' b → w.heap.size ≤ b ∨ aa G H w b :=
  ⟨v, G', rfl, hV', ⟨hr.old, hr.obs, hr.obn⟩, hr.kn, hok, hr.fr, hmay⟩
 rcases he with rfl | rfl
 ·exact ⟨hr.defs, v, hv, hpost⟩
 ·exact ⟨hr.defs, v, hv, hpost⟩

def Mg : Value → Option AV
 | .bool b => some (.bool b)
 | .int k n => some (.int k n)
 | .string s => some (.str s.data.toList)
 | .pointer none => some .nilp
 | .slice _ 0 _ => some (.sl [])
 | .nilFunc => some .nilf
 | .nilIface => some .nili
 | _ => none
theorem pk (G : Gh) {v : Value} {a : AV} (h : Mg v = some a) : V G v a := by
 unfold Mg at h
 split at h <;> first | (cases h; done) | skip
 all_goals cases h
 ·exact .bool _
 ·exact .int _ _
 ·rename_i s
  have := V.str (G := G) s.data.toList
  simpa using this
 ·exact .nilp
 ·exact .slE _ _
 ·exact .nilf
 ·exact .nili
def gS (x : Operand) (s : St) : Option Sv :=
 match x with
 | .tmp t => match get s (.s t) with
  | some (.sv x) => some x
  | _ => none
 | .const v => match Mg v with
  | some a => some (.v a)
  | none => none
 | .func f => some (.v (.fn f []))
 | .global _ => none
def rd (x : Operand) : List aI :=
 match x with
 | .tmp t => [.s t]
 | _ => []
theorem bj {E : eB} {N : Nat} {G : Gh} {L : Loc} {a : Act} {w : World} {s t : St} (hr : Rel E N G L a w t) {x : Operand} (hR : Reads (rd x) s t) {y : Sv} (h : gS x s = some y) : SV G L (a.eval x) y := by
 cases x with
 | tmp n =>
  simp only [gS] at h
  split at h
  ·rename_i z hz
   cases h
   exact hr.slot n _ (by rw [hR (.s n) (by simp [rd])]; exact hz)
  ·cases h
 | const v =>
  simp only [gS] at h
  split at h
  ·rename_i b hb
   cases h
   exact pk G hb
  ·cases h
 | func f =>
  simp only [gS, Option.some.injEq] at h
  subst h
  exact V.fn f #[] [] rfl (fun j c h => by simp at h)
 | global g => simp [gS] at h
def cV (x : Operand) (s : St) : Option AV := (gS x s).bind Sv.av
theorem aT {E : eB} {N : Nat} {G : Gh} {L : Loc} {a : Act} {w : World} {s t : St} (hr : Rel E N G L a w t) {x : Operand} (hR : Reads (rd x) s t) {y : AV} (h : cV x s = some y) : V G (a.eval x) y := by
 unfold cV at h
 cases hx : gS x s with
 | none => rw [hx] at h; cases h
 | some z => rw [hx] at h; exact SV.av (bj hr hR hx) h
theorem Reads.mono {R R' : List aI} {s t : St} (h : Reads R s t) (hs : ∀ c ∈ R', c ∈ R) : Reads R' s t := fun c hc => h c (hs c hc)
theorem Reads.left {R R' : List aI} {s t : St} (h : Reads (R ++ R') s t) : Reads R s t := h.mono fun c hc => List.mem_append.2 (.inl hc)
theorem Reads.right {R R' : List aI} {s t : St} (h : Reads (R ++ R') s t) : Reads R' s t := h.mono fun c hc => List.mem_append.2 (.inr hc)

theorem aW.val {P : Program} {N : Nat} {o : Oper} {s : St} {R : List aI} {x : Sv} {d : Nat} (hd : o.dst = some d) (hN : d < N)
  (h : ∀ E G L a w t, Rel E N G L a w t → Reads R s t → ∃ v, (execOp a.eval o).run P w = .ok (.value v) w ∧ SV G L v x) : aW P N o s R [(.s d, .sv x)] := by
 intro t hR E G L a w hr K Q hK
 obtain ⟨v, he, hv⟩ := h E G L a w t hr hR
 unfold Oper.wp
 rw [he]
 show K (a.put o.dst v) w
 refine hK v w G L ?_
 rw [hd]
 exact hr.put d hN v x hv

section
variable {P : Program} {N : Nat} {s : St} {d : Nat} {ty : TypeId} {pos : String} {af : Array Edge} {g : Option (Nat × Bool)}
theorem oO {x : Operand} {y : Sv} (hN : d < N) (hx : gS x s = some y) : aW P N ⟨some d, .move x, ty, pos, af, g⟩ s (rd x) [(.s d, .sv y)] :=
 aW.val rfl hN fun _ _ _ a _ _ hr hR => ⟨a.eval x, rfl, bj hr hR hx⟩
theorem NY {x : Operand} {y : Sv} (hN : d < N) (hx : gS x s = some y) : aW P N ⟨some d, .assign x, ty, pos, af, g⟩ s (rd x) [(.s d, .sv y)] :=
 aW.val rfl hN fun _ _ _ a _ _ hr hR => ⟨a.eval x, rfl, bj hr hR hx⟩
theorem pw {G : Gh} {v : Value} {b : Bool} (h : V G v (.bool b)) : v = .bool b := by cases h; rfl
theorem lb {G : Gh} {v : Value} {k : IntKind} {n : Int} (h : V G v (.int k n)) : v = .int k n := by cases h; rfl
theorem Bj {G : Gh} {v : Value} {l : List UInt8} (h : V G v (.str l)) : v = .string ⟨l.toArray⟩ := by cases h; rfl
theorem Ay {c x y : Operand} {b : Bool} {z : Sv} (hN : d < N) (hc : cV c s = some (.bool b)) (hx : gS (if b then x else y) s = some z) :
  aW P N ⟨some d, .pick c x y, ty, pos, af, g⟩ s (rd c ++ (rd x ++ rd y)) [(.s d, .sv z)] :=
 aW.val rfl hN fun _ _ _ a _ _ hr hR => by
  have hb := pw (aT hr hR.left hc)
  refine ⟨a.eval (if b then x else y), ?_, ?_⟩
  ·simp only [execOp, Sem.run_bind, hb, asBool, Sem.run_pure, Result.andThen_ok]
   cases b <;> rfl
  ·refine bj hr ?_ hx
   cases b
   ·exact hR.right.right
   ·exact hR.right.left

def ju (op : BinOp) (k : IntKind) (x y : Int) : Int :=
 match op with
 | .and => k.wrap (BitVec.ofInt k.bits x &&& BitVec.ofInt k.bits y).toNat
 | .or => k.wrap (BitVec.ofInt k.bits x ||| BitVec.ofInt k.bits y).toNat
 | .xor => k.wrap (BitVec.ofInt k.bits x ^^^ BitVec.ofInt k.bits y).toNat
 | _ => k.wrap (BitVec.ofInt k.bits x &&& ~~~ (BitVec.ofInt k.bits y)).toNat
def mw : List UInt8 → List UInt8 → Bool
 | _, [] => false
 | [], _ :: _ => true
 | a :: x, b :: y => a < b || (a == b && mw x y)
def tZ (op : BinOp) (x y : AV) : Option AV :=
 match x, y with
 | .int k a, .int k' b =>
  match op with
  | .shl => if b < 0 then none else some (.int k (k.wrap (a * 2 ^ (min b.toNat k.bits))))
  | .shr => if b < 0 then none else some (.int k (a.fdiv (2 ^ (min b.toNat k.bits))))
  | .add => if k = k' then some (.int k (k.wrap (a + b))) else none
  | .sub => if k = k' then some (.int k (k.wrap (a - b))) else none
  | .mul => if k = k' then some (.int k (k.wrap (a * b))) else none
  | .quo => if k = k' then (if b = 0 then none else some (.int k (k.wrap (a.tdiv b)))) else none
  | .rem => if k = k' then (if b = 0 then none else some (.int k (a.tmod b))) else none
  | .and => if k = k' then some (.int k (ju .and k a b)) else none
  | .or => if k = k' then some (.int k (ju .or k a b)) else none
  | .xor => if k = k' then some (.int k (ju .xor k a b)) else none
  | .andNot => if k = k' then some (.int k (ju .andNot k a b)) else none
  | .eql => if k = k' then some (.bool (a == b)) else none
  | .neq => if k = k' then some (.bool (!(a == b))) else none
  | .lss => if k = k' then some (.bool (decide (a < b))) else none
  | .leq => if k = k' then some (.bool (decide (a ≤ b))) else none
  | .gtr => if k = k' then some (.bool (decide (b < a))) else none
  | .geq => if k = k' then some (.bool (decide (b ≤ a))) else none
 | .str a, .str b =>
  match op with
  | .eql => some (.bool (a == b))
  | .neq => some (.bool (!(a == b)))
  | .lss => some (.bool (mw a b))
  | .leq => some (.bool (mw a b || a == b))
  | .gtr => some (.bool (!(mw a b || a == b)))
  | .geq => some (.bool (!mw a b))
  | _ => none
 | _, _ => none
theorem wC (l : List UInt8) : (⟨l.toArray⟩ : ByteArray).toList = l := by rw [ByteArray.toList_eq]
theorem Fj (a b : List UInt8) : Op.bytesLess a b = mw a b := by
 induction a generalizing b with
 | nil => cases b <;> rfl
 | cons x a ih => cases b with
  | nil => rfl
  | cons y b => simp only [Op.bytesLess, mw, ih]
theorem DG (op : BinOp) (t : TypeId) (x y : Operand) (k k' : IntKind) (m n : Int) (w : World) : (eqGuard op t x y (.int k m) (.int k' n)).run P w = .ok () w := by
 cases op <;> simp [eqGuard]
theorem DF (op : BinOp) (t : TypeId) (x y : Operand) (m n : ByteArray) (w : World) : (eqGuard op t x y (.string m) (.string n)).run P w = .ok () w := by
 cases op <;> simp [eqGuard]
def bv : AV → Value
 | .int k n => .int k n
 | .bool b => .bool b
 | _ => undef
theorem Gv {op : BinOp} {k k' : IntKind} {m n : Int} {z : AV} (h : tZ op (.int k m) (.int k' n) = some z) (t : TypeId) (w : World) (G : Gh) :
  ∃ v, (binOp op t (.int k m) (.int k' n)).run P w = .ok v w ∧ V G v z := by
 refine ⟨bv z, ?_, ?_⟩
 ·cases op <;> simp only [tZ] at h <;> split at h <;> (try split at h) <;> first | (cases h; done) | skip
  all_goals cases h
  all_goals (try subst k')
  all_goals simp [binOp, Op.intArith, Op.intDiv, Op.intBits, Op.intCmp, Op.shift, ju, bv, *]
  rfl
 ·cases op <;> simp only [tZ] at h <;> split at h <;> (try split at h) <;> first | (cases h; done) | skip
  all_goals cases h
  all_goals constructor
theorem Gu {op : BinOp} {m n : List UInt8} {z : AV} (h : tZ op (.str m) (.str n) = some z) (t : TypeId) (w : World) (G : Gh) :
  ∃ v, (binOp op t (.string ⟨m.toArray⟩) (.string ⟨n.toArray⟩)).run P w = .ok v w ∧ V G v z := by
 refine ⟨bv z, ?_, ?_⟩
 ·cases op <;> simp only [tZ] at h <;> first | (cases h; done) | skip
  all_goals cases h
  all_goals simp only [binOp, Op.stringOp, wC, Fj, Sem.run_pure, bv]
 ·cases op <;> simp only [tZ] at h <;> first | (cases h; done) | skip
  all_goals cases h
  all_goals constructor
theorem iU {op : BinOp} {t1 t2 : TypeId} {x y : Operand} {ax ay z : AV} (hN : d < N) (hx : cV x s = some ax) (hy : cV y s = some ay) (h : tZ op ax ay = some z) :
  aW P N ⟨some d, .binOp op t1 x y t2, ty, pos, af, g⟩ s (rd x ++ rd y) [(.s d, .sv (.v z))] :=
 aW.val rfl hN fun _ G _ a w _ hr hR => by
  have h1 := aT hr hR.left hx
  have h2 := aT hr hR.right hy
  cases ax <;> cases ay <;> first | (simp [tZ] at h; done) | skip
  ·obtain ⟨v, hv, hV⟩ := Gv (P := P) h t1 w G
   refine ⟨v, ?_, hV⟩
   simp only [execOp, Sem.run_bind, lb h1, lb h2, DG, Result.andThen_ok, hv, Sem.run_pure]
  ·obtain ⟨v, hv, hV⟩ := Gu (P := P) h t1 w G
   refine ⟨v, ?_, hV⟩
   simp only [execOp, Sem.run_bind, Bj h1, Bj h2, DF, Result.andThen_ok, hv, Sem.run_pure]
theorem MB {t1 t2 : TypeId} {x y : Operand} {b c : Bool} (hN : d < N) (ht : P.underlying t1 = some .bool) (hx : cV x s = some (.bool b)) (hy : cV y s = some (.bool c)) :
  aW P N ⟨some d, .binOp .eql t1 x y t2, ty, pos, af, g⟩ s (rd x ++ rd y) [(.s d, .sv (.v (.bool (b == c))))] :=
 aW.val rfl hN fun _ G _ a w _ hr hR => by
  have h1 := pw (aT hr hR.left hx)
  have h2 := pw (aT hr hR.right hy)
  refine ⟨.bool (b == c), ?_, .bool _⟩
  have he : (Op.equal t1 (.bool b) (.bool c)).run P w = .ok (b == c) w := run_equalIn_bool' w 9999 t1 b c ht
  have hb : binOp .eql t1 (.bool b) (.bool c) = (do pure (.bool (← Op.equal t1 (.bool b) (.bool c)))) := rfl
  have hgd : (eqGuard .eql t1 x y (.bool b) (.bool c)).run P w = .ok () w := by simp [eqGuard]
  simp only [execOp, Sem.run_bind, h1, h2, hgd, Result.andThen_ok, hb, he, Sem.run_pure]
theorem vf {t1 t2 : TypeId} {x y : Operand} {b c : Bool} (hN : d < N) (ht : P.underlying t1 = some .bool) (hx : cV x s = some (.bool b)) (hy : cV y s = some (.bool c)) :
  aW P N ⟨some d, .binOp .neq t1 x y t2, ty, pos, af, g⟩ s (rd x ++ rd y) [(.s d, .sv (.v (.bool (!(b == c)))))] :=
 aW.val rfl hN fun _ G _ a w _ hr hR => by
  have h1 := pw (aT hr hR.left hx)
  have h2 := pw (aT hr hR.right hy)
  refine ⟨.bool (!(b == c)), ?_, .bool _⟩
  have he : (Op.equal t1 (.bool b) (.bool c)).run P w = .ok (b == c) w := run_equalIn_bool' w 9999 t1 b c ht
  have hb : binOp .neq t1 (.bool b) (.bool c) = (do pure (.bool (!(← Op.equal t1 (.bool b) (.bool c))))) := rfl
  have hgd : (eqGuard .neq t1 x y (.bool b) (.bool c)).run P w = .ok () w := by simp [eqGuard]
  simp only [execOp, Sem.run_bind, h1, h2, hgd, Result.andThen_ok, hb, he, Sem.run_pure]
def PC (op : UnOp) (x : AV) : Option AV :=
 match op, x with
 | .not, .bool b => some (.bool (!b))
 | .neg, .int k n => some (.int k (k.wrap (0 - n)))
 | .xor, .int k n => some (.int k (ju .xor k (if k.signed then -1 else k.max) n))
 | _, _ => none
theorem KF {op : UnOp} {t1 : TypeId} {x : Operand} {ax z : AV} (hN : d < N) (hx : cV x s = some ax) (h : PC op ax = some z) :
  aW P N ⟨some d, .unOp op t1 x, ty, pos, af, g⟩ s (rd x) [(.s d, .sv (.v z))] :=
 aW.val rfl hN fun _ G _ a w _ hr hR => by
  have h1 := aT hr hR hx
  unfold PC at h
  split at h <;> first | (cases h; done) | skip
  all_goals cases h
  ·exact ⟨_, by simp only [execOp, Sem.run_bind, pw h1, Op.unary, Sem.run_pure, Result.andThen_ok], .bool _⟩
  ·exact ⟨_, by simp only [execOp, Sem.run_bind, lb h1, Op.unary, Op.intArith, Sem.run_pure, Result.andThen_ok], .int _ _⟩
  ·exact ⟨_, by simp only [execOp, Sem.run_bind, lb h1, Op.unary, Op.intBits, Sem.run_pure, Result.andThen_ok]; rfl, .int _ _⟩
theorem MC {t1 t2 : TypeId} {td : TypeDesc} {x : Operand} {k k' : IntKind} {n : Int} (hN : d < N) (h1 : P.underlying t1 = some td) (h2 : P.underlying t2 = some (.int k)) (hx : cV x s = some (.int k' n)) :
  aW P N ⟨some d, .convert t1 t2 x, ty, pos, af, g⟩ s (rd x) [(.s d, .sv (.v (.int k (k.wrap n))))] :=
 aW.val rfl hN fun _ G _ a w _ hr hR => by
  have hv := lb (aT hr hR hx)
  refine ⟨.int k (k.wrap n), ?_, .int _ _⟩
  simp [execOp, hv, convert, run_underlying h1, run_underlying h2, Conv.intToInt]
theorem MA {x : Operand} {i : Nat} {vs : List AV} {z : AV} (hN : d < N) (hx : cV x s = some (.tup vs)) (hi : vs[i]? = some z) :
  aW P N ⟨some d, .extract x i, ty, pos, af, g⟩ s (rd x) [(.s d, .sv (.v z))] :=
 aW.val rfl hN fun _ G _ a w _ hr hR => by
  have hv := aT hr hR hx
  generalize hav : a.eval x = u at hv
  cases hv
  rename_i us hl huv
  have hlt : i < us.size := by rw [hl]; exact (List.getElem?_eq_some_iff.1 hi).1
  refine ⟨us[i], ?_, ?_⟩
  ·simp [execOp, hav, Instr.extract, Array.getElem?_eq_getElem hlt]
  ·have := huv i z hi
   show V G us[i] z
   simpa [Array.getD_eq_getD_getElem?, Array.getElem?_eq_getElem hlt] using this
theorem eF {t1 : TypeId} {x i : Operand} {l : List UInt8} {k : IntKind} {n : Int} {c : UInt8} (hN : d < N) (h1 : P.underlying t1 = some .string) (hx : cV x s = some (.str l)) (hi : cV i s = some (.int k n)) (h0 : 0 ≤ n) (hc : l[n.toNat]? = some c) :
  aW P N ⟨some d, .index t1 x i, ty, pos, af, g⟩ s (rd x ++ rd i) [(.s d, .sv (.v (.int .u8 c.toNat)))] :=
 aW.val rfl hN fun _ G _ a w _ hr hR => by
  have hv := Bj (aT hr hR.left hx)
  have hn := lb (aT hr hR.right hi)
  refine ⟨.int .u8 c.toNat, ?_, .int _ _⟩
  have hlt := (List.getElem?_eq_some_iff.1 hc).1
  have hg : (⟨l.toArray⟩ : ByteArray)[n.toNat]? = some c := by
   have hlt' : n.toNat < (⟨l.toArray⟩ : ByteArray).size := by simpa [ByteArray.size] using hlt
   rw [getElem?_pos (⟨l.toArray⟩ : ByteArray) n.toNat hlt']
   have := (List.getElem?_eq_some_iff.1 hc).2
   simp [← this, ByteArray.getElem_eq_getElem_data]
  simp [execOp, hv, hn, Instr.index, asIntOf, run_underlying h1, h0, hg]
theorem It {t1 : TypeId} {x : Operand} {l : List UInt8} (hN : d < N) (h1 : P.underlying t1 = some .string) (hx : cV x s = some (.str l)) :
  aW P N ⟨some d, .call { callee := .builtin .len, args := #[x], argTypes := #[t1] }, ty, pos, af, g⟩ s (rd x) [(.s d, .sv (.v (.int .i64 l.length)))] :=
 aW.val rfl hN fun _ G _ a w _ hr hR => by
  have hv := Bj (aT hr hR hx)
  refine ⟨.int .i64 l.length, ?_, .int _ _⟩
  have e1 : (⟨l.toArray⟩ : ByteArray).size = l.length := by simp [ByteArray.size]
  simp [execOp, resolve, invoke, builtin, hv, Builtin.len_, run_underlying h1, goInt, e1]
theorem Ny {G : Gh} {v : Value} {xs : List AV} (h : V G v (.sl xs)) : ∃ A c, v = .slice A xs.length c := by
 cases h
 ·exact ⟨_, _, rfl⟩
 ·exact ⟨_, _, rfl⟩
theorem vg {t1 e : TypeId} {x : Operand} {xs : List AV} (hN : d < N) (h1 : P.underlying t1 = some (.slice e)) (hx : cV x s = some (.sl xs)) :
  aW P N ⟨some d, .call { callee := .builtin .len, args := #[x], argTypes := #[t1] }, ty, pos, af, g⟩ s (rd x) [(.s d, .sv (.v (.int .i64 xs.length)))] :=
 aW.val rfl hN fun _ G _ a w _ hr hR => by
  obtain ⟨A, c, hv⟩ := Ny (aT hr hR hx)
  refine ⟨.int .i64 xs.length, ?_, .int _ _⟩
  simp [execOp, resolve, invoke, builtin, hv, Builtin.len_, run_underlying h1, goInt]
end

def Loc.cM (L : Loc) (k b : Nat) : Loc := ⟨fun j => if j = k then some b else L.box j, L.tok⟩
theorem Loc.uP {L : Loc} {k b : Nat} (h : L.box k = none) : ∀ j c, L.box j = some c → (L.cM k b).box j = some c := by
 intro j c e
 simp only [Loc.cM]
 split
 ·rename_i hj; subst hj; rw [h] at e; cases e
 ·exact e
theorem D8 (w : World) (o : Obj) {i : Nat} {x : Obj} (h : w.heap[i]? = some x) : (w.alloc o).heap[i]? = some x := by
 rw [Below.heap_alloc w o i (Array.getElem?_eq_some_iff.1 h).1]; exact h
theorem AL {w : World} {a : Addr} {v : Value} (h : w.cell? a = some v) (o : Obj) : (w.alloc o).cell? a = some v := by
 rw [World.cell?_alloc_lt w o a (World.block_lt_of_cell? w a h)]; exact h
theorem Fr.alloc {M : Nat → Prop} {w w' : World} (h : Fr M w w') (o : Obj) : Fr M w (w'.alloc o) :=
 ⟨h.os, h.tape, h.output, by have := h.size; simp; omega, fun k hk hn => by rw [Below.heap_alloc w' o k (Nat.lt_of_lt_of_le hk h.size)]; exact h.block k hk hn⟩
theorem dz.alloc {G : Gh} {w : World} {H : Hp} (h : dz G w H) (o : Obj) : dz G (w.alloc o) H ∧ ∀ b, X.aa G H (w.alloc o) b ↔ X.aa G H w b :=
 h.stay (Gh.le.refl G) rfl (fun b hb => (h.aa hb).2) (fun b hb => Below.heap_alloc w o b (h.aa hb).1) (by simp)

theorem Rel.alloc {E : eB} {N : Nat} {G : Gh} {L : Loc} {a : Act} {w : World} {s : St} (h : Rel E N G L a w s) (k : Nat) (hk : get s (.b k) = none) (o : Obj) (cv : CV) (hl : cv.live = true) (hlk : cv.link = none)
  (ho : iM G (L.cM k w.heap.size) o cv) : Rel E N G (L.cM k w.heap.size) a (w.alloc o) ((.b k, cv) :: s) := by
 have hb0 := h.nobox k hk
 have hbl := Loc.uP (b := w.heap.size) hb0
 have htl : ∀ j u, L.tok j = some u → (L.cM k w.heap.size).tok j = some u := fun _ _ e => e
 have hown : ∀ c blk, owns ((.b k, cv) :: s) (L.cM k w.heap.size) c blk → (c = .b k ∧ blk = w.heap.size) ∨ owns s L c blk := by
  intro c blk hc
  by_cases e : c = .b k
  ·subst e
   refine .inl ⟨rfl, ?_⟩
   have := hc.2
   simp [Loc.cM] at this
   omega
  ·have h2 := dM e hc
   refine .inr ?_
   cases c with
   | b j =>
    obtain ⟨h3, h4⟩ := h2
    refine ⟨h3, ?_⟩
    have hj : j ≠ k := fun e' => e (by rw [e'])
    simpa [Loc.cM, hj] using h4
   | t j => exact h2
   | s n => exact h2
   | h => exact h2
 refine ⟨h.size, h.defs, h.ge, fun b o' v e => AL (h.kn b o' v e) _, h.old, h.obs, h.obn, h.fr.alloc o, ?_, ?_, ?_, ?_, ?_, ?_, ?_, ?_⟩
 ·intro n x g
  exact (h.slot n x (by simpa [get] using g)).loc hbl htl
 ·intro j cv' g hl'
  by_cases e : j = k
  ·subst e
   simp [get] at g
   subst g
   obtain ⟨H, gH, hokH, _⟩ := h.heap
   refine ⟨w.heap.size, o, by simp [Loc.cM], .inl h.iA, heap_alloc_new w o, ho, fun j' => ?_, by rw [hlk]; exact ⟨h.iA, fun id e => by have := (hokH.lt id _ e).2; omega⟩⟩
   cases hkn : G.kn w.heap.size j' with
   | none => rfl
   | some v => have := h.zo hkn; omega
  ·obtain ⟨blk, o', hb, hb2, hh, hok, hn⟩ := h.box j cv' (by simpa [get, Ne.symm e] using g) hl'
   exact ⟨blk, o', hbl j blk hb, hb2, D8 w o hh, hok.loc hbl htl, hn⟩
 ·intro j m el esz xs g
  have g' : get s (.t j) = some (.tk m el esz xs) := by simpa [get] using g
  exact (h.tok j m el esz xs g').stay (L := L) (Gh.le.refl G) (fun _ _ e => .inl ⟨_, e⟩) (fun v b hv hb => Below.heap_alloc w o b (iy h (c := .t j) ⟨⟨_, _, _, _, g'⟩, v, hv, hb⟩).1) (fun _ _ _ _ _ => rfl)
 ·intro c d blk hc hd
  rcases hown c blk hc with ⟨rfl, rfl⟩ | hc' <;> rcases hown d _ hd with ⟨rfl, h2⟩ | hd'
  ·rfl
  ·have := (iy h hd').1; omega
  ·have := (iy h hc').1; omega
  ·exact h.disj c d blk hc' hd'
 ·obtain ⟨H, g, hok, hmay⟩ := h.heap
  exact ⟨H, by simpa [get] using g, (hok.alloc o).1, fun b hb => hmay b (((hok.alloc o).2 b).1 hb)⟩
 ·intro c blk hc H2 g2 e
  obtain ⟨H, g, hok, hmay⟩ := h.heap
  have g3 : get s .h = some (.hp H2) := by simpa [get] using g2
  rw [g3] at g; cases g
  have e2 := ((hok.alloc o).2 blk).1 e
  rcases hown c blk hc with ⟨rfl, rfl⟩ | hc'
  ·have := (hok.aa e2).1; omega
  ·exact h.hdisj c blk hc' _ g3 e2
 ·intro j g
  by_cases e : j = k
  ·subst e; simp [get] at g
  ·have := h.nobox j (by simpa [get, Ne.symm e] using g)
   simpa [Loc.cM, e] using this
 ·intro j g
  exact h.notok j (by simpa [get] using g)

def lk (P : Program) (t : TypeId) : Option (Bool × Nat) :=
 match P.underlying t, P.info? t with
 | some d, some i => some ((match d with | .struct _ => true | .array _ _ => true | _ => false), i.size)
 | _, _ => none
theorem pV {P : Program} {t : TypeId} {b : Bool} {n : Nat} (h : lk P t = some (b, n)) (w : World) : (isAgg t).run P w = .ok b w ∧ (sizeOf t).run P w = .ok n w := by
 unfold lk at h
 split at h
 ·rename_i d i hd hi
  simp only [Option.some.injEq, Prod.mk.injEq] at h
  obtain ⟨rfl, rfl⟩ := h
  constructor
  ·simp only [isAgg, Sem.run_bind, run_underlying hd, Result.andThen_ok]
   cases d <;> rfl
  ·simp [sizeOf, typeInfo, hi]
 ·cases h
def fo (P : Program) (t : TypeId) (i : Nat) : Option Nat :=
 match P.underlying t with
 | some (.struct fs) => match fs[i]? with
  | some f => match P.info? f.type with
   | some j => if j.size = 0 then none else some f.offset
   | none => none
  | none => none
 | _ => none
theorem AD {P : Program} {t : TypeId} {i o : Nat} (h : fo P t i = some o) (w : World) (a : Addr) : (Instr.fieldAt t (.pointer (some a)) i).run P w = .ok (.pointer (some (a.add o))) w := by
 unfold fo at h
 split at h
 ·rename_i fs hfs
  split at h
  ·rename_i f hf
   split at h
   ·rename_i j hj
    split at h
    ·cases h
    ·rename_i hz
     cases h
     simp [Instr.fieldAt, run_underlying hfs, hf, Instr.sureAddr, fieldPlace, sizeOf, typeInfo, hj, hz]
   ·cases h
  ·cases h
 ·cases h
def ie (P : Program) (t : TypeId) : Option Nat :=
 match P.underlying t with
 | some (.slice e) => (P.info? e).map (·.size)
 | _ => none
theorem vu {P : Program} {t : TypeId} {n : Nat} (h : ie P t = some n) : ∃ e i, P.underlying t = some (.slice e) ∧ P.info? e = some i ∧ i.size = n := by
 unfold ie at h
 split at h
 ·rename_i e he
  cases hi : P.info? e with
  | none => rw [hi] at h; cases h
  | some i => rw [hi] at h; exact ⟨e, i, he, hi, by simpa using h⟩
 ·cases h
def Gg : List Value → Option (List AV)
 | [] => some []
 | v :: l => match Mg v, Gg l with
  | some a, some r => some (a :: r)
  | _, _ => none
def cE (P : Program) (t : TypeId) : Option (List AV) :=
 match P.info? t with
 | some i => match i.zero with
  | some z => Gg z.cells.toList
  | none => none
 | none => none
theorem yK {v : Value} {a : AV} (h : Mg v = some a) : a.flat = true := by
 unfold Mg at h
 split at h <;> first | (cases h; done) | (cases h; rfl)
theorem j6 (G : Gh) {l : List Value} {r : List AV} (h : Gg l = some r) : l.length = r.length ∧ ∀ (j : Nat) x, r[j]? = some x → x.flat = true ∧ V G (l.getD j undef) x := by
 induction l generalizing r with
 | nil => simp [Gg] at h; subst h; exact ⟨rfl, fun j x e => by simp at e⟩
 | cons v l ih =>
  simp only [Gg] at h
  split at h
  ·rename_i a r' ha hr
   cases h
   obtain ⟨h1, h2⟩ := ih hr
   refine ⟨by simp [h1], fun j x e => ?_⟩
   cases j with
   | zero => simp at e; subst e; exact ⟨yK ha, by simpa using pk G ha⟩
   | succ j => simpa using h2 j x (by simpa using e)
  ·cases h

def Sv.cells : Sv → List Sv
 | .v a => a.cells.map .v
 | x => [x]
def Sv.l8 : Sv → Bool
 | .v (.tup _) => true
 | .cd _ _ _ => true
 | _ => false
theorem xj {x : Sv} (h : x.l8 = false) : (∀ vs, x ≠ .v (.tup vs)) ∧ ∀ g b a, x ≠ .cd g b a := ⟨(by rintro vs rfl; cases h), (by rintro g b a rfl; cases h)⟩
theorem A7 {G : Gh} {L : Loc} {v : Value} {x : Sv} (hv : SV G L v x) (ht : (∀ vs, x ≠ .v (.tup vs)) ∧ ∀ g b a, x ≠ .cd g b a) : v.cells.size = x.cells.length ∧ ∀ (j : Nat) y, x.cells[j]? = some y → y.flat = true ∧ SV G L (v.cells.getD j undef) y := by
 by_cases hx : ∃ a, x = .v a
 ·obtain ⟨a, rfl⟩ := hx
  have hV : V G v a := hv
  obtain ⟨h1, h2⟩ := hV.cells (fun vs e => ht.1 vs (by rw [e]))
  refine ⟨by simpa [Sv.cells] using h1, fun j y e => ?_⟩
  simp only [Sv.cells, List.getElem?_map] at e
  cases hc : a.cells[j]? with
  | none => rw [hc] at e; cases e
  | some c => rw [hc] at e; cases e; exact h2 j c hc
 ·have hf : x.flat = true := by cases x <;> first | rfl | exact absurd ⟨_, rfl⟩ hx | exact absurd rfl (ht.2 _ _ _)
  have hc : x.cells = [x] := by cases x <;> first | rfl | exact absurd ⟨_, rfl⟩ hx
  rw [hc, kv (hv.fX hf)]
  refine ⟨rfl, fun j y e => ?_⟩
  cases j with
  | zero => simp at e; subst e; exact ⟨hf, hv⟩
  | succ j => simp at e

section
variable {P : Program} {N : Nat} {s : St} {d : Nat} {ty : TypeId} {pos : String} {af : Array Edge} {g : Option (Nat × Bool)}
theorem MD {t1 : TypeId} {x : Operand} {y : Sv} (hN : d < N) (hx : gS x s = some y) (hk : get s (.b d) = none) (ht : y.l8 = false) :
  aW P N ⟨some d, .box t1 x, ty, pos, af, g⟩ s (rd x ++ [.b d]) [(.s d, .sv (.lp d 0)), (.b d, .bx y.cells)] := by
 intro t hR E G L a w hr K Q hK
 have hv := bj hr hR.left hx
 have hk' : get t (.b d) = none := by rw [hR (.b d) (by simp)]; exact hk
 obtain ⟨h1, h2⟩ := A7 hv (xj ht)
 have hb0 := hr.nobox d hk'
 have hok : iM G (L.cM d w.heap.size) (.cells (a.eval x).cells t1) (.bx y.cells) :=
  ⟨_, _, rfl, h1, fun j z e => ⟨(h2 j z e).1, (h2 j z e).2.loc (Loc.uP hb0) (fun _ _ e => e)⟩⟩
 have hr1 := hr.alloc d hk' (.cells (a.eval x).cells t1) (.bx y.cells) rfl rfl hok
 have he : (execOp a.eval ⟨some d, .box t1 x, ty, pos, af, g⟩).run P w = .ok (.value (.pointer (some ⟨w.heap.size, 0, none⟩))) (w.alloc (.cells (a.eval x).cells t1)) := by
  simp [execOp, Instr.box, newVar, newRow]
 unfold Oper.wp
 rw [he]
 refine hK _ _ G (L.cM d w.heap.size) ?_
 exact hr1.put d hN _ (.lp d 0) ⟨w.heap.size, by simp [Loc.cM], rfl⟩
theorem MG {t1 : TypeId} {zs : List AV} (hN : d < N) (hz : cE P t1 = some zs) (hk : get s (.b d) = none) :
  aW P N ⟨some d, .alloc t1, ty, pos, af, g⟩ s [.b d] [(.s d, .sv (.lp d 0)), (.b d, .bx (zs.map .v))] := by
 intro t hR E G L a w hr K Q hK
 have hk' : get t (.b d) = none := by rw [hR (.b d) (by simp)]; exact hk
 unfold cE at hz
 split at hz
 ·rename_i i hi
  split at hz
  ·rename_i z hzz
   obtain ⟨h1, h2⟩ := j6 G hz
   have hok : iM G (L.cM d w.heap.size) (.cells z.cells t1) (.bx (zs.map .v)) := by
    refine ⟨_, _, rfl, by simpa using h1, fun j y e => ?_⟩
    simp only [List.getElem?_map] at e
    cases hc : zs[j]? with
    | none => rw [hc] at e; cases e
    | some c =>
     rw [hc] at e; cases e
     refine ⟨(h2 j c hc).1, ?_⟩
     have := (h2 j c hc).2
     show V G (z.cells.getD j undef) c
     rwa [Array.getD_eq_getD_getElem?, ← Array.getElem?_toList, ← List.getD_eq_getElem?_getD]
   have hr1 := hr.alloc d hk' (.cells z.cells t1) (.bx (zs.map .v)) rfl rfl hok
   have he : (execOp a.eval ⟨some d, .alloc t1, ty, pos, af, g⟩).run P w = .ok (.value (.pointer (some ⟨w.heap.size, 0, none⟩))) (w.alloc (.cells z.cells t1)) := by
    simp [execOp, Instr.alloc, zeroValue, typeInfo, hi, hzz, newVar, newRow]
   unfold Oper.wp
   rw [he]
   refine hK _ _ G (L.cM d w.heap.size) ?_
   exact hr1.put d hN _ (.lp d 0) ⟨w.heap.size, by simp [Loc.cM], rfl⟩
  ·cases hz
 ·cases hz
end

theorem Rel.My {E : eB} {N : Nat} {G : Gh} {L : Loc} {a : Act} {w w' : World} {s : St} (h : Rel E N G L a w s) {k blk : Nat} {cv0 cv : CV} (hk : get s (.b k) = some cv0) (hl0 : cv0.live = true) (hl : cv.live = true) (hlk : cv.link = cv0.link) (hb : L.box k = some blk)
  {o : Obj} (ho : iM G L o cv) (h1 : w'.os = w.os) (h2 : w'.tape = w.tape) (h3 : w'.output = w.output) (h4 : w'.heap.size = w.heap.size) (h5 : ∀ j, j ≠ blk → w'.heap[j]? = w.heap[j]?) (h6 : w'.heap[blk]? = some o) :
  Rel E N G L a w' ((.b k, cv) :: s) := by
 obtain ⟨blk', o', hb', hbase, hh, hok, hn, hlnk⟩ := h.box k cv0 hk hl0
 rw [hb] at hb'; cases hb'
 have hmine : owns s L (.b k) blk := ⟨⟨cv0, hk, hl0⟩, hb⟩
 have hown : ∀ c b, owns ((.b k, cv) :: s) L c b → owns s L c b := by
  intro c b hc
  by_cases e : c = .b k
  ·subst e
   have := hc.2
   rw [hb] at this; cases this
   exact hmine
  ·exact dM e hc
 have hcell : ∀ p v, w.cell? p = some v → p.block ≠ blk → w'.cell? p = some v := by
  intro p v hc hne
  rw [World.cell?_of_block (w := w) (h5 p.block hne)]; exact hc
 obtain ⟨H0, gH, hokH, hmayH⟩ := h.heap
 have hst := hokH.stay (w' := w') (Gh.le.refl G) rfl (fun b hb => (hokH.aa hb).2) (fun b hb => h5 b (fun e => h.hdisj _ _ hmine H0 gH (e ▸ hb))) (by rw [h4]; exact Nat.le_refl _)
 refine ⟨h.size, h.defs, h.ge, fun b j v e => hcell _ _ (h.kn b j v e) (fun e' => ?_), h.old, h.obs, h.obn, ⟨h1.trans h.fr.os, h2.trans h.fr.tape, h3.trans h.fr.output, by rw [h4]; exact h.fr.size, fun j hj hno => ?_⟩, ?_, ?_, ?_, ?_, ?_, ?_, ?_, ?_⟩
 ·simp at e'; subst e'; rw [hn j] at e; cases e
 ·rw [h5 j (fun e => by
   subst e
   rcases hbase with e | e
   ·omega
   ·exact hno e)]
  exact h.fr.block j hj hno
 ·intro n x g; exact h.slot n x (by simpa [get] using g)
 ·intro j cv' g hl'
  by_cases e : j = k
  ·subst e
   simp [get] at g
   subst g
   exact ⟨blk, o, hb, hbase, h6, ho, hn, by rw [hlk]; exact hlnk⟩
  ·have g' : get s (.b j) = some cv' := by simpa [get, Ne.symm e] using g
   obtain ⟨b2, o2, hb2, hbase2, hh2, hok2, hn2⟩ := h.box j cv' g' hl'
   refine ⟨b2, o2, hb2, hbase2, ?_, hok2, hn2⟩
   rw [h5 b2 (fun e2 => e (by
    have := h.disj (.b j) (.b k) blk ⟨⟨cv', g', hl'⟩, by rw [← e2]; exact hb2⟩ hmine
    injection this))]
   exact hh2
 ·intro j m el esz xs g
  have g' : get s (.t j) = some (.tk m el esz xs) := by simpa [get] using g
  refine (h.tok j m el esz xs g').stay (Gh.le.refl G) (fun _ _ e => .inl ⟨_, e⟩) (fun v b hv hb' => h5 b (fun e2 => ?_)) (fun _ _ _ _ _ => rfl)
  have := h.disj (.t j) (.b k) blk ⟨⟨m, el, esz, xs, g'⟩, v, hv, by rw [← e2]; exact hb'⟩ hmine
  cases this
 ·intro c d b hc hd; exact h.disj c d b (hown _ _ hc) (hown _ _ hd)
 ·exact ⟨H0, by simpa [get] using gH, hst.1, fun b hb => hmayH b ((hst.2 b).1 hb)⟩
 ·intro c b hc H2 g2 e2
  have g3 : get s .h = some (.hp H2) := by simpa [get] using g2
  rw [gH] at g3; cases g3
  exact h.hdisj c b (hown _ _ hc) _ gH ((hst.2 b).1 e2)
 ·intro j g
  by_cases e : j = k
  ·subst e; simp [get] at g
  ·exact h.nobox j (by simpa [get, Ne.symm e] using g)
 ·intro j g; exact h.notok j (by simpa [get] using g)

def nu : List Sv → Option (List AV)
 | [] => some []
 | x :: l => match x.av, nu l with
  | some a, some r => some (a :: r)
  | _, _ => none
theorem uF {l : List Sv} {r : List AV} (h : nu l = some r) : l.length = r.length ∧ ∀ (j : Nat) x, r[j]? = some x → ∃ y, l[j]? = some y ∧ y.av = some x := by
 induction l generalizing r with
 | nil => simp [nu] at h; subst h; exact ⟨rfl, fun j x e => by simp at e⟩
 | cons v l ih =>
  simp only [nu] at h
  split at h
  ·rename_i a r' ha hr
   cases h
   obtain ⟨h1, h2⟩ := ih hr
   refine ⟨by simp [h1], fun j x e => ?_⟩
   cases j with
   | zero => simp at e; subst e; exact ⟨v, by simp, ha⟩
   | succ j => simpa using h2 j x (by simpa using e)
  ·cases h
theorem Ba {x : Sv} {a : AV} (hx : x.flat = true) (h : x.av = some a) : a.flat = true := by
 cases x with
 | v b => simp [Sv.av] at h; subst h; exact hx
 | lp k off => simp [Sv.av] at h
 | ow k xs => simp [Sv.av] at h; subst h; rfl
 | mv k n => simp [Sv.av] at h
 | om k n => simp [Sv.av] at h
 | ov k esz lo n => simp [Sv.av] at h
 | ta k off => simp [Sv.av] at h
 | mp k => simp [Sv.av] at h
 | cd g b a => simp [Sv.av] at h
def wP (b : Bool) (n : Nat) (cs : List Sv) : Option Sv :=
 match b with
 | false => cs[0]?
 | true => match nu (cs.take n) with
  | some r => if r.length = n then some (.v (.agg r)) else none
  | none => none
theorem fm {P : Program} {G : Gh} {L : Loc} {t : TypeId} {b : Bool} {n : Nat} (hl : lk P t = some (b, n)) {cs : List Sv} {z : Sv} (hz : wP b n cs = some z) {w : World} {p : Addr} {f : Nat → Value}
  (hc : ∀ (j : Nat) y, cs[j]? = some y → w.cell? (p.add j) = some (f j) ∧ y.flat = true ∧ SV G L (f j) y) : ∃ v, (loadVar t p).run P w = .ok v w ∧ SV G L v z := by
 obtain ⟨ha, hs⟩ := pV hl w
 cases b with
 | false =>
  obtain ⟨h1, h2, h3⟩ := hc 0 z hz
  refine ⟨f 0, ?_, h3⟩
  have h1' : w.cell? p = some (f 0) := by simpa [Addr.add] using h1
  simp [loadVar, ha, h1']
 | true =>
  simp only [wP] at hz
  split at hz
  ·rename_i r hr
   split at hz
   ·rename_i hlen
    cases hz
    obtain ⟨h1, h2⟩ := uF hr
    have hcell : ∀ j, j < n → w.cell? (p.add j) = some (f j) := by
     intro j hj
     obtain ⟨y, hy, _⟩ := h2 j r[j] (by simp)
     rw [List.getElem?_take, if_pos hj] at hy
     exact (hc j y hy).1
    refine ⟨.agg ((List.range n).map f).toArray, ?_, ?_⟩
    ·simp [loadVar, ha, hs, run_loadCells w p n f hcell]
    ·have hel : ∀ (j : Nat) c, r[j]? = some c → c.flat = true ∧ V G (f j) c := by
      intro j c e
      obtain ⟨y, hy, hav⟩ := h2 j c e
      have hj : j < n := by have := (List.getElem?_eq_some_iff.1 e).1; omega
      rw [List.getElem?_take, if_pos hj] at hy
      obtain ⟨_, q2, q3⟩ := hc j y hy
      exact ⟨Ba q2 hav, q3.av hav⟩
     refine V.agg _ _ (by simp [hlen]) (fun j c e => (hel j c e).1) (fun j c e => ?_)
     have hj : j < n := by have := (List.getElem?_eq_some_iff.1 e).1; omega
     have : ((List.range n).map f).toArray.getD j undef = f j := by
      rw [Array.getD_eq_getD_getElem?]
      simp [hj]
     rw [this]
     exact (hel j c e).2
   ·cases hz
  ·cases hz

theorem oq {cv : CV} {cs : List Sv} (h : cv.AP = some cs) : cv.live = true := by cases cv <;> first | rfl | cases h
theorem wD {G : Gh} {L : Loc} {o : Obj} {cv : CV} {cs : List Sv} (h : cv.AP = some cs) (hk : iM G L o cv) : ∃ arr el, o = .cells arr el (0, 0) ∧ cs.length ≤ arr.size ∧ ∀ (j : Nat) x, cs[j]? = some x → x.flat = true ∧ SV G L (arr.getD j undef) x := by
 cases cv
 case bx l => cases h; obtain ⟨arr, el, e, h1, h2⟩ := hk; exact ⟨arr, el, e, Nat.le_of_eq h1.symm, h2⟩
 case ob id l => cases h; obtain ⟨arr, el, e, h1, h2⟩ := hk; exact ⟨arr, el, e, h1.1, h2⟩
 all_goals cases h
theorem B9 {G : Gh} {L : Loc} {cv : CV} {cs ds : List Sv} (h : cv.AP = some cs) {arr0 arr : Array Value} {el0 el : TypeId} (h0 : iM G L (.cells arr0 el0 (0, 0)) cv) (hd : ds.length = cs.length) (h1 : arr.size = arr0.size) (h2 : ∀ (j : Nat) x, ds[j]? = some x → x.flat = true ∧ SV G L (arr.getD j undef) x) : iM G L (.cells arr el (0, 0)) (cv.cM ds) := by
 cases cv
 case bx l => cases h; obtain ⟨a, e, e0, k1, k2⟩ := h0; cases e0; exact ⟨arr, el, rfl, by rw [h1, k1, hd], h2⟩
 case ob id l => cases h; obtain ⟨a, e, e0, k1, k2⟩ := h0; cases e0; exact ⟨arr, el, rfl, ⟨by rw [h1, hd]; exact k1.1, by rw [h1]; exact k1.2⟩, h2⟩
 all_goals (exfalso; cases h; done)
section
variable {P : Program} {N : Nat} {s : St} {d : Nat} {ty : TypeId} {pos : String} {af : Array Edge} {g : Option (Nat × Bool)}
theorem FH {t1 : TypeId} {x : Operand} {k off n : Nat} {b : Bool} {cv : CV} {cs : List Sv} {z : Sv} (hN : d < N) (hl : lk P t1 = some (b, n)) (hx : gS x s = some (.lp k off)) (hk : get s (.b k) = some cv) (hcv : cv.AP = some cs) (hz : wP b n (cs.drop off) = some z) :
  aW P N ⟨some d, .load t1 x, ty, pos, af, g⟩ s (rd x ++ [.b k]) [(.s d, .sv z)] :=
 aW.val rfl hN fun E G L a w t hr hR => by
  obtain ⟨blk, hb, hv⟩ := bj hr hR.left hx
  obtain ⟨blk', o, hb', hbase, hh, hobj, hn⟩ := hr.box k cv (by rw [hR (.b k) (by simp)]; exact hk) (oq hcv)
  obtain ⟨arr, el, rfl, hsz, hc⟩ := wD hcv hobj
  rw [hb] at hb'; cases hb'
  have hcell : ∀ (j : Nat) y, (cs.drop off)[j]? = some y → w.cell? ((⟨blk, off, none⟩ : Addr).add j) = some (arr.getD (off + j) undef) ∧ y.flat = true ∧ SV G L (arr.getD (off + j) undef) y := by
   intro j y e
   rw [List.getElem?_drop] at e
   refine ⟨?_, hc _ y e⟩
   have hlt : off + j < arr.size := by have := (List.getElem?_eq_some_iff.1 e).1; omega
   rw [Addr.add_lit, cell_of_row w blk (off + j) arr el (0, 0) hh, Array.getD_eq_getD_getElem?, Array.getElem?_eq_getElem hlt]
   rfl
  obtain ⟨v, hrun, hV⟩ := fm (P := P) hl hz hcell
  refine ⟨v, ?_, hV⟩
  simp [execOp, hv, Instr.loadAt, Instr.sureAddr, hrun]
theorem pO {t1 : TypeId} {x : Operand} {k off n : Nat} {b : Bool} {cs : List Sv} {z : Sv} (hN : d < N) (hl : lk P t1 = some (b, n)) (hx : gS x s = some (.lp k off)) (hk : get s (.b k) = some (.bx cs)) (hz : wP b n (cs.drop off) = some z) :
  aW P N ⟨some d, .load t1 x, ty, pos, af, g⟩ s (rd x ++ [.b k]) [(.s d, .sv z)] := FH hN hl hx hk rfl hz
theorem Lw {t1 : TypeId} {x : Operand} {k off n id : Nat} {b : Bool} {cs : List Sv} {z : Sv} (hN : d < N) (hl : lk P t1 = some (b, n)) (hx : gS x s = some (.lp k off)) (hk : get s (.b k) = some (.ob id cs)) (hz : wP b n (cs.drop off) = some z) :
  aW P N ⟨some d, .load t1 x, ty, pos, af, g⟩ s (rd x ++ [.b k]) [(.s d, .sv z)] := FH hN hl hx hk rfl hz
theorem Lx {t1 : TypeId} {x : Operand} {n : Nat} {b : Bool} {cs : List AV} {z : Sv} (hN : d < N) (hl : lk P t1 = some (b, n)) (hx : cV x s = some (.kp cs)) (hz : wP b n (cs.map .v) = some z) :
  aW P N ⟨some d, .load t1 x, ty, pos, af, g⟩ s (rd x) [(.s d, .sv z)] :=
 aW.val rfl hN fun E G L a w t hr hR => by
  have hv := aT hr hR hx
  generalize hav : a.eval x = u at hv
  cases hv
  rename_i blk off vs hk hf hvv
  have hcell : ∀ (j : Nat) y, (cs.map Sv.v)[j]? = some y → w.cell? ((⟨blk, off, none⟩ : Addr).add j) = some (vs j) ∧ y.flat = true ∧ SV G L (vs j) y := by
   intro j y e
   rw [List.getElem?_map] at e
   cases hc : cs[j]? with
   | none => rw [hc] at e; cases e
   | some c =>
    rw [hc] at e; cases e
    exact ⟨by rw [Addr.add_lit]; exact hr.kn _ _ _ (hk j c hc), hf j c hc, hvv j c hc⟩
  obtain ⟨v, hrun, hV⟩ := fm (P := P) hl hz hcell
  refine ⟨v, ?_, hV⟩
  simp [execOp, hav, Instr.loadAt, Instr.sureAddr, hrun]
theorem zW {t1 : TypeId} {x : Operand} {i k off o : Nat} (hN : d < N) (hf : fo P t1 i = some o) (hx : gS x s = some (.lp k off)) :
  aW P N ⟨some d, .fieldAddr t1 x i, ty, pos, af, g⟩ s (rd x) [(.s d, .sv (.lp k (off + o)))] :=
 aW.val rfl hN fun E G L a w t hr hR => by
  obtain ⟨blk, hb, hv⟩ := bj hr hR hx
  refine ⟨.pointer (some ⟨blk, off + o, none⟩), ?_, ⟨blk, hb, rfl⟩⟩
  simp [execOp, hv, AD hf, Addr.add_lit]
theorem Lz {t1 : TypeId} {x : Operand} {i o : Nat} {cs : List AV} (hN : d < N) (hf : fo P t1 i = some o) (hx : cV x s = some (.kp cs)) :
  aW P N ⟨some d, .fieldAddr t1 x i, ty, pos, af, g⟩ s (rd x) [(.s d, .sv (.v (.kp (cs.drop o))))] :=
 aW.val rfl hN fun E G L a w t hr hR => by
  have hv := aT hr hR hx
  generalize hav : a.eval x = u at hv
  cases hv
  rename_i blk off vs hk hff hvv
  refine ⟨.pointer (some ⟨blk, off + o, none⟩), ?_, V.kp blk (off + o) _ (fun j => vs (o + j)) ?_ ?_ ?_⟩
  ·simp [execOp, hav, AD hf, Addr.add_lit]
  ·intro j c e; rw [List.getElem?_drop] at e; rw [Nat.add_assoc]; exact hk _ c e
  ·intro j c e; rw [List.getElem?_drop] at e; exact hff _ c e
  ·intro j c e; rw [List.getElem?_drop] at e; exact hvv _ c e
theorem ak {t1 : TypeId} {x i : Operand} {esz : Nat} {k : IntKind} {n : Int} {xs : List AV} {e : AV} (hN : d < N) (ht : ie P t1 = some esz) (hx : cV x s = some (.sl xs)) (hi : cV i s = some (.int k n)) (h0 : 0 ≤ n)
  (he : xs[n.toNat]? = some e) (hsz : e.cells.length = esz) : aW P N ⟨some d, .indexAddr t1 x i, ty, pos, af, g⟩ s (rd x ++ rd i) [(.s d, .sv (.v (.kp e.cells)))] :=
 aW.val rfl hN fun E G L a w t hr hR => by
  have hv := aT hr hR.left hx
  have hn := lb (aT hr hR.right hi)
  obtain ⟨el, inf, hu, hinf, hsize⟩ := vu ht
  generalize hav : a.eval x = u at hv
  have hlt := (List.getElem?_eq_some_iff.1 he).1
  cases hv with
  | slE A cap => simp at he
  | slN blk off cap esz' _ vs hc hes hk hff hvv =>
   have : esz' = esz := (hes _ e he).symm.trans hsz
   subst this
   refine ⟨.pointer (some ⟨blk, off + n.toNat * esz', none⟩), ?_, V.kp blk _ _ (vs n.toNat) (fun j c q => hk _ e j c he q) (fun j c q => hff _ e j c he q) (fun j c q => hvv _ e j c he q)⟩
   have hlt' : n < (xs.length : Int) := by omega
   simp [execOp, hav, hn, Instr.indexAt, asIntOf, run_underlying hu, h0, hlt', sizeOf, typeInfo, hinf, hsize, Addr.add_lit]
theorem Ir {x : Operand} {k off : Nat} (hN : d < N) (hx : gS x s = some (.lp k off)) : aW P N ⟨some d, .nilCheck x, ty, pos, af, g⟩ s (rd x) [(.s d, .sv (.lp k off))] :=
 aW.val rfl hN fun E G L a w t hr hR => by
  obtain ⟨blk, hb, hv⟩ := bj hr hR hx
  exact ⟨.pointer (some ⟨blk, off, none⟩), by simp [execOp, hv], ⟨blk, hb, rfl⟩⟩
theorem Is {x : Operand} {cs : List AV} (hN : d < N) (hx : cV x s = some (.kp cs)) : aW P N ⟨some d, .nilCheck x, ty, pos, af, g⟩ s (rd x) [(.s d, .sv (.v (.kp cs)))] :=
 aW.val rfl hN fun E G L a w t hr hR => by
  have hv := aT hr hR hx
  generalize hav : a.eval x = u at hv
  cases hv
  rename_i blk off vs hk hff hvv
  exact ⟨.pointer (some ⟨blk, off, none⟩), by simp [execOp, hav], V.kp blk off cs vs hk hff hvv⟩

def setAt (cs : List Sv) (o : Nat) (ys : List Sv) : List Sv := cs.take o ++ ys ++ cs.drop (o + ys.length)
theorem Ew {t1 : TypeId} {x y : Operand} {k off n : Nat} {b : Bool} {cv : CV} {cs : List Sv} {z : Sv} (hl : lk P t1 = some (b, n)) (hx : gS x s = some (.lp k off)) (hk : get s (.b k) = some cv) (hcv : cv.AP = some cs) (hy : gS y s = some z) (ht : z.l8 = false)
  (hn : z.cells.length = n) (hf : off + n ≤ cs.length) : aW P N ⟨none, .store t1 x y, ty, pos, af, g⟩ s (rd x ++ (rd y ++ [.b k])) [(.b k, cv.cM (setAt cs off z.cells))] := by
 intro t hR E G L a w hr K Q hK
 obtain ⟨blk, hb, hv⟩ := bj hr hR.left hx
 have hz := bj hr hR.right.left hy
 have hk' : get t (.b k) = some cv := by rw [hR (.b k) (by simp)]; exact hk
 obtain ⟨blk', o, hb', hbase, hh, hob, hno⟩ := hr.box k cv hk' (oq hcv)
 obtain ⟨arr, el, rfl, hsz, hc⟩ := wD hcv hob
 rw [hb] at hb'; cases hb'
 obtain ⟨h1, h2⟩ := A7 hz (xj ht)
 have hlen : (a.eval y).cells.toList.length = n := by rw [Array.length_toList, h1, hn]
 have hone : ∀ u ∈ (a.eval y).cells.toList, u.oneCell' = true := by
  intro u hu
  obtain ⟨j, hj, rfl⟩ := List.mem_iff_getElem.1 hu
  have hj' : j < z.cells.length := by omega
  obtain ⟨q1, q2⟩ := h2 j z.cells[j] (by simp [hj'])
  have : (a.eval y).cells.getD j undef = (a.eval y).cells.toList[j] := by
   rw [Array.getD_eq_getD_getElem?, ← Array.getElem?_toList, List.getElem?_eq_getElem hj]; rfl
  rw [← this]
  exact q2.fX q1
 have hst := run_storeCells_at P blk off el (a.eval y).cells.toList 0 arr w hh (by rw [hlen]; omega) hone
 obtain ⟨_, hs⟩ := pV hl w
 simp only [Nat.add_zero] at hst
 let arr' : Array Value := (arr.toList.take off ++ (a.eval y).cells.toList ++ arr.toList.drop (off + (a.eval y).cells.toList.length)).toArray
 have hrun : (execOp a.eval ⟨none, .store t1 x y, ty, pos, af, g⟩).run P w = .ok .skip (w.setRow blk arr') := by
  have hne : ¬ ((a.eval y).cells.size ≠ n) := by rw [h1, hn]; simp
  simp only [execOp, Sem.run_bind, hv, Instr.storeAt, Instr.sureAddr, Sem.run_pure, Result.andThen_ok, storeVar, hs]
  rw [if_neg hne]
  simp only [hst, Result.andThen_ok]
  rfl
 have hobj : iM G L (.cells arr' el (0, 0)) (cv.cM (setAt cs off z.cells)) := by
  have hl1 : (arr.toList.take off).length = off := by rw [List.length_take, Array.length_toList]; omega
  have hl2 : (cs.take off).length = off := by rw [List.length_take]; omega
  refine B9 hcv hob ?_ ?_ fun j u e => ?_
  ·simp only [setAt, List.length_append, hl2, hn, List.length_drop]; omega
  ·simp only [arr', List.size_toArray, List.length_append, hl1, hlen, List.length_drop, Array.length_toList]; omega
  ·have key : arr'.getD j undef = if j < off then arr.getD j undef else if j < off + n then (a.eval y).cells.getD (j - off) undef else arr.getD j undef := by
    simp only [arr', Array.getD_eq_getD_getElem?, List.getElem?_toArray]
    rw [List.append_assoc]
    split
    ·rename_i hj
     rw [List.getElem?_append_left (by omega), List.getElem?_take, if_pos hj, Array.getElem?_toList]
    ·rename_i hj
     rw [List.getElem?_append_right (by omega), hl1]
     split
     ·rename_i hj2
      rw [List.getElem?_append_left (by omega), Array.getElem?_toList]
     ·rename_i hj2
      rw [List.getElem?_append_right (by omega), hlen, List.getElem?_drop, Array.getElem?_toList]
      congr 2
      omega
   rw [key]
   simp only [setAt] at e
   rw [List.append_assoc] at e
   split
   ·rename_i hj
    rw [List.getElem?_append_left (by omega), List.getElem?_take, if_pos hj] at e
    exact hc j u e
   ·rename_i hj
    rw [List.getElem?_append_right (by omega), hl2] at e
    split
    ·rename_i hj2
     rw [List.getElem?_append_left (by omega)] at e
     exact h2 _ u e
    ·rename_i hj2
     rw [List.getElem?_append_right (by omega), List.getElem?_drop] at e
     have he : off + z.cells.length + (j - off - z.cells.length) = j := by omega
     rw [he] at e
     exact hc j u e
 have hr2 := hr.My (cv := cv.cM (setAt cs off z.cells)) hk' (oq hcv) (by cases cv <;> rfl) (by cases cv <;> first | rfl | cases hcv) hb hobj (w' := w.setRow blk arr') rfl rfl rfl (size_setRow w blk arr') (fun j hj => setRow_other w blk j arr' hj) (setRow_heap w blk arr arr' el (0, 0) hh)
 unfold Oper.wp
 rw [hrun]
 exact hK undef _ G L hr2
theorem Ev {t1 : TypeId} {x y : Operand} {k off n : Nat} {b : Bool} {cs : List Sv} {z : Sv} (hl : lk P t1 = some (b, n)) (hx : gS x s = some (.lp k off)) (hk : get s (.b k) = some (.bx cs)) (hy : gS y s = some z) (ht : z.l8 = false)
  (hn : z.cells.length = n) (hf : off + n ≤ cs.length) : aW P N ⟨none, .store t1 x y, ty, pos, af, g⟩ s (rd x ++ (rd y ++ [.b k])) [(.b k, .bx (setAt cs off z.cells))] := Ew hl hx hk rfl hy ht hn hf
theorem Lr {t1 : TypeId} {x y : Operand} {k off n id : Nat} {b : Bool} {cs : List Sv} {z : Sv} (hl : lk P t1 = some (b, n)) (hx : gS x s = some (.lp k off)) (hk : get s (.b k) = some (.ob id cs)) (hy : gS y s = some z) (ht : z.l8 = false)
  (hn : z.cells.length = n) (hf : off + n ≤ cs.length) : aW P N ⟨none, .store t1 x y, ty, pos, af, g⟩ s (rd x ++ (rd y ++ [.b k])) [(.b k, .ob id (setAt cs off z.cells))] := Ew hl hx hk rfl hy ht hn hf
end

def Row (G : Gh) (arr : Array Value) (cs : List AV) : Prop := arr.size = cs.length ∧ ∀ (j : Nat) x, cs[j]? = some x → x.flat = true ∧ V G (arr.getD j undef) x
theorem uc (off : Nat) : ∀ (vs : List Value) (j0 : Nat) (arr : Array Value), off + j0 + vs.length ≤ arr.size →
  ((vs.zipIdx j0).foldl (fun (cs : Array Value) (p : Value × Nat) => cs.setIfInBounds (off + p.2) p.1) arr).size = arr.size ∧
  ∀ q, ((vs.zipIdx j0).foldl (fun (cs : Array Value) (p : Value × Nat) => cs.setIfInBounds (off + p.2) p.1) arr)[q]? = if off + j0 ≤ q ∧ q < off + j0 + vs.length then vs[q - (off + j0)]? else arr[q]?
 | [], j0, arr, h => ⟨rfl, fun q => by
  rw [if_neg (fun hq => by simp at hq; omega)]
  rfl⟩
 | v :: vs, j0, arr, h => by
  have h' : off + (j0 + 1) + vs.length ≤ (arr.setIfInBounds (off + j0) v).size := by simp at h ⊢; omega
  obtain ⟨h1, h2⟩ := uc off vs (j0 + 1) (arr.setIfInBounds (off + j0) v) h'
  simp only [List.zipIdx_cons, List.foldl_cons]
  refine ⟨by rw [h1]; simp, fun q => ?_⟩
  rw [h2 q]
  simp only [List.length_cons] at h ⊢
  by_cases e : q = off + j0
  ·subst e
   rw [if_neg (by omega), if_pos (by omega), Array.getElem?_setIfInBounds_self_of_lt (by omega)]
   simp
  ·by_cases hr : off + j0 ≤ q ∧ q < off + j0 + (vs.length + 1)
   ·rw [if_pos (by omega), if_pos hr]
    have : q - (off + j0) = (q - (off + (j0 + 1))) + 1 := by omega
    rw [this]; simp
   ·rw [if_neg (by omega), if_neg hr, Array.getElem?_setIfInBounds_ne (by omega)]
def j8 (place : Nat → Option (Nat × Nat)) (cells : List AV) : List (Nat × AV) → Option (List AV)
 | [] => some cells
 | (i, a) :: rest =>
  match place i with
  | none => none
  | some (off, size) => if a.cells.length = size ∧ off + size ≤ cells.length then (match a with | .tup _ => none | _ => j8 place (cells.take off ++ a.cells ++ cells.drop (off + size)) rest) else none
inductive yZ (G : Gh) : List (Nat × Value) → List (Nat × AV) → Prop where
 | nil : yZ G [] []
 | cons (i : Nat) (v : Value) (a : AV) (l : List (Nat × Value)) (m : List (Nat × AV)) : V G v a → yZ G l m → yZ G ((i, v) :: l) ((i, a) :: m)
theorem tF {G : Gh} {place : Nat → Option (Nat × Nat)} {l : List (Nat × Value)} {m : List (Nat × AV)} (hp : yZ G l m) : ∀ {arr : Array Value} {cs r : List AV}, Row G arr cs → j8 place cs m = some r →
  ∃ arr', Instr.fill place arr l = some arr' ∧ Row G arr' r := by
 induction hp with
 | nil => intro arr cs r hr h; simp [j8] at h; subst h; exact ⟨arr, rfl, hr⟩
 | cons i v a l m hV _ ih =>
  intro arr cs r hr h
  simp only [j8] at h
  split at h
  ·cases h
  ·rename_i off size hpl
   split at h
   ·rename_i hc
    have hnt : ∀ vs, a ≠ .tup vs := by rintro vs rfl; cases h
    have h' : j8 place (cs.take off ++ a.cells ++ cs.drop (off + size)) m = some r := by
     cases a <;> first | exact h | cases h
    obtain ⟨h1, h2⟩ := hV.cells hnt
    have hsz : v.cells.size = size := by rw [h1, hc.1]
    have hb : ¬ (v.cells.size ≠ size || decide (off + v.cells.size > arr.size)) = true := by
     simp [hsz]; have := hr.1; omega
    let arr1 : Array Value := v.cells.zipIdx.foldl (fun cs (c, j) => cs.setIfInBounds (off + j) c) arr
    have key : arr1.size = arr.size ∧ ∀ q, arr1[q]? = if off ≤ q ∧ q < off + size then v.cells[q - off]? else arr[q]? := by
     have := uc off v.cells.toList 0 arr (by rw [Array.length_toList, hsz]; have := hr.1; omega)
     have e : arr1 = (v.cells.toList.zipIdx 0).foldl (fun (cs : Array Value) (p : Value × Nat) => cs.setIfInBounds (off + p.2) p.1) arr := by
      simp only [arr1]
      rw [← Array.foldl_toList, Array.toList_zipIdx]
     rw [e]
     refine ⟨this.1, fun q => ?_⟩
     rw [this.2 q]
     simp [hsz]
    have hl1 : (cs.take off).length = off := by rw [List.length_take]; omega
    have hr1 : Row G arr1 (cs.take off ++ a.cells ++ cs.drop (off + size)) := by
     refine ⟨?_, fun j x e => ?_⟩
     ·rw [key.1, hr.1]; simp only [List.length_append, hl1, List.length_drop, hc.1]; omega
     ·rw [Array.getD_eq_getD_getElem?, key.2 j]
      rw [List.append_assoc] at e
      by_cases hj : j < off
      ·rw [List.getElem?_append_left (by omega), List.getElem?_take, if_pos hj] at e
       rw [if_neg (by omega), ← Array.getD_eq_getD_getElem?]
       exact hr.2 j x e
      ·rw [List.getElem?_append_right (by omega), hl1] at e
       by_cases hj2 : j < off + size
       ·rw [List.getElem?_append_left (by omega)] at e
        rw [if_pos (by omega), ← Array.getD_eq_getD_getElem?]
        exact h2 _ x e
       ·rw [List.getElem?_append_right (by omega), List.getElem?_drop] at e
        have he : off + size + (j - off - a.cells.length) = j := by omega
        rw [he] at e
        rw [if_neg (by omega), ← Array.getD_eq_getD_getElem?]
        exact hr.2 j x e
    obtain ⟨arr', h3, h4⟩ := ih hr1 h'
    refine ⟨arr', ?_, h4⟩
    simp only [Instr.fill, hpl]
    rw [if_neg hb]
    exact h3
   ·cases h
def ld : List (Nat × Operand) → St → Option (List (Nat × AV))
 | [], _ => some []
 | (i, x) :: l, s => match cV x s, ld l s with
  | some a, some r => some ((i, a) :: r)
  | _, _ => none
def nO : List Operand → List aI
 | [] => []
 | x :: l => rd x ++ nO l
theorem lF {E : eB} {N : Nat} {G : Gh} {L : Loc} {a : Act} {w : World} {s t : St} (hr : Rel E N G L a w t) : ∀ {l : List (Nat × Operand)} {m : List (Nat × AV)}, Reads (nO (l.map (·.2))) s t → ld l s = some m → yZ G (l.map fun (i, x) => (i, a.eval x)) m
 | [], m, _, h => by simp [ld] at h; subst h; exact .nil
 | (i, x) :: l, m, hR, h => by
  simp only [ld] at h
  split at h
  ·rename_i b r hb hr'
   cases h
   have hR' : Reads (rd x ++ nO (l.map (·.2))) s t := hR
   exact .cons i _ _ _ _ (aT hr hR'.left hb) (lF hr hR'.right hr')
  ·cases h

def D9 (P : Program) (t : TypeId) : Option (List (Nat × Nat)) :=
 match P.underlying t with
 | some (.struct fs) => fs.toList.mapM fun f => (P.info? f.type).map fun i => (f.offset, i.size)
 | _ => none
theorem s9 {P : Program} (w : World) : ∀ (fs : List Field) (pl : List (Nat × Nat)), fs.mapM (fun f => (P.info? f.type).map fun i => (f.offset, i.size)) = some pl →
  (fs.mapM fun f => (do pure (f.offset, ← sizeOf f.type) : Sem (Nat × Nat))).run P w = .ok pl w
 | [], pl, h => by simp at h; subst h; rfl
 | f :: fs, pl, h => by
  simp only [List.mapM_cons, Option.bind_eq_bind, Option.bind_eq_some_iff] at h
  obtain ⟨p, hp, l, hl, e⟩ := h
  cases hi : P.info? f.type with
  | none => rw [hi] at hp; cases hp
  | some i =>
   rw [hi] at hp
   cases hp
   simp at e
   subst e
   have ih := s9 w fs l hl
   simp only [List.mapM_cons, Sem.run_bind, sizeOf, typeInfo, run_program, Result.andThen_ok, hi, Sem.run_pure]
   simp only [sizeOf, typeInfo] at ih
   rw [ih]
   rfl
section
variable {P : Program} {N : Nat} {s : St} {d : Nat} {ty : TypeId} {pos : String} {af : Array Edge} {g : Option (Nat × Bool)}
theorem BC {t1 : TypeId} {ps : List (Nat × Operand)} {pl : List (Nat × Nat)} {zs : List AV} {qs : List (Nat × AV)} {r : List AV} (hN : d < N) (hpl : D9 P t1 = some pl) (hz : ∃ i z, P.info? t1 = some i ∧ i.zero = some z ∧ ∀ G, Row G z.cells zs) (hq : ld ps s = some qs) (hf : j8 (fun i => pl[i]?) zs qs = some r) :
  aW P N ⟨some d, .build t1 ps.toArray, ty, pos, af, g⟩ s (nO (ps.map (·.2))) [(.s d, .sv (.v (.agg r)))] :=
 aW.val rfl hN fun E G L a w t hr hR => by
  have hparts := lF hr hR hq
  obtain ⟨i, z, hi, hzz, hrow0⟩ := hz
  have bw := hrow0 G
  obtain ⟨arr', hfill, hrow'⟩ := tF hparts bw hf
  unfold D9 at hpl
  split at hpl
  ·rename_i fs hfs
   have hm := s9 (P := P) w fs.toList pl hpl
   refine ⟨.agg arr', ?_, V.agg _ _ hrow'.1 (fun j c e => (hrow'.2 j c e).1) (fun j c e => (hrow'.2 j c e).2)⟩
   have hmm : (fs.mapM fun f => (do pure (f.offset, ← sizeOf f.type) : Sem (Nat × Nat))).run P w = .ok pl.toArray w := by
    rw [Array.mapM_eq_mapM_toList]
    simp only [Sem.run_map, hm, Result.andThen_ok]
   have hfill' : Instr.fill (fun x => pl.toArray[x]?) z.cells (List.map (fun (x : Nat × Operand) => (x.1, a.eval x.2)) ps) = some arr' := by
    simpa using hfill
   simp only [execOp, Instr.build, Sem.run_bind, zeroValue, typeInfo, run_program, Result.andThen_ok, hi, Sem.run_pure, hzz, run_underlying hfs, hmm, List.map_toArray]
   rw [hfill']
   rfl
  ·cases hpl
theorem tx {t1 : TypeId} {zs : List AV} (hz : cE P t1 = some zs) : ∃ i z, P.info? t1 = some i ∧ i.zero = some z ∧ ∀ G, Row G z.cells zs := by
 unfold cE at hz
 split at hz
 ·rename_i i hi
  split at hz
  ·rename_i z hzz
   refine ⟨i, z, hi, hzz, fun G => ?_⟩
   obtain ⟨h1, h2⟩ := j6 G hz
   exact ⟨by simpa using h1, fun j x e => ⟨(h2 j x e).1, by
    have := (h2 j x e).2
    rwa [Array.getD_eq_getD_getElem?, ← Array.getElem?_toList, ← List.getD_eq_getElem?_getD]⟩⟩
  ·cases hz
 ·cases hz
theorem ME {t1 : TypeId} {ps : List (Nat × Operand)} {pl : List (Nat × Nat)} {zs : List AV} {qs : List (Nat × AV)} {r : List AV} (hN : d < N) (hpl : D9 P t1 = some pl) (hz : cE P t1 = some zs) (hq : ld ps s = some qs) (hf : j8 (fun i => pl[i]?) zs qs = some r) :
  aW P N ⟨some d, .build t1 ps.toArray, ty, pos, af, g⟩ s (nO (ps.map (·.2))) [(.s d, .sv (.v (.agg r)))] := BC hN hpl (tx hz) hq hf
def Mf (v : Value) : Option AV := match v with
 | .slice none 0 0 => some .nsl
 | v => Mg v
def yJ : List Value → Option (List AV)
 | [] => some []
 | v :: l => match Mf v, yJ l with
  | some a, some r => some (a :: r)
  | _, _ => none
def np (P : Program) (t : TypeId) : Option (List AV) :=
 match P.info? t with
 | some i => match i.zero with
  | some z => yJ z.cells.toList
  | none => none
 | none => none
theorem AO (G : Gh) {v : Value} {a : AV} (h : Mf v = some a) : a.flat = true ∧ V G v a := by
 unfold Mf at h
 split at h
 ·cases h; exact ⟨rfl, .nsl⟩
 ·exact ⟨yK h, pk G h⟩
theorem yI (G : Gh) {l : List Value} {r : List AV} (h : yJ l = some r) : l.length = r.length ∧ ∀ (j : Nat) x, r[j]? = some x → x.flat = true ∧ V G (l.getD j undef) x := by
 induction l generalizing r with
 | nil => simp [yJ] at h; subst h; exact ⟨rfl, fun j x e => by simp at e⟩
 | cons v l ih =>
  simp only [yJ] at h
  split at h
  ·rename_i a r' ha hr
   cases h
   obtain ⟨h1, h2⟩ := ih hr
   refine ⟨by simp [h1], fun j x e => ?_⟩
   cases j with
   | zero => simp at e; subst e; simpa using AO G ha
   | succ j => simpa using h2 j x (by simpa using e)
  ·cases h
theorem Bo {t1 : TypeId} {zs : List AV} (hz : np P t1 = some zs) : ∃ i z, P.info? t1 = some i ∧ i.zero = some z ∧ ∀ G, Row G z.cells zs := by
 unfold np at hz
 split at hz
 ·rename_i i hi
  split at hz
  ·rename_i z hzz
   refine ⟨i, z, hi, hzz, fun G => ?_⟩
   obtain ⟨h1, h2⟩ := yI G hz
   exact ⟨by simpa using h1, fun j x e => ⟨(h2 j x e).1, by
    have := (h2 j x e).2
    rwa [Array.getD_eq_getD_getElem?, ← Array.getElem?_toList, ← List.getD_eq_getElem?_getD]⟩⟩
  ·cases hz
 ·cases hz
theorem gx {t1 : TypeId} {ps : List (Nat × Operand)} {pl : List (Nat × Nat)} {zs : List AV} {qs : List (Nat × AV)} {r : List AV} (hN : d < N) (hpl : D9 P t1 = some pl) (hz : np P t1 = some zs) (hq : ld ps s = some qs) (hf : j8 (fun i => pl[i]?) zs qs = some r) :
  aW P N ⟨some d, .build t1 ps.toArray, ty, pos, af, g⟩ s (nO (ps.map (·.2))) [(.s d, .sv (.v (.agg r)))] := BC hN hpl (Bo hz) hq hf
def gj (P : Program) (f : FuncId) : Bool :=
 match P.funcs[f]? with
 | some fn => !(fn.name == "runtime.NumGoroutine") && fn.body.isSome
 | none => false
theorem lB {P : Program} {f : FuncId} (h : gj P f = true) (args : Array Value) (w : World) : (callFunc f args).run P w = .ok (.enter f args) w := by
 unfold gj at h
 split at h
 ·rename_i fn hfn
  simp only [Bool.and_eq_true, Bool.not_eq_true'] at h
  have hb : fn.body.isNone = false := by simpa using h.2
  simp only [callFunc, Sem.run_bind, run_program, Result.andThen_ok, hfn, h.1, Bool.false_eq_true, if_false, hb, Sem.run_pure]
 ·cases h
def kY : List Operand → St → Option (List AV)
 | [], _ => some []
 | x :: l, s => match cV x s, kY l s with
  | some a, some r => some (a :: r)
  | _, _ => none
theorem jR {E : eB} {N : Nat} {G : Gh} {L : Loc} {a : Act} {w : World} {s t : St} (hr : Rel E N G L a w t) : ∀ {l : List Operand} {m : List AV}, Reads (nO l) s t → kY l s = some m → l.length = m.length ∧ ∀ (j : Nat) x, m[j]? = some x → V G ((l.map a.eval).getD j undef) x
 | [], m, _, h => by simp [kY] at h; subst h; exact ⟨rfl, fun j x e => by simp at e⟩
 | x :: l, m, hR, h => by
  simp only [kY] at h
  split at h
  ·rename_i b r hb hr'
   cases h
   have h1 := aT hr (Reads.left (R := rd x) (R' := nO l) hR) hb
   obtain ⟨h2, h3⟩ := jR hr (Reads.right (R := rd x) (R' := nO l) hR) hr'
   refine ⟨by simp [h2], fun j y e => ?_⟩
   cases j with
   | zero => simp at e; subst e; exact h1
   | succ j => simpa using h3 j y (by simpa using e)
  ·cases h
theorem Gx {G : Gh} {l : List Value} {m : List AV} (h1 : l.length = m.length) (h2 : ∀ (j : Nat) x, m[j]? = some x → V G (l.getD j undef) x) : VL G l.toArray m := by
 refine ⟨by simpa using h1, fun j x e => ?_⟩
 have := h2 j x e
 simpa [Array.getD_eq_getD_getElem?, List.getD_eq_getElem?_getD] using this
theorem uj {o : Oper} {f : FuncId} {R : List aI} {«as» : List AV} {r : AV} (hp : Pure P f «as» r) (hd : o.dst = some d) (hN : d < N)
  (h : ∀ E G L a w t, Rel E N G L a w t → Reads R s t → ∃ cargs, (execOp a.eval o).run P w = .ok (.enter f cargs) w ∧ VL G cargs «as») : aW P N o s R [(.s d, .sv (.v r))] := by
 intro t hR E G L a w hr K Q hK
 obtain ⟨cargs, he, hV⟩ := h E G L a w t hr hR
 obtain ⟨H, hH, hok, hmay⟩ := hr.heap
 unfold Oper.wp
 rw [he]
 refine (hp H G w cargs (hr.vx (by assumption)) hr.kn hok hV).mono ?_
 rintro e w' ⟨v, G', rfl, hv, hx, hkn, hok', hf, hft⟩
 refine hK v w' G' L ?_
 rw [hd]
 have h1 := (hr.called (by assumption) hx hkn hok' hf hft).put d hN v (.v r) hv
 refine h1.ext fun c => ?_
 simp only [List.cons_append, List.nil_append, get]
 split
 ·rfl
 ·split
  ·rename_i h2; subst h2; exact hH
  ·rfl
theorem yL {o : Oper} {f : FuncId} {R : List aI} {«as» : List AV} {H : Hp} {r : AV} {H' : Hp} (hp : cB P f «as» H r H') (hd : o.dst = some d) (hN : d < N) (hH : get s .h = some (.hp H))
  (h : ∀ E G L a w t, Rel E N G L a w t → Reads R s t → ∃ cargs, (execOp a.eval o).run P w = .ok (.enter f cargs) w ∧ VL G cargs «as») : aW P N o s (R ++ [.h]) [(.s d, .sv (.v r)), (.h, .hp H')] := by
 intro t hR E G L a w hr K Q hK
 obtain ⟨cargs, he, hV⟩ := h E G L a w t hr hR.left
 obtain ⟨H2, hH2, hok, hmay⟩ := hr.heap
 have hHt : get t .h = some (.hp H) := by rw [hR .h (by simp)]; exact hH
 rw [hHt] at hH2; cases hH2
 unfold Oper.wp
 rw [he]
 refine (hp G w cargs (hr.vx (by assumption)) hr.kn hok hV).mono ?_
 rintro e w' ⟨v, G', rfl, hv, hx, hkn, hok', hf, hft⟩
 refine hK v w' G' L ?_
 rw [hd]
 exact (hr.called (by assumption) hx hkn hok' hf hft).put d hN v (.v r) hv
theorem j3 {f : FuncId} {xs : Array Operand} {tys : Array TypeId} {«as» : List AV} (hf : gj P f = true) (ha : kY xs.toList s = some «as») {dst : Option Tmp} : ∀ E G L a w t, Rel E N G L a w t → Reads (nO xs.toList) s t →
  ∃ cargs, (execOp a.eval ⟨dst, .call { callee := .value (.func f), args := xs, argTypes := tys }, ty, pos, af, g⟩).run P w = .ok (.enter f cargs) w ∧ VL G cargs «as» := by
 intro E G L a w t hr hR
 obtain ⟨h1, h2⟩ := jR hr hR ha
 refine ⟨(xs.toList.map a.eval).toArray, ?_, Gx (by simpa using h1) h2⟩
 have e : #[] ++ Array.map a.eval xs ++ #[] = (xs.toList.map a.eval).toArray := by apply Array.ext'; simp
 have he : a.eval (.func f) = .func (.func f) #[] #[] := rfl
 simp only [execOp, resolve, he, Deferred.ofValue, Sem.run_bind, Sem.run_pure, Result.andThen_ok, invoke, lB hf, e]
theorem aX {f : FuncId} {xs : Array Operand} {tys : Array TypeId} {«as» : List AV} {r : AV} (hN : d < N) (hf : gj P f = true) (ha : kY xs.toList s = some «as») (hp : Pure P f «as» r) :
  aW P N ⟨some d, .call { callee := .value (.func f), args := xs, argTypes := tys }, ty, pos, af, g⟩ s (nO xs.toList) [(.s d, .sv (.v r))] :=
 uj hp rfl hN (j3 hf ha)
theorem bf {f : FuncId} {xs : Array Operand} {tys : Array TypeId} {«as» : List AV} {r : AV} {H H' : Hp} (hN : d < N) (hf : gj P f = true) (hH : get s .h = some (.hp H)) (ha : kY xs.toList s = some «as») (hp : cB P f «as» H r H') :
  aW P N ⟨some d, .call { callee := .value (.func f), args := xs, argTypes := tys }, ty, pos, af, g⟩ s (nO xs.toList ++ [.h]) [(.s d, .sv (.v r)), (.h, .hp H')] :=
 yL hp rfl hN hH (j3 hf ha)
theorem pj {x : Operand} {f : FuncId} {xs : Array Operand} {tys : Array TypeId} {«as» caps : List AV} (hf : gj P f = true) (hx : cV x s = some (.fn f caps)) (ha : kY xs.toList s = some «as») {dst : Option Tmp} : ∀ E G L a w t, Rel E N G L a w t → Reads (rd x ++ nO xs.toList) s t →
  ∃ cargs, (execOp a.eval ⟨dst, .call { callee := .value x, args := xs, argTypes := tys }, ty, pos, af, g⟩).run P w = .ok (.enter f cargs) w ∧ VL G cargs («as» ++ caps) := by
 intro E G L a w t hr hR
 obtain ⟨h1, h2⟩ := jR hr hR.right ha
 have hv := aT hr hR.left hx
 generalize hav : a.eval x = u at hv
 cases hv
 rename_i vs hl hvv
 refine ⟨(xs.toList.map a.eval).toArray ++ vs, ?_, ?_⟩
 ·have e : #[] ++ Array.map a.eval xs ++ vs = (xs.toList.map a.eval).toArray ++ vs := by apply Array.ext'; simp
  simp only [execOp, resolve, hav, Deferred.ofValue, Sem.run_bind, Sem.run_pure, Result.andThen_ok, invoke, lB hf, e]
 ·refine ⟨by simp [← h1, hl], fun j y e => ?_⟩
  simp only [Array.getD_eq_getD_getElem?, Array.getElem?_append]
  by_cases hj : j < «as».length
  ·rw [List.getElem?_append_left hj] at e
   have := h2 j y e
   have hj' : j < (xs.toList.map a.eval).toArray.size := by simp; have := h1; simp at this; omega
   rw [if_pos hj']
   simpa [List.getD_eq_getElem?_getD] using this
  ·rw [List.getElem?_append_right (by omega)] at e
   have hsz : (xs.toList.map a.eval).toArray.size = «as».length := by simp; simpa using h1
   rw [if_neg (by omega), hsz, ← Array.getD_eq_getD_getElem?]
   exact hvv _ y e
theorem oP {x : Operand} {f : FuncId} {xs : Array Operand} {tys : Array TypeId} {«as» caps : List AV} {r : AV} (hN : d < N) (hf : gj P f = true) (hx : cV x s = some (.fn f caps)) (ha : kY xs.toList s = some «as») (hp : Pure P f («as» ++ caps) r) :
  aW P N ⟨some d, .call { callee := .value x, args := xs, argTypes := tys }, ty, pos, af, g⟩ s (rd x ++ nO xs.toList) [(.s d, .sv (.v r))] :=
 uj hp rfl hN (pj hf hx ha)
theorem lJ {f : FuncId} {caps : Array Operand} {cs : List AV} (hN : d < N) (hc : kY caps.toList s = some cs) :
  aW P N ⟨some d, .makeFunc (.func f) #[] caps, ty, pos, af, g⟩ s (nO caps.toList) [(.s d, .sv (.v (.fn f cs)))] :=
 aW.val rfl hN fun E G L a w t hr hR => by
  obtain ⟨h1, h2⟩ := jR hr hR hc
  refine ⟨.func (.func f) #[] (caps.map a.eval), by simp [execOp, Instr.makeFunc], ?_⟩
  have hV := Gx (l := caps.toList.map a.eval) (by simpa using h1) h2
  have e : caps.map a.eval = (caps.toList.map a.eval).toArray := by apply Array.ext'; simp
  rw [e]
  exact V.fn f _ _ hV.1 hV.2
end

def Gh.add (G : Gh) (b : Nat) (cells : List Value) : Gh := ⟨fun c o => if c = b then cells[o]? else G.kn c o, G.ob, G.sz⟩
theorem Gh.tY {G : Gh} {b : Nat} {cells : List Value} (h : ∀ o v, G.kn b o = some v → cells[o]? = some v) : G.le (G.add b cells) := by
 refine ⟨fun c o v e => ?_, fun _ _ e => e, fun _ _ _ => rfl⟩
 simp only [Gh.add]
 split
 ·rename_i hc; subst hc; exact h o v e
 ·exact e
def Loc.dG (L : Loc) (k : Nat) (v : Value) : Loc := ⟨L.box, fun j => if j = k then some v else L.tok j⟩
theorem Loc.uN {L : Loc} {k : Nat} {v : Value} (h : L.tok k = none) : ∀ j u, L.tok j = some u → (L.dG k v).tok j = some u := by
 intro j u e
 simp only [Loc.dG]
 split
 ·rename_i hj; subst hj; rw [h] at e; cases e
 ·exact e

theorem mh {esz i j n : Nat} (hi : i < n) (hj : j < esz) : i * esz + j < n * esz := by
 have : (i + 1) * esz ≤ n * esz := Nat.mul_le_mul_right _ hi
 rw [Nat.add_mul] at this
 omega
theorem Lay.append {G : Gh} {esz : Nat} {xs ys : List AV} {cs ds : List Value} (h : Lay G esz xs cs) (k : Lay G esz ys ds) (hc : cs.length = xs.length * esz) : Lay G esz (xs ++ ys) (cs ++ ds) := by
 refine ⟨fun i e he => ?_, fun i e j c he hj => ?_⟩
 ·rw [List.getElem?_append] at he
  split at he
  ·exact h.1 i e he
  ·exact k.1 _ e he
 ·have hjl := (List.getElem?_eq_some_iff.1 hj).1
  rw [List.getElem?_append] at he
  split at he
  ·rename_i hi
   have hlen := h.1 i e he
   obtain ⟨h1, h2⟩ := h.2 i e j c he hj
   refine ⟨h1, ?_⟩
   have hb := mh (esz := esz) (j := j) hi (by omega)
   rw [List.getD_eq_getElem?_getD, List.getElem?_append_left (by omega), ← List.getD_eq_getElem?_getD]
   exact h2
  ·rename_i hi
   obtain ⟨h1, h2⟩ := k.2 _ e j c he hj
   refine ⟨h1, ?_⟩
   have e2 : i * esz + j = cs.length + ((i - xs.length) * esz + j) := by
    rw [hc]
    have : i = xs.length + (i - xs.length) := by omega
    conv => lhs; rw [this]
    rw [Nat.add_mul]; omega
   rw [e2, List.getD_eq_getElem?_getD, List.getElem?_append_right (by omega), Nat.add_sub_cancel_left, ← List.getD_eq_getElem?_getD]
   exact h2

theorem Gw {G : Gh} {w : World} {base el esz : Nat} {v : Value} {xs : List AV} {cells : List Value} (ho : w.ownsRow base el esz v xs.length cells) (hL : Lay G esz xs cells)
  (hk : ∀ b, v.ownBlock = some b → ∀ o, o < xs.length * esz → G.kn b o = cells[o]?) : V G v (.sl xs) := by
 rcases ho.2 with ⟨rfl, hn⟩ | ⟨q, cap, cur, rfl, hq, hh, hcap, hm, _⟩
 ·have : xs = [] := List.eq_nil_of_length_eq_zero hn
  subst this
  exact V.slE none 0
 ·refine V.slN q 0 cap esz xs (fun i j => cells.getD (i * esz + j) undef) hcap hL.1 ?_ (fun i e j c a b => (hL.2 i e j c a b).1) (fun i e j c a b => (hL.2 i e j c a b).2)
  intro i e j c he hj
  have hi := (List.getElem?_eq_some_iff.1 he).1
  have hj' := (List.getElem?_eq_some_iff.1 hj).1
  rw [hL.1 i e he] at hj'
  have hb := mh (j := j) hi hj'
  rw [Nat.zero_add, hk q rfl _ hb]
  have hl : i * esz + j < cells.length := by rw [ho.1]; exact hb
  simp [List.getD_eq_getElem?_getD, List.getElem?_eq_getElem hl]

theorem Rel.vm {E : eB} {N : Nat} {G : Gh} {L : Loc} {a : Act} {w w1 : World} {s : St} (h : Rel E N G L a w s) {d el esz : Nat} {xs : List AV} {v1 : Value} {cells : List Value} {row : Option Nat} (m : Bool) (hd : get s (.t d) = none) (hz : 0 < esz)
  (hg : w.grownBy w1 row) (bw : ∀ b, row = some b → E.may b ∧ (∀ c, ¬ owns s L c b) ∧ (∀ H, get s .h = some (.hp H) → ¬ aa G H w b) ∧ (∀ id, G.ob id ≠ some b) ∧ ∀ o v, G.kn b o = some v → w1.cell? ⟨b, o, none⟩ = some v)
  (hv1 : ∀ b, v1.ownBlock = some b → row = some b ∨ w.heap.size ≤ b) (ho : w1.ownsRow 0 el esz v1 xs.length cells) (hL : Lay G esz xs cells)
  (hcons : ∀ b, v1.ownBlock = some b → ∀ o v, G.kn b o = some v → m = false ∧ cells[o]? = some v) :
  ∃ G', (m = false → V G' v1 (.sl xs)) ∧ G.le G' ∧ Rel E N G' (L.dG d v1) a w1 ((.t d, .tk m el esz xs) :: s) := by
 let G' : Gh := match m with | true => G | false => match v1.ownBlock with | some b => G.add b cells | none => G
 have hlen : cells.length = xs.length * esz := ho.1
 have hle : G.le G' := by
  cases m with
  | true => exact Gh.le.refl G
  | false =>
   simp only [G']
   split
   ·rename_i b hb; exact Gh.tY (fun o v e => (hcons b hb o v e).2)
   ·exact Gh.le.refl G
 have hkn' : m = false → ∀ b, v1.ownBlock = some b → ∀ o, G'.kn b o = cells[o]? := by
  intro hm b hb o
  subst hm
  simp only [G', hb, Gh.add, if_pos]
 have hkn2 : ∀ b o, (v1.ownBlock ≠ some b ∨ m = true) → G'.kn b o = G.kn b o := by
  intro b o hb
  cases m with
  | true => rfl
  | false =>
   have hb : v1.ownBlock ≠ some b := by rcases hb with hb | hb; exact hb; cases hb
   simp only [G']
   split
   ·rename_i c hc
    simp only [Gh.add]
    rw [if_neg (fun e => hb (by rw [hc, e]))]
   ·rfl
 have hkn3 : m = true → ∀ b, v1.ownBlock = some b → ∀ o, G'.kn b o = none := by
  intro hm b hb o
  rw [hkn2 b o (.inr hm)]
  cases e : G.kn b o with
  | none => rfl
  | some v => have := (hcons b hb o v e).1; rw [hm] at this; cases this
 have hob : G'.ob = G.ob := by
  cases m with
  | true => rfl
  | false => simp only [G']; split <;> rfl
 have hV : m = false → V G' v1 (.sl xs) := fun hm => Gw ho (hL.mono hle) fun b hb o _ => hkn' hm b hb o
 have htok0 := h.notok d hd
 have hbl : ∀ j c, L.box j = some c → (L.dG d v1).box j = some c := fun _ _ e => e
 have htl := Loc.uN (v := v1) htok0
 have hv1may : ∀ b, v1.ownBlock = some b → E.may b := by
  intro b hb
  rcases hv1 b hb with e | e
  ·exact (bw b e).1
  ·exact .inl (Nat.le_trans h.iA e)
 -- the blocks of others stay
 have hother : ∀ c b, owns s L c b → w1.heap[b]? = w.heap[b]? ∧ v1.ownBlock ≠ some b := by
  intro c b hc
  obtain ⟨hlt, hbase⟩ := iy h hc
  have hne : some b ≠ row := fun e => (bw b e.symm).2.1 c hc
  refine ⟨hg.block b hlt hne, fun e => ?_⟩
  rcases hv1 b e with e2 | e2
  ·exact hne e2.symm
  ·omega
 obtain ⟨H0, gH, hokH, hmayH⟩ := h.heap
 have hfoot : ∀ b, aa G H0 w b → some b ≠ row ∧ v1.ownBlock ≠ some b := by
  intro b hb
  have hne : some b ≠ row := fun e => (bw b e.symm).2.2.1 H0 gH hb
  refine ⟨hne, fun e => ?_⟩
  rcases hv1 b e with e2 | e2
  ·exact hne e2.symm
  ·have := (hokH.aa hb).1; omega
 have hst := hokH.stay (w' := w1) hle hob (fun b hb o => (hkn2 b o (.inl (hfoot b hb).2)).trans ((hokH.aa hb).2 o)) (fun b hb => hg.block b (hokH.aa hb).1 (hfoot b hb).1) hg.size
 have hown : ∀ c b, owns ((.t d, .tk m el esz xs) :: s) (L.dG d v1) c b → (c = .t d ∧ v1.ownBlock = some b) ∨ owns s L c b := by
  intro c b hc
  by_cases e : c = .t d
  ·subst e
   obtain ⟨_, v, hv, hb⟩ := hc
   simp [Loc.dG] at hv
   subst hv
   exact .inl ⟨rfl, hb⟩
  ·have h2 := dM e hc
   refine .inr ?_
   cases c with
   | b j => exact h2
   | t j =>
    obtain ⟨h3, v, hv, h4⟩ := h2
    have hj : j ≠ d := fun e' => e (by rw [e'])
    exact ⟨h3, v, by simpa [Loc.dG, hj] using hv, h4⟩
   | s n => exact h2
   | h => exact h2
 refine ⟨G', hV, hle, h.size, h.defs, h.ge, ?_, ?_, ?_, ?_, ?_, ?_, ?_, ?_, ?_, ?_, ?_, ?_, ?_⟩
 ·-- kn
  intro b o v e
  by_cases hb : v1.ownBlock = some b ∧ m = false
  ·obtain ⟨hb, hm⟩ := hb
   rw [hkn' hm b hb] at e
   have ho' := ho
   rcases ho'.2 with ⟨rfl, _⟩ | ⟨q, cap, cur, rfl, hq, hh, hcap, hmm, hcs, htake⟩
   ·simp [Value.ownBlock] at hb
   ·simp [Value.ownBlock] at hb
    subst hb
    rw [cell_of_row w1 q o cur el (0, 0) hh]
    rw [← htake, List.getElem?_take] at e
    split at e
    ·simpa using e
    ·cases e
  ·have hb2 : v1.ownBlock ≠ some b ∨ m = true := by
    by_cases h1 : v1.ownBlock = some b
    ·refine .inr ?_
     cases hm : m with
     | true => rfl
     | false => exact absurd ⟨h1, hm⟩ hb
    ·exact .inl h1
   rw [hkn2 b o hb2] at e
   by_cases hr : row = some b
   ·exact (bw b hr).2.2.2.2 o v e
   ·rw [World.cell?_of_block (w := w) (hg.block b (h.zo e) (fun e2 => hr e2.symm))]
    exact h.kn b o v e
 ·intro b o hb hmb
  by_cases hb1 : v1.ownBlock = some b
  ·rcases hv1may b hb1 with e | e
   ·omega
   ·exact absurd e hmb
  ·rw [hkn2 b o (.inl hb1)]; exact h.old b o hb hmb
 ·intro id b e; exact ⟨by rw [hob]; exact (h.obs id b e).1, (hle.sz id b (h.obs id b e).1).trans (h.obs id b e).2⟩
 ·intro id b e; rw [hob] at e; exact h.obn id b e
 ·refine ⟨hg.os.trans h.fr.os, hg.tape.trans h.fr.tape, hg.output.trans h.fr.output, Nat.le_trans h.fr.size hg.size, fun k hk hno => ?_⟩
  rw [hg.block k (Nat.lt_of_lt_of_le hk h.iA) (fun e => by
   rcases (bw k e.symm).1 with e2 | e2
   ·omega
   ·exact hno e2)]
  exact h.fr.block k hk hno
 ·intro n x g
  exact ((h.slot n x (by simpa [get] using g)).mono hle).loc hbl htl
 ·intro k cv g hl
  have g' : get s (.b k) = some cv := by simpa [get] using g
  obtain ⟨blk, o, hb, hbase, hh, hok, hn, hlk⟩ := h.box k cv g' hl
  obtain ⟨q1, q2⟩ := hother (.b k) blk ⟨⟨cv, g', hl⟩, hb⟩
  refine ⟨blk, o, hb, hbase, q1.trans hh, (hok.mono hle (pX hlk)).loc hbl htl, fun j => (hkn2 blk j (.inl q2)).trans (hn j), ?_⟩
  cases hl2 : cv.link with
  | some id => rw [hl2] at hlk; exact (congrFun hob id).trans hlk
  | none => rw [hl2] at hlk; exact ⟨hlk.1, fun id e => hlk.2 id ((congrFun hob id).symm.trans e)⟩
 ·intro k m' el' esz' xs' g
  by_cases e : k = d
  ·subst e
   simp [get] at g
   obtain ⟨rfl, rfl, rfl, rfl⟩ := g
   refine ⟨v1, by simp [Loc.dG], ⟨cells, hV, ho, hz, hL.mono hle, fun blk hb => ?_⟩, fun b hb => ⟨hv1may b hb, fun id e => ?_⟩⟩
   ·cases m with
    | true => exact hkn3 rfl blk hb
    | false =>
    refine ⟨fun o _ => hkn' rfl blk hb o, fun o hoo => ?_⟩
    rw [hkn' rfl blk hb, List.getElem?_eq_none (by omega)]
   ·rw [hob] at e
    rcases hv1 b hb with e2 | e2
    ·exact (bw b e2).2.2.2.1 id e
    ·have := (hokH.lt id b e).2; omega
  ·have g' : get s (.t k) = some (.tk m' el' esz' xs') := by simpa [get, Ne.symm e] using g
   obtain ⟨v, hv, hr, hm⟩ := h.tok k m' el' esz' xs' g'
   have how : ∀ b, v.ownBlock = some b → owns s L (.t k) b := fun b hb => ⟨⟨_, _, _, _, g'⟩, v, hv, hb⟩
   exact ⟨v, htl k v hv, hr.stay hle (fun b hb => (hother _ b (how b hb)).1) (fun b hb o => hkn2 b o (.inl (hother _ b (how b hb)).2)), fun b hb => ⟨(hm b hb).1, fun id e => (hm b hb).2 id ((congrFun hob id).symm.trans e)⟩⟩
 ·intro c e b hc he
  rcases hown c b hc with ⟨rfl, h1⟩ | h1 <;> rcases hown e b he with ⟨rfl, h2⟩ | h2
  ·rfl
  ·exact absurd h1 (hother e b h2).2
  ·exact absurd h2 (hother c b h1).2
  ·exact h.disj c e b h1 h2
 ·exact ⟨H0, by simpa [get] using gH, hst.1, fun b hb => hmayH b ((hst.2 b).1 hb)⟩
 ·intro c b hc H2 g2 e
  have g3 : get s .h = some (.hp H2) := by simpa [get] using g2
  rw [gH] at g3; cases g3
  have e2 := (hst.2 b).1 e
  rcases hown c b hc with ⟨rfl, h1⟩ | h1
  ·exact (hfoot b e2).2 h1
  ·exact h.hdisj c b h1 _ gH e2
 ·intro k g; exact h.nobox k (by simpa [get] using g)
 ·intro k g
  by_cases e : k = d
  ·subst e; simp [get] at g
  ·have := h.notok k (by simpa [get, Ne.symm e] using g)
   simpa [Loc.dG, e] using this

theorem Rel.JX {E : eB} {N : Nat} {G : Gh} {L : Loc} {a : Act} {w : World} {s : St} (h : Rel E N G L a w s) {k : Nat} {m : Bool} {el esz : Nat} {xs : List AV} (hk : get s (.t k) = some (.tk m el esz xs)) : Rel E N G L a w ((.t k, .gone) :: s) := by
 have hown : ∀ c b, owns ((.t k, .gone) :: s) L c b → owns s L c b := by
  intro c b hc
  by_cases e : c = .t k
  ·subst e; obtain ⟨⟨m, el, esz, xs, g⟩, _⟩ := hc; simp [get] at g
  ·exact dM e hc
 refine ⟨h.size, h.defs, h.ge, h.kn, h.old, h.obs, h.obn, h.fr, fun n x g => h.slot n x (by simpa [get] using g), fun j cv g => h.box j cv (by simpa [get] using g), fun j m el esz xs g => ?_,
  fun c d b hc hd => h.disj c d b (hown _ _ hc) (hown _ _ hd), (by simpa [get] using h.heap), fun c b hc H g => h.hdisj c b (hown _ _ hc) H (by simpa [get] using g), fun j g => h.nobox j (by simpa [get] using g), fun j g => ?_⟩
 ·by_cases e : j = k
  ·subst e; simp [get] at g
  ·exact h.tok j m el esz xs (by simpa [get, Ne.symm e] using g)
 ·by_cases e : j = k
  ·subst e; simp [get] at g
  ·exact h.notok j (by simpa [get, Ne.symm e] using g)
end Go.Proofs.YtgmdapgedlachaaGreatDoor.X
