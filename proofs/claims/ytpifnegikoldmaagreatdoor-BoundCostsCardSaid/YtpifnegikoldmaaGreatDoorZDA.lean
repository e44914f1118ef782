/- The package variables of the program: what is known of those that the library's decoder of texts reads. No condition. -/
import Derived.Test.YtpifnegikoldmaaGreatDoorProg
import Derived.Orders
import Derived.KernelRfl
import Derived.Shelf.Unicode.DecodeSlow
import Derived.Laws.OwnMore
import Derived.Maps.AppendAt
import Derived.Below
import Derived.WalkKit
import Derived.Laws.StructEq
import Derived.Lib.ConvBytes
import Derived.Deep.LoopGhost
namespace Go.Proofs.YtpifnegikoldmaaGreatDoor.X
open Go
def gN : Nat := 2
def EC (w : World) : Prop := Lib.Utf8Tabs 0 1 w
theorem iM {w w' : World} {b : Nat} (h : w'.heap[b]? = w.heap[b]?) (o : Nat) : w'.cell? ⟨b, o, none⟩ = w.cell? ⟨b, o, none⟩ := by
 simp only [World.cell?, h]
theorem DJ {w w' : World} (h : ∀ k, k < gN → w'.heap[k]? = w.heap[k]?) (k : EC w) : EC w' := by
 obtain ⟨h1, h2⟩ := k
 refine ⟨fun c hc => ?_, fun i hi => ?_⟩
 ·rw [iM (h 0 (by decide))]; exact h1 c hc
 ·rw [iM (h 1 (by decide)), iM (h 1 (by decide))]; exact h2 i hi
theorem Fc {w : World} (h : EC w) : Lib.Utf8Tabs 0 1 w := h
open Go Go.RowKit
/- A program logic over pure values: the values, what a concrete value stands for, the state of a frame, and that a frame and a world fit it. No condition. -/

inductive AV where
 | bool (b : Bool)
 | int (k : IntKind) (n : Int)
 | str (s : List UInt8)
 | sl (xs : List AV)
 | agg (cs : List AV)
 | tup (vs : List AV)
 | nilp
 | nsl
 | sll (n : Nat)
 | kp (cs : List AV)
 | op (id off : Nat)
 | os (id n c : Nat)
 | fn (f : FuncId) (caps : List AV)
 | nilf
 | yf (l : Nat)
 | ifc (t : TypeId) (v : AV)
 | nili
 | junk
 deriving Inhabited

def AV.flat : AV → Bool
 | .agg _ | .tup _ => false
 | _ => true
def AV.cells : AV → List AV
 | .agg cs => cs
 | v => [v]

structure Gh where
 kn : Nat → Nat → Option Value
 ob : Nat → Option Nat
 sz : Nat → Nat

inductive V (G : Gh) : Value → AV → Prop where
 | bool (b : Bool) : V G (.bool b) (.bool b)
 | int (k : IntKind) (n : Int) : V G (.int k n) (.int k n)
 | str (s : List UInt8) : V G (.string ⟨s.toArray⟩) (.str s)
 | junk (v : Value) (h : v.oneCell' = true) : V G v .junk
 | nilp : V G (.pointer none) .nilp
 | nsl : V G (.slice none 0 0) .nsl
 | sll (a : Option Addr) (n cap : Nat) : V G (.slice a n cap) (.sll n)
 | kp (b off : Nat) (cs : List AV) (vs : Nat → Value)
   (hk : ∀ (j : Nat) (c : AV), cs[j]? = some c → G.kn b (off + j) = some (vs j))
   (hf : ∀ (j : Nat) (c : AV), cs[j]? = some c → c.flat = true)
   (hv : ∀ (j : Nat) (c : AV), cs[j]? = some c → V G (vs j) c) : V G (.pointer (some ⟨b, off, none⟩)) (.kp cs)
 | op (id off b : Nat) (h : G.ob id = some b) : V G (.pointer (some ⟨b, off, none⟩)) (.op id off)
 | os (id n e b c : Nat) (h : G.ob id = some b) (hn : n ≤ c) (hz : c * e ≤ G.sz id) : V G (.slice (some ⟨b, 0, none⟩) n c) (.os id n e)
 | slE (a : Option Addr) (cap : Nat) : V G (.slice a 0 cap) (.sl [])
 | slN (b off cap esz : Nat) (xs : List AV) (vs : Nat → Nat → Value) (hc : xs.length ≤ cap)
   (he : ∀ (i : Nat) (e : AV), xs[i]? = some e → e.cells.length = esz)
   (hk : ∀ (i : Nat) (e : AV) (j : Nat) (c : AV), xs[i]? = some e → e.cells[j]? = some c → G.kn b (off + i * esz + j) = some (vs i j))
   (hf : ∀ (i : Nat) (e : AV) (j : Nat) (c : AV), xs[i]? = some e → e.cells[j]? = some c → c.flat = true)
   (hv : ∀ (i : Nat) (e : AV) (j : Nat) (c : AV), xs[i]? = some e → e.cells[j]? = some c → V G (vs i j) c) : V G (.slice (some ⟨b, off, none⟩) xs.length cap) (.sl xs)
 | agg (vs : Array Value) (cs : List AV) (hl : vs.size = cs.length) (hf : ∀ (j : Nat) (c : AV), cs[j]? = some c → c.flat = true)
   (hv : ∀ (j : Nat) (c : AV), cs[j]? = some c → V G (vs.getD j undef) c) : V G (.agg vs) (.agg cs)
 | tup (vs : Array Value) (cs : List AV) (hl : vs.size = cs.length)
   (hv : ∀ (j : Nat) (c : AV), cs[j]? = some c → V G (vs.getD j undef) c) : V G (.tuple vs) (.tup cs)
 | fn (f : FuncId) (vs : Array Value) (cs : List AV) (hl : vs.size = cs.length)
   (hv : ∀ (j : Nat) (c : AV), cs[j]? = some c → V G (vs.getD j undef) c) : V G (.func (.func f) #[] vs) (.fn f cs)
 | nilf : V G .nilFunc .nilf
 | yf (l : Nat) : V G (.func (.yield l) #[] #[]) (.yf l)
 | ifc (t : TypeId) (v : Value) (a : AV) (h : V G v a) : V G (.iface t v) (.ifc t a)
 | nili : V G .nilIface .nili

structure Gh.le (G G' : Gh) : Prop where
 kn : ∀ b o v, G.kn b o = some v → G'.kn b o = some v
 ob : ∀ id b, G.ob id = some b → G'.ob id = some b
 sz : ∀ id b, G.ob id = some b → G'.sz id = G.sz id
theorem Gh.le.refl (G : Gh) : G.le G := ⟨fun _ _ _ h => h, fun _ _ h => h, fun _ _ _ => rfl⟩
theorem V.mono {G G' : Gh} (h : G.le G') {v : Value} {a : AV} (hv : V G v a) : V G' v a := by
 induction hv with
 | bool b => exact .bool b
 | int k n => exact .int k n
 | str s => exact .str s
 | junk v h => exact .junk v h
 | nilp => exact .nilp
 | nsl => exact .nsl
 | sll a n cap => exact .sll a n cap
 | kp b off cs vs hk hf _ ih => exact .kp b off cs vs (fun j c e => h.kn _ _ _ (hk j c e)) hf ih
 | op id off b e => exact .op id off b (h.ob _ _ e)
 | os id n s b c e hn hz => exact .os id n s b c (h.ob _ _ e) hn (by rw [h.sz _ _ e]; exact hz)
 | slE a cap => exact .slE a cap
 | slN b off cap esz xs vs hc he hk hf _ ih => exact .slN b off cap esz xs vs hc he (fun i e j c h1 h2 => h.kn _ _ _ (hk i e j c h1 h2)) hf ih
 | agg vs cs hl hf _ ih => exact .agg vs cs hl hf ih
 | tup vs cs hl _ ih => exact .tup vs cs hl ih
 | fn f vs cs hl _ ih => exact .fn f vs cs hl ih
 | nilf => exact .nilf
 | yf l => exact .yf l
 | ifc t v a _ ih => exact .ifc t v a ih
 | nili => exact .nili

theorem V.eE {G : Gh} {v : Value} {a : AV} (hv : V G v a) (hf : a.flat = true) : v.oneCell' = true := by
 cases hv <;> first | rfl | assumption | (simp [AV.flat] at hf)

theorem AV.fR {a : AV} (h : a.flat = true) : a.cells = [a] := by cases a <;> first | rfl | (simp [AV.flat] at h)
theorem jA {v : Value} (h : v.oneCell' = true) : v.cells = #[v] := by cases v <;> first | rfl | (simp [Value.oneCell'] at h)
theorem V.cells {G : Gh} {v : Value} {a : AV} (hv : V G v a) (ht : ∀ vs, a ≠ .tup vs) : v.cells.size = a.cells.length ∧ (∀ (j : Nat) (c : AV), a.cells[j]? = some c → c.flat = true ∧ V G (v.cells.getD j undef) c) := by
 by_cases hf : a.flat = true
 ·rw [AV.fR hf, jA (hv.eE hf)]
  refine ⟨rfl, fun j c hc => ?_⟩
  cases j with
  | zero => simp at hc; subst hc; exact ⟨hf, hv⟩
  | succ j => simp at hc
 ·cases hv
  case agg vs cs hl hf2 hv => exact ⟨hl, fun j c h => ⟨hf2 j c h, hv j c h⟩⟩
  case tup => exact absurd rfl (ht _)
  all_goals exact absurd rfl hf

/-! ### The state of a frame -/
inductive Sv where
 | v (a : AV)
 | lp (k off : Nat)
 | ow (k : Nat) (xs : List AV)
 | mv (k n : Nat)
 | om (k n : Nat)
 | ov (k esz lo n : Nat)
 | ta (k off : Nat)
 | mp (k : Nat)
 | cd (g : Nat) (b : Bool) (a : AV)
 deriving Inhabited
def Sv.av : Sv → Option AV
 | .v a => some a
 | .ow _ xs => some (.sl xs)
 | _ => none
def Sv.flat : Sv → Bool
 | .v a => a.flat
 | .cd _ _ _ => false
 | _ => true

inductive Hc where
 | v (a : AV)
 | row (el esz : Nat) (xs : List AV)
structure Hp where
 next : Nat
 obj : Nat → Option (List Hc)

inductive aK where
 | s (n : Nat) | b (n : Nat) | t (n : Nat) | h
 deriving DecidableEq
inductive CV where
 | sv (x : Sv)
 | bx (cs : List Sv)
 | ob (id : Nat) (cs : List Sv)
 | bt (ty : TypeId) (cs : List Sv)
 | it (s : List UInt8) (pos : Nat)
 | tk (m : Bool) (el esz : Nat) (xs : List AV)
 | raw (Φ : Obj → Prop)
 | hp (H : Hp)
 | gone
def CV.live : CV → Bool
 | .bx _ | .ob _ _ | .it _ _ | .bt _ _ | .raw _ => true
 | _ => false
def CV.link : CV → Option Nat
 | .ob id _ => some id
 | _ => none
def CV.vt : CV → Option (List Sv)
 | .bx cs => some cs
 | .ob _ cs => some cs
 | _ => none
def CV.bk : CV → List Sv → CV
 | .ob id _, cs => .ob id cs
 | _, cs => .bx cs
abbrev St := List (aK × CV)
def get : St → aK → Option CV
 | [], _ => none
 | (c, v) :: s, d => if c = d then some v else get s d
theorem get_append (s t : St) (d : aK) : get (s ++ t) d = match get s d with | some v => some v | none => get t d := by
 induction s with
 | nil => simp [get]
 | cons x s ih =>
  obtain ⟨c, v⟩ := x
  simp only [List.cons_append, get]
  split
  ·rfl
  ·exact ih

structure Loc where
 box : Nat → Option Nat
 tok : Nat → Option Value

def SV (G : Gh) (L : Loc) (v : Value) : Sv → Prop
 | .v a => V G v a
 | .lp k off => ∃ blk, L.box k = some blk ∧ v = .pointer (some ⟨blk, off, none⟩)
 | .ow k xs => V G v (.sl xs) ∧ L.tok k = some v
 | .mv k n => ∃ blk cap, L.box k = some blk ∧ v = .slice (some ⟨blk, 0, none⟩) n cap ∧ n ≤ cap
 | .om k n => L.tok k = some v ∧ ∃ a cap, v = .slice a n cap
 | .ov k esz lo n => (n = 0 ∧ ∃ a c, v = .slice a 0 c) ∨ ∃ blk m c c', L.tok k = some (.slice (some ⟨blk, 0, none⟩) m c) ∧ v = .slice (some ⟨blk, lo * esz, none⟩) n c'
 | .ta k off => ∃ blk m c, L.tok k = some (.slice (some ⟨blk, 0, none⟩) m c) ∧ v = .pointer (some ⟨blk, off, none⟩)
 | .mp k => ∃ blk, L.box k = some blk ∧ v = .map (some blk)
 | .cd _ b a => b = true → V G v a

theorem SV.mono {G G' : Gh} (h : G.le G') {L : Loc} {v : Value} {x : Sv} (hv : SV G L v x) : SV G' L v x := by
 cases x with
 | v a => exact V.mono h hv
 | lp k off => exact hv
 | ow k xs => exact ⟨V.mono h hv.1, hv.2⟩
 | mv k n => exact hv
 | om k n => exact hv
 | ov k esz lo n => exact hv
 | ta k off => exact hv
 | mp k => exact hv
 | cd g b a => exact fun e => V.mono h (hv e)
theorem SV.loc {G : Gh} {L L' : Loc} (hb : ∀ k b, L.box k = some b → L'.box k = some b) (ht : ∀ k u, L.tok k = some u → L'.tok k = some u) {v : Value} {x : Sv} (hv : SV G L v x) : SV G L' v x := by
 cases x with
 | v a => exact hv
 | lp k off => obtain ⟨blk, h, e⟩ := hv; exact ⟨blk, hb _ _ h, e⟩
 | ow k xs => exact ⟨hv.1, ht _ _ hv.2⟩
 | mv k n => obtain ⟨blk, cap, h, e⟩ := hv; exact ⟨blk, cap, hb _ _ h, e⟩
 | om k n => exact ⟨ht _ _ hv.1, hv.2⟩
 | ov k esz lo n =>
  rcases hv with h0 | ⟨blk, m, c, c', h1, h2⟩
  ·exact .inl h0
  ·exact .inr ⟨blk, m, c, c', ht _ _ h1, h2⟩
 | ta k off => obtain ⟨blk, m, c, h1, h2⟩ := hv; exact ⟨blk, m, c, ht _ _ h1, h2⟩
 | mp k => obtain ⟨blk, h, e⟩ := hv; exact ⟨blk, hb _ _ h, e⟩
 | cd g b a => exact hv
theorem SV.eE {G : Gh} {L : Loc} {v : Value} {x : Sv} (hv : SV G L v x) (hf : x.flat = true) : v.oneCell' = true := by
 cases x with
 | v a => exact V.eE hv hf
 | lp k off => obtain ⟨blk, h, rfl⟩ := hv; rfl
 | ow k xs => exact V.eE hv.1 rfl
 | mv k n => obtain ⟨blk, cap, h, rfl, _⟩ := hv; rfl
 | om k n => obtain ⟨_, a, cap, rfl⟩ := hv; rfl
 | ov k esz lo n => rcases hv with ⟨_, a, c, rfl⟩ | ⟨blk, m, c, c', _, rfl⟩ <;> rfl
 | ta k off => obtain ⟨blk, m, c, _, rfl⟩ := hv; rfl
 | mp k => obtain ⟨blk, h, rfl⟩ := hv; rfl
 | cd g b a => simp [Sv.flat] at hf
theorem SV.av {G : Gh} {L : Loc} {v : Value} {x : Sv} {a : AV} (hv : SV G L v x) (h : x.av = some a) : V G v a := by
 cases x with
 | v b => simp [Sv.av] at h; subst h; exact hv
 | lp k off => simp [Sv.av] at h
 | ow k xs => simp [Sv.av] at h; subst h; exact hv.1
 | mv k n => simp [Sv.av] at h
 | om k n => simp [Sv.av] at h
 | ov k esz lo n => simp [Sv.av] at h
 | ta k off => simp [Sv.av] at h
 | mp k => simp [Sv.av] at h
 | cd g b a => simp [Sv.av] at h

structure Fr (M : Nat → Prop) (w w' : World) : Prop where
 os : w'.os = w.os
 tape : w'.tape = w.tape
 output : w'.output = w.output
 size : w.heap.size ≤ w'.heap.size
 block : ∀ k, k < w.heap.size → ¬ M k → w'.heap[k]? = w.heap[k]?
theorem Fr.refl (M : Nat → Prop) (w : World) : Fr M w w := ⟨rfl, rfl, rfl, Nat.le_refl _, fun _ _ _ => rfl⟩

structure dX where
 G0 : Gh
 w0 : World
 M : Nat → Prop
 ds : List Deferred
def GE (E : dX) : Prop := EC E.w0 ∧ gN ≤ E.w0.heap.size ∧ ∀ g, g < gN → ¬ E.M g
def dX.may (E : dX) (b : Nat) : Prop := E.w0.heap.size ≤ b ∨ E.M b

def fj (G : Gh) (L : Loc) (o : Obj) : CV → Prop
 | .bx cs => ∃ arr el, o = .cells arr el (0, 0) ∧ arr.size = cs.length ∧ ∀ (j : Nat) x, cs[j]? = some x → x.flat = true ∧ SV G L (arr.getD j undef) x
 | .ob id cs => ∃ arr el, o = .cells arr el (0, 0) ∧ (cs.length ≤ arr.size ∧ arr.size = G.sz id) ∧ ∀ (j : Nat) x, cs[j]? = some x → x.flat = true ∧ SV G L (arr.getD j undef) x
 | .bt ty cs => ∃ arr, o = .cells arr ty (0, 0) ∧ arr.size = cs.length ∧ ∀ (j : Nat) x, cs[j]? = some x → x.flat = true ∧ SV G L (arr.getD j undef) x
 | .it s pos => o = .stringIter ⟨s.toArray⟩ pos
 | .raw Φ => Φ o
 | _ => False
theorem fj.mono {G G' : Gh} (h : G.le G') {L : Loc} {o : Obj} {cv : CV} (hl : ∀ id, cv.link = some id → ∃ b, G.ob id = some b) (k : fj G L o cv) : fj G' L o cv := by
 cases cv with
 | bx cs =>
  obtain ⟨arr, el, e, hs, hc⟩ := k
  exact ⟨arr, el, e, hs, fun j x hx => ⟨(hc j x hx).1, (hc j x hx).2.mono h⟩⟩
 | ob id cs =>
  obtain ⟨arr, el, e, hs, hc⟩ := k
  obtain ⟨b, hb⟩ := hl id rfl
  exact ⟨arr, el, e, ⟨hs.1, hs.2.trans (h.sz id b hb).symm⟩, fun j x hx => ⟨(hc j x hx).1, (hc j x hx).2.mono h⟩⟩
 | bt ty cs =>
  obtain ⟨arr, e, hs, hc⟩ := k
  exact ⟨arr, e, hs, fun j x hx => ⟨(hc j x hx).1, (hc j x hx).2.mono h⟩⟩
 | it s pos => exact k
 | _ => exact k
theorem fj.loc {G : Gh} {L L' : Loc} (hb : ∀ k b, L.box k = some b → L'.box k = some b) (ht : ∀ k u, L.tok k = some u → L'.tok k = some u) {o : Obj} {cv : CV} (k : fj G L o cv) : fj G L' o cv := by
 cases cv with
 | bx cs =>
  obtain ⟨arr, el, e, hs, hc⟩ := k
  exact ⟨arr, el, e, hs, fun j x hx => ⟨(hc j x hx).1, (hc j x hx).2.loc hb ht⟩⟩
 | ob id cs =>
  obtain ⟨arr, el, e, hs, hc⟩ := k
  exact ⟨arr, el, e, hs, fun j x hx => ⟨(hc j x hx).1, (hc j x hx).2.loc hb ht⟩⟩
 | bt ty cs =>
  obtain ⟨arr, e, hs, hc⟩ := k
  exact ⟨arr, e, hs, fun j x hx => ⟨(hc j x hx).1, (hc j x hx).2.loc hb ht⟩⟩
 | it s pos => exact k
 | _ => exact k
def B8 (E : dX) (G : Gh) (blk : Nat) : Option Nat → Prop
 | some id => G.ob id = some blk
 | none => E.w0.heap.size ≤ blk ∧ ∀ id, G.ob id ≠ some blk
theorem mU {E : dX} {G : Gh} {blk : Nat} {l : Option Nat} (h : B8 E G blk l) : ∀ id, l = some id → ∃ b, G.ob id = some b := fun id e => by subst e; exact ⟨blk, h⟩
def pq (E : dX) (G : Gh) (L : Loc) (w : World) (k : Nat) (cv : CV) : Prop :=
 ∃ blk o, L.box k = some blk ∧ E.may blk ∧ w.heap[blk]? = some o ∧ fj G L o cv ∧ (∀ j, G.kn blk j = none) ∧ B8 E G blk cv.link
theorem pq.stay {E : dX} {G G' : Gh} {L : Loc} {w w' : World} {k : Nat} {cv : CV} (h : pq E G L w k cv) (hle : G.le G') (hob : ∀ id b, G'.ob id = some b → (∃ i, G.ob i = some b) ∨ w.heap.size ≤ b) (hb : ∀ b, L.box k = some b → w'.heap[b]? = w.heap[b]?) (hkn : ∀ b, L.box k = some b → ∀ o, G'.kn b o = G.kn b o) : pq E G' L w' k cv := by
 obtain ⟨blk, o, q1, q2, q3, q4, q5, q6⟩ := h
 refine ⟨blk, o, q1, q2, (hb blk q1).trans q3, q4.mono hle (mU q6), fun j => (hkn blk q1 j).trans (q5 j), ?_⟩
 cases hl : cv.link with
 | some id => rw [hl] at q6; exact hle.ob _ _ q6
 | none =>
  rw [hl] at q6
  refine ⟨q6.1, fun id e => ?_⟩
  rcases hob id blk e with ⟨i, e⟩ | e
  ·exact q6.2 i e
  ·have := (Array.getElem?_eq_some_iff.1 q3).1; omega
def Lay (G : Gh) (esz : Nat) (xs : List AV) (cells : List Value) : Prop :=
 (∀ (i : Nat) (e : AV), xs[i]? = some e → e.cells.length = esz) ∧
 ∀ (i : Nat) (e : AV) (j : Nat) (c : AV), xs[i]? = some e → e.cells[j]? = some c → c.flat = true ∧ V G (cells.getD (i * esz + j) undef) c
theorem Lay.mono {G G' : Gh} (h : G.le G') {esz : Nat} {xs : List AV} {cells : List Value} (k : Lay G esz xs cells) : Lay G' esz xs cells :=
 ⟨k.1, fun i e j c a b => ⟨(k.2 i e j c a b).1, (k.2 i e j c a b).2.mono h⟩⟩
def du (G : Gh) (w : World) (m : Bool) (el esz : Nat) (v : Value) (xs : List AV) : Prop :=
 ∃ cells, (m = false → V G v (.sl xs)) ∧ w.ownsRow 0 el esz v xs.length cells ∧ 0 < esz ∧ Lay G esz xs cells ∧
  ∀ blk, v.ownBlock = some blk → match m with
   | true => ∀ o, G.kn blk o = none
   | false => (∀ o, o < xs.length * esz → G.kn blk o = cells[o]?) ∧ ∀ o, xs.length * esz ≤ o → G.kn blk o = none
theorem du.lt {G : Gh} {w : World} {m : Bool} {el esz : Nat} {v : Value} {xs : List AV} (h : du G w m el esz v xs) {b : Nat} (hb : v.ownBlock = some b) : b < w.heap.size := by
 obtain ⟨cells, _, ho, _⟩ := h
 exact (ho.lt _ hb).2
theorem du.stay {G G' : Gh} {w w' : World} {m : Bool} {el esz : Nat} {v : Value} {xs : List AV} (h : du G w m el esz v xs) (hle : G.le G') (hb : ∀ b, v.ownBlock = some b → w'.heap[b]? = w.heap[b]?) (hkn : ∀ b, v.ownBlock = some b → ∀ o, G'.kn b o = G.kn b o) : du G' w' m el esz v xs := by
 obtain ⟨cells, hV, ho, hz, hL, hk⟩ := h
 refine ⟨cells, fun e => (hV e).mono hle, ⟨ho.1, ?_⟩, hz, hL.mono hle, fun blk e => ?_⟩
 ·rcases ho.2 with hnil | ⟨g, cap, cur, rfl, hb0, hgg, rest⟩
  ·exact .inl hnil
  ·exact .inr ⟨g, cap, cur, rfl, hb0, by rw [hb g rfl]; exact hgg, rest⟩
 ·have := hk blk e
  cases m with
  | true => exact fun o => (hkn blk e o).trans (this o)
  | false => exact ⟨fun o h => (hkn blk e o).trans (this.1 o h), fun o h => (hkn blk e o).trans (this.2 o h)⟩
def xT (E : dX) (G : Gh) (L : Loc) (w : World) (k : Nat) (m : Bool) (el esz : Nat) (xs : List AV) : Prop :=
 ∃ v, L.tok k = some v ∧ du G w m el esz v xs ∧ ∀ blk, v.ownBlock = some blk → E.may blk ∧ ∀ id, G.ob id ≠ some blk
def cE (G : Gh) (H : Hp) (w : World) (id j blk : Nat) : Prop :=
 ∃ cs el esz xs b arr t fr, H.obj id = some cs ∧ cs[j]? = some (.row el esz xs) ∧ G.ob id = some b ∧ w.heap[b]? = some (.cells arr t fr) ∧ (arr.getD j undef).ownBlock = some blk
def aZ (G : Gh) (H : Hp) (w : World) (blk : Nat) : Prop := (∃ id, (∃ cs, H.obj id = some cs) ∧ G.ob id = some blk) ∨ ∃ id j, cE G H w id j blk
def Gd (G : Gh) (w : World) (v : Value) : Hc → Prop
 | .v a => a.flat = true ∧ V G v a
 | .row el esz xs => du G w true el esz v xs
structure dK (G : Gh) (w : World) (H : Hp) : Prop where
 lt : ∀ id b, G.ob id = some b → id < H.next ∧ b < w.heap.size
 inj : ∀ id id' b, G.ob id = some b → G.ob id' = some b → (∃ cs, H.obj id = some cs) → (∃ cs, H.obj id' = some cs) → id = id'
 obj : ∀ id cs, H.obj id = some cs → ∃ blk arr el, G.ob id = some blk ∧ w.heap[blk]? = some (.cells arr el (0, 0)) ∧ (cs.length ≤ arr.size ∧ arr.size = G.sz id) ∧
  (∀ (j : Nat) x, cs[j]? = some x → Gd G w (arr.getD j undef) x) ∧ ∀ o, G.kn blk o = none
 apart : ∀ id j blk, cE G H w id j blk → (∀ id', G.ob id' ≠ some blk) ∧ ∀ id' j', cE G H w id' j' blk → id' = id ∧ j' = j
theorem dK.row {G : Gh} {w : World} {H : Hp} (h : dK G w H) {id j blk : Nat} (hr : cE G H w id j blk) : blk < w.heap.size ∧ ∀ o, G.kn blk o = none := by
 obtain ⟨cs, el, esz, xs, b, arr, t, fr, h1, h2, h3, h4, h5⟩ := hr
 obtain ⟨b', arr', el', q1, q2, q3, q4, q5⟩ := h.obj id cs h1
 rw [h3] at q1; cases q1
 rw [h4] at q2; cases q2
 have hk : du G w true el esz (arr.getD j undef) xs := q4 j _ h2
 have hk2 := hk
 obtain ⟨cells, _, _, _, _, hkn⟩ := hk2
 exact ⟨hk.lt h5, hkn blk h5⟩
theorem dK.aZ {G : Gh} {w : World} {H : Hp} (h : dK G w H) {blk : Nat} (hf : aZ G H w blk) : blk < w.heap.size ∧ ∀ o, G.kn blk o = none := by
 rcases hf with ⟨id, ⟨cs, h1⟩, h2⟩ | ⟨id, j, hr⟩
 ·obtain ⟨b', arr', el', q1, q2, q3, q4, q5⟩ := h.obj id cs h1
  rw [h2] at q1; cases q1
  exact ⟨(h.lt _ _ h2).2, q5⟩
 ·exact h.row hr
theorem dK.stay {G G' : Gh} {w w' : World} {H : Hp} (h : dK G w H) (hle : G.le G') (hob : G'.ob = G.ob) (hkn : ∀ b, X.aZ G H w b → ∀ o, G'.kn b o = none) (hb : ∀ b, X.aZ G H w b → w'.heap[b]? = w.heap[b]?) (hs : w.heap.size ≤ w'.heap.size) :
  dK G' w' H ∧ ∀ b, X.aZ G' H w' b ↔ X.aZ G H w b := by
 have hrw : ∀ id j b, cE G' H w' id j b ↔ cE G H w id j b := by
  intro id j b
  constructor
  ·rintro ⟨cs, el, esz, xs, b0, arr, t, fr, h1, h2, h3, h4, h5⟩
   rw [hob] at h3
   rw [hb b0 (.inl ⟨id, ⟨cs, h1⟩, h3⟩)] at h4
   exact ⟨cs, el, esz, xs, b0, arr, t, fr, h1, h2, h3, h4, h5⟩
  ·rintro ⟨cs, el, esz, xs, b0, arr, t, fr, h1, h2, h3, h4, h5⟩
   refine ⟨cs, el, esz, xs, b0, arr, t, fr, h1, h2, by rw [hob]; exact h3, ?_, h5⟩
   rw [hb b0 (.inl ⟨id, ⟨cs, h1⟩, h3⟩)]; exact h4
 refine ⟨⟨fun id b e => ?_, fun id id' b e e' k k' => h.inj id id' b (by rw [← hob]; exact e) (by rw [← hob]; exact e') k k', fun id cs e => ?_, fun id j blk hr => ?_⟩, fun b => ?_⟩
 ·rw [hob] at e
  exact ⟨(h.lt id b e).1, Nat.lt_of_lt_of_le (h.lt id b e).2 hs⟩
 ·obtain ⟨blk, arr, el, q1, q2, q3, q4, q5⟩ := h.obj id cs e
  have hf : X.aZ G H w blk := .inl ⟨id, ⟨cs, e⟩, q1⟩
  refine ⟨blk, arr, el, by rw [hob]; exact q1, by rw [hb blk hf]; exact q2, ⟨q3.1, q3.2.trans (hle.sz id blk q1).symm⟩, fun j x hx => ?_, hkn blk hf⟩
  have := q4 j x hx
  cases x with
  | v a => exact ⟨this.1, this.2.mono hle⟩
  | row el2 esz xs =>
   have hk : du G w true el2 esz (arr.getD j undef) xs := this
   refine du.stay hk hle (fun b e2 => hb b (.inr ⟨id, j, _, _, _, _, _, _, _, _, e, hx, q1, q2, e2⟩)) (fun b e2 o => ?_)
   have hf2 : X.aZ G H w b := .inr ⟨id, j, _, _, _, _, _, _, _, _, e, hx, q1, q2, e2⟩
   rw [hkn b hf2 o, (h.aZ hf2).2 o]
 ·rw [hrw] at hr
  obtain ⟨h1, h2⟩ := h.apart id j blk hr
  exact ⟨fun id' => by rw [hob]; exact h1 id', fun id' j' hr' => h2 id' j' ((hrw _ _ _).1 hr')⟩
 ·unfold X.aZ
  rw [hob]
  simp only [hrw]

def owns (s : St) (L : Loc) (c : aK) (blk : Nat) : Prop :=
 match c with
 | .b k => (∃ cv, get s (.b k) = some cv ∧ cv.live = true) ∧ L.box k = some blk
 | .t k => (∃ m el esz xs, get s (.t k) = some (.tk m el esz xs)) ∧ ∃ v, L.tok k = some v ∧ v.ownBlock = some blk
 | _ => False

structure Rel (E : dX) (N : Nat) (G : Gh) (L : Loc) (a : Act) (w : World) (s : St) : Prop where
 size : a.tmps.size = N
 defs : a.defers = E.ds
 ge : GE E
 kn : ∀ b o v, G.kn b o = some v → w.cell? ⟨b, o, none⟩ = some v
 old : ∀ b o, b < E.w0.heap.size → ¬ E.M b → G.kn b o = E.G0.kn b o
 obs : ∀ id b, E.G0.ob id = some b → G.ob id = some b ∧ G.sz id = E.G0.sz id
 obn : ∀ id b, G.ob id = some b → (∃ i, E.G0.ob i = some b) ∨ E.w0.heap.size ≤ b
 fr : Fr E.M E.w0 w
 slot : ∀ n x, get s (.s n) = some (.sv x) → SV G L (a.tmps.getD n undef) x
 box : ∀ k cv, get s (.b k) = some cv → cv.live = true → pq E G L w k cv
 tok : ∀ k m el esz xs, get s (.t k) = some (.tk m el esz xs) → xT E G L w k m el esz xs
 disj : ∀ c d blk, owns s L c blk → owns s L d blk → c = d
 heap : ∃ H, get s .h = some (.hp H) ∧ dK G w H ∧ ∀ b, aZ G H w b → E.may b
 hdisj : ∀ c blk, owns s L c blk → ∀ H, get s .h = some (.hp H) → ¬ aZ G H w blk
 nobox : ∀ k, get s (.b k) = none → L.box k = none
 notok : ∀ k, get s (.t k) = none → L.tok k = none

theorem Rel.ext {E : dX} {N : Nat} {G : Gh} {L : Loc} {a : Act} {w : World} {s t : St} (h : Rel E N G L a w s) (e : ∀ c, get t c = get s c) : Rel E N G L a w t := by
 have ho : ∀ c blk, owns t L c blk → owns s L c blk := by
  intro c blk hc
  cases c <;> simp only [owns, e] at hc ⊢ <;> exact hc
 exact ⟨h.size, h.defs, h.ge, h.kn, h.old, h.obs, h.obn, h.fr, fun n x g => h.slot n x (by rw [← e]; exact g), fun k cv g => h.box k cv (by rw [← e]; exact g),
  fun k m el esz xs g => h.tok k m el esz xs (by rw [← e]; exact g), fun c d blk hc hd => h.disj c d blk (ho _ _ hc) (ho _ _ hd), (by rw [e]; exact h.heap),
  fun c blk hc H g => h.hdisj c blk (ho _ _ hc) H (by rw [← e]; exact g), fun k g => h.nobox k (by rw [← e]; exact g), fun k g => h.notok k (by rw [← e]; exact g)⟩

theorem Rel.fV {E : dX} {N : Nat} {G : Gh} {L : Loc} {a : Act} {w : World} {s : St} (h : Rel E N G L a w s) : E.w0.heap.size ≤ w.heap.size := h.fr.size
theorem Rel.vR {E : dX} {N : Nat} {G : Gh} {L : Loc} {a : Act} {w : World} {s : St} (h : Rel E N G L a w s) {b o : Nat} {v : Value} (e : G.kn b o = some v) : b < w.heap.size :=
 World.block_lt_of_cell? w _ (h.kn b o v e)

theorem Rel.put {E : dX} {N : Nat} {G : Gh} {L : Loc} {a : Act} {w : World} {s : St} (h : Rel E N G L a w s) (d : Nat) (hd : d < N) (v : Value) (x : Sv) (hv : SV G L v x) :
  Rel E N G L (a.put (some d) v) w ((.s d, .sv x) :: s) := by
 have ho : ∀ c blk, owns ((.s d, .sv x) :: s) L c blk → owns s L c blk := by
  intro c blk hc
  cases c <;> simp only [owns, get, reduceCtorEq, if_false] at hc ⊢ <;> exact hc
 refine ⟨by simpa [Act.put] using h.size, by simpa [Act.put] using h.defs, h.ge, h.kn, h.old, h.obs, h.obn, h.fr, ?_, fun k cv g => h.box k cv (by simpa [get] using g),
  fun k m el esz xs g => h.tok k m el esz xs (by simpa [get] using g), fun c d blk hc hd => h.disj c d blk (ho _ _ hc) (ho _ _ hd), (by simpa [get] using h.heap),
  fun c blk hc H g => h.hdisj c blk (ho _ _ hc) H (by simpa [get] using g), fun k g => h.nobox k (by simpa [get] using g), fun k g => h.notok k (by simpa [get] using g)⟩
 intro n y g
 have hsz := h.size
 by_cases e : d = n
 ·subst e
  simp [get] at g
  subst g
  have : (a.put (some d) v).tmps.getD d undef = v := by
   simp only [Act.put, Array.getD_eq_getD_getElem?]
   rw [Array.getElem?_setIfInBounds_self_of_lt (by omega)]
   rfl
  rw [this]; exact hv
 ·simp [get, e] at g
  have : (a.put (some d) v).tmps.getD n undef = a.tmps.getD n undef := by
   simp only [Act.put, Array.getD_eq_getD_getElem?]
   rw [Array.getElem?_setIfInBounds_ne (by omega)]
  rw [this]; exact h.slot n y g
set_option linter.unusedVariables false
/- The program logic's rules: what a call does, one operation, a region in the text's order, and code. No condition. -/

/-! ### Calls -/
structure mh (M : Nat → Prop) (G G' : Gh) (w : World) : Prop where
 kn : ∀ b o, b < w.heap.size → ¬ M b → G'.kn b o = G.kn b o
 ob : ∀ id b, G.ob id = some b → G'.ob id = some b ∧ G'.sz id = G.sz id
 obn : ∀ id b, G'.ob id = some b → (∃ i, G.ob i = some b) ∨ w.heap.size ≤ b
def eT (G : Gh) (w : World) : Prop := ∀ b o v, G.kn b o = some v → w.cell? ⟨b, o, none⟩ = some v
theorem eT.lt {G : Gh} {w : World} (h : eT G w) {b o : Nat} {v : Value} (e : G.kn b o = some v) : b < w.heap.size := World.block_lt_of_cell? w _ (h b o v e)
theorem mh.le {M : Nat → Prop} {G G' : Gh} {w : World} (h : mh M G G' w) (hk : eT G w) (hM : ∀ b, M b → ∀ o, G.kn b o = none) : G.le G' :=
 ⟨fun b o v e => by rw [h.kn b o (hk.lt e) (fun hm => by rw [hM b hm o] at e; cases e)]; exact e, fun id b e => (h.ob id b e).1, fun id b e => (h.ob id b e).2⟩
def VL (G : Gh) (cargs : Array Value) (args : List AV) : Prop := cargs.size = args.length ∧ ∀ (j : Nat) x, args[j]? = some x → V G (cargs.getD j undef) x

def dW (P : Program) (f : FuncId) (args : List AV) (H : Hp) (r : AV) (H' : Hp) : Prop :=
 ∀ G w cargs, GE ⟨G, w, aZ G H w, []⟩ → eT G w → dK G w H → VL G cargs args → Calls P f cargs w fun e w' =>
  ∃ v G', e = .returned v ∧ V G' v r ∧ mh (aZ G H w) G G' w ∧ eT G' w' ∧ dK G' w' H' ∧ Fr (aZ G H w) w w' ∧ ∀ b, aZ G' H' w' b → w.heap.size ≤ b ∨ aZ G H w b
def Pure (P : Program) (f : FuncId) (args : List AV) (r : AV) : Prop := ∀ H, dW P f args H r H

theorem cT {s : St} {L : Loc} {c' : aK} {v : CV} {c : aK} {blk : Nat} (hne : c ≠ c') (h : owns ((c', v) :: s) L c blk) : owns s L c blk := by
 cases c <;> simp only [owns, get, if_neg (Ne.symm hne)] at h ⊢ <;> exact h
theorem gD {E : dX} {N : Nat} {G : Gh} {L : Loc} {a : Act} {w : World} {s : St} (h : Rel E N G L a w s) {c : aK} {blk : Nat} (hc : owns s L c blk) : blk < w.heap.size ∧ E.may blk := by
 cases c with
 | b k =>
  obtain ⟨⟨cs, hcs, hl⟩, hb⟩ := hc
  obtain ⟨blk', o, hb', hb2, hh, _⟩ := h.box k cs hcs hl
  rw [hb] at hb'; cases hb'
  exact ⟨(Array.getElem?_eq_some_iff.1 hh).1, hb2⟩
 | t k =>
  obtain ⟨⟨m, el, esz, xs, hcs⟩, v, hv, hb⟩ := hc
  obtain ⟨v', hv', hr, hm⟩ := h.tok k m el esz xs hcs
  rw [hv] at hv'; cases hv'
  exact ⟨hr.lt hb, (hm _ hb).1⟩
 | s n => exact hc.elim
 | h => exact hc.elim
theorem xT.stay {E : dX} {G G' : Gh} {L : Loc} {w w' : World} {k : Nat} {m : Bool} {el esz : Nat} {xs : List AV} (h : xT E G L w k m el esz xs) (hle : G.le G') (hob : ∀ id b, G'.ob id = some b → (∃ i, G.ob i = some b) ∨ w.heap.size ≤ b) (hb : ∀ v b, L.tok k = some v → v.ownBlock = some b → w'.heap[b]? = w.heap[b]?)
  (hkn : ∀ v b, L.tok k = some v → v.ownBlock = some b → ∀ o, G'.kn b o = G.kn b o) : xT E G' L w' k m el esz xs := by
 obtain ⟨v, hv, hr, hm⟩ := h
 refine ⟨v, hv, hr.stay hle (fun b e => hb v b hv e) (fun b e => hkn v b hv e), fun b e => ⟨(hm b e).1, fun id e2 => ?_⟩⟩
 rcases hob id b e2 with ⟨i, e3⟩ | e3
 ·exact (hm b e).2 i e3
 ·have := hr.lt e; omega

theorem Rel.called {E : dX} {N : Nat} {G G' : Gh} {L : Loc} {a : Act} {w w' : World} {s : St} {H : Hp} (h : Rel E N G L a w s) (hH0 : get s .h = some (.hp H)) (hx : mh (aZ G H w) G G' w) (hk : eT G' w') {H' : Hp} (hH : dK G' w' H') (hf : Fr (aZ G H w) w w')
  (hft : ∀ b, aZ G' H' w' b → w.heap.size ≤ b ∨ aZ G H w b) : Rel E N G' L a w' ((.h, .hp H') :: s) := by
 obtain ⟨H2, g2, hok, hmay⟩ := h.heap
 rw [hH0] at g2; cases g2
 have hle : G.le G' := hx.le h.kn (fun b hb => (hok.aZ hb).2)
 have ho : ∀ c blk, owns ((.h, .hp H') :: s) L c blk → owns s L c blk := by
  intro c blk hc
  cases c <;> simp only [owns, get, reduceCtorEq, if_false] at hc ⊢ <;> exact hc
 have hlt : ∀ c blk, owns s L c blk → blk < w.heap.size := fun c blk hc => (gD h hc).1
 have hnf : ∀ c blk, owns s L c blk → ¬ aZ G H w blk := fun c blk hc => h.hdisj c blk hc H hH0
 have hblk : ∀ c blk, owns s L c blk → w'.heap[blk]? = w.heap[blk]? := fun c blk hc => hf.block blk (hlt c blk hc) (hnf c blk hc)
 have hknb : ∀ c blk, owns s L c blk → ∀ o, G'.kn blk o = G.kn blk o := fun c blk hc o => hx.kn blk o (hlt c blk hc) (hnf c blk hc)
 have hold : ∀ b, b < E.w0.heap.size → ¬ E.M b → ¬ aZ G H w b := fun b hb hm hf' => by
  rcases hmay b hf' with e | e
  ·omega
  ·exact hm e
 refine ⟨h.size, h.defs, h.ge, hk, fun b o hb hm => (hx.kn b o (Nat.lt_of_lt_of_le hb h.fV) (hold b hb hm)).trans (h.old b o hb hm), fun id b e => ⟨(hx.ob id b (h.obs id b e).1).1, (hx.ob id b (h.obs id b e).1).2.trans (h.obs id b e).2⟩, ?_, ?_, ?_, ?_, ?_,
  fun c d blk hc hd => h.disj c d blk (ho _ _ hc) (ho _ _ hd), ⟨H', by simp [get], hH, fun b hb => ?_⟩, ?_, fun k g => h.nobox k (by simpa [get] using g), fun k g => h.notok k (by simpa [get] using g)⟩
 ·intro id b e
  rcases hx.obn id b e with ⟨i, e⟩ | e
  ·exact h.obn i b e
  ·exact .inr (Nat.le_trans h.fV e)
 ·exact ⟨hf.os.trans h.fr.os, hf.tape.trans h.fr.tape, hf.output.trans h.fr.output, Nat.le_trans h.fr.size hf.size, fun k hk hno =>
   (hf.block k (Nat.lt_of_lt_of_le hk h.fV) (hold k hk hno)).trans (h.fr.block k hk hno)⟩
 ·intro n x g
  exact (h.slot n x (by simpa [get] using g)).mono hle
 ·intro k cv g hl
  have g' : get s (.b k) = some cv := by simpa [get] using g
  have how : ∀ b, L.box k = some b → owns s L (.b k) b := fun b hb => ⟨⟨cv, g', hl⟩, hb⟩
  exact (h.box k cv g' hl).stay hle hx.obn (fun b hb => hblk _ _ (how b hb)) (fun b hb => hknb _ _ (how b hb))
 ·intro k m el esz xs g
  have g' : get s (.t k) = some (.tk m el esz xs) := by simpa [get] using g
  have hown : ∀ v b, L.tok k = some v → v.ownBlock = some b → owns s L (.t k) b := fun v b hv hb => ⟨⟨m, el, esz, xs, g'⟩, v, hv, hb⟩
  exact (h.tok k m el esz xs g').stay hle hx.obn (fun v b hv hb => hblk _ _ (hown v b hv hb)) (fun v b hv hb => hknb _ _ (hown v b hv hb))
 ·rcases hft b hb with e | e
  ·exact .inl (Nat.le_trans h.fV e)
  ·exact hmay b e
 ·intro c blk hc H2 g hft2
  simp [get] at g
  subst g
  rcases hft blk hft2 with e | e
  ·have := hlt c blk (ho _ _ hc); omega
  ·exact hnf c blk (ho _ _ hc) e

theorem Rel.sB {E : dX} {N : Nat} {G : Gh} {L : Loc} {a : Act} {w : World} {s : St} {H : Hp} (h : Rel E N G L a w s) (hH : get s .h = some (.hp H)) : GE ⟨G, w, aZ G H w, []⟩ := by
 obtain ⟨h1, h2, h3⟩ := h.ge
 obtain ⟨H0, g0, _, hmay⟩ := h.heap
 rw [hH] at g0; cases g0
 refine ⟨DJ (fun k hk => h.fr.block k (Nat.lt_of_lt_of_le hk h2) (h3 k hk)) h1, Nat.le_trans h2 h.fr.size, fun g hg hf => ?_⟩
 rcases hmay g hf with e | e
 ·exact absurd (Nat.lt_of_lt_of_le hg h2) (Nat.not_lt.2 e)
 ·exact h3 g hg e
/-! ### One operation -/
def Reads (R : List aK) (s t : St) : Prop := ∀ c ∈ R, get t c = get s c
def aY (P : Program) (N : Nat) (o : Oper) (s : St) (R : List aK) (ws : St) : Prop :=
 ∀ t, Reads R s t → ∀ E G L a w, Rel E N G L a w t → ∀ (K : Act → World → Prop) (Q : Exit → Act → World → Prop),
  (∀ v w' G' L', Rel E N G' L' (a.put o.dst v) w' (ws ++ t) → K (a.put o.dst v) w') → o.wp P a w K Q

def Fits (E : dX) (N : Nat) (s : St) (a : Act) (w : World) : Prop := ∃ G L, Rel E N G L a w s

def aB (P : Program) (N : Nat) (ops : Array Oper) (l : List Oper) (s : St) (Q : St → Prop) : Prop :=
 ∀ E a w, Fits E N s a w → ∀ QQ : Exit → Act → World → Prop, (∀ a' w' s', Fits E N s' a' w' → Q s' → QQ .normal a' w') → wpList P ops QQ l a w
section
variable {P : Program} {N : Nat} {ops : Array Oper} {l : List Oper} {s : St} {Q : St → Prop}
theorem aB.nil (h : Q s) : aB P N ops [] s Q := fun _ _ _ hf _ hQ => hQ _ _ _ hf h
theorem aB.cons {o : Oper} {R : List aK} {ws : St} (hg : o.guard = none) (ho : aY P N o s R ws) (h : aB P N ops l (ws ++ s) Q) : aB P N ops (o :: l) s Q := by
 intro E a w ⟨G, L, hr⟩ QQ hQ
 refine wpList_plain hg fun K hK => ?_
 exact ho s (fun _ _ => rfl) E G L a w hr K QQ fun v w' G' L' hr' => hK _ _ (h E _ _ ⟨G', L', hr'⟩ QQ hQ)
def fh (ops : Array Oper) (o : Oper) : Option (Nat × Bool) :=
 match o.guard with
 | some (j, b) => ((ops[j]?).bind (·.dst)).map fun d => (d, b)
 | none => none
theorem mD {E : dX} {G : Gh} {L : Loc} {a : Act} {w : World} (hr : Rel E N G L a w s) {o : Oper} {d : Nat} {b c : Bool} (hN : d < N) (hg : fh ops o = some (d, b)) (hc : get s (.s d) = some (.sv (.v (.bool c)))) :
  Region.wanted o (yielded ops a.tmps) = (c == b) := by
 unfold fh at hg
 split at hg
 ·rename_i j b' hgd
  cases hd : (ops[j]?).bind (·.dst) with
  | none => rw [hd] at hg; cases hg
  | some d' =>
   rw [hd] at hg
   simp only [Option.map_some, Option.some.injEq, Prod.mk.injEq] at hg
   obtain ⟨rfl, rfl⟩ := hg
   have hv := hr.slot d' _ hc
   have hsz := hr.size
   have hv' : a.tmps[d']? = some (.bool c) := by
    have hlt : d' < a.tmps.size := by rw [hsz]; exact hN
    rw [Array.getD_eq_getD_getElem?, Array.getElem?_eq_getElem hlt] at hv
    rw [Array.getElem?_eq_getElem hlt]
    simp only [Option.getD_some] at hv
    have hx : ∀ v, SV G L v (.v (.bool c)) → v = .bool c := by
     intro v h
     have h' : V G v (.bool c) := h
     cases h'
     rfl
    rw [hx _ hv]
   simp only [Region.wanted, hgd, yielded, hd, Option.bind_some, hv']
   cases c <;> cases b' <;> rfl
 ·cases hg
theorem aB.on {o : Oper} {R : List aK} {ws : St} {d : Nat} {b : Bool} (hN : d < N) (hg : fh ops o = some (d, b)) (hc : get s (.s d) = some (.sv (.v (.bool b)))) (ho : aY P N o s R ws) (h : aB P N ops l (ws ++ s) Q) :
  aB P N ops (o :: l) s Q := by
 intro E a w ⟨G, L, hr⟩ QQ hQ
 refine wpList_step fun K hK => ?_
 rw [mD hr hN hg hc, beq_self_eq_true, if_pos rfl]
 exact ho s (fun _ _ => rfl) E G L a w hr K QQ fun v w' G' L' hr' => hK _ _ (h E _ _ ⟨G', L', hr'⟩ QQ hQ)
end

/-! ### Code -/
def aC (P : Program) (N : Nat) (c : Code) (s : St) (Q : Exit → St → Prop) : Prop :=
 ∀ E a w, Fits E N s a w → c.wp P (fun e a' w' => ∃ s', Fits E N s' a' w' ∧ Q e s') a w
section
variable {P : Program} {N : Nat} {s : St} {Q : Exit → St → Prop}
theorem aC.mono {c : Code} {Q' : Exit → St → Prop} (h : aC P N c s Q) (hq : ∀ e s', Q e s' → Q' e s') : aC P N c s Q' :=
 fun E a w hf => wp_mono (h E a w hf) fun e _ _ ⟨s', h1, h2⟩ => ⟨s', h1, hq e s' h2⟩
theorem aC.region {id : Nat} {l : List Oper} (h : aB P N l.toArray l s (Q .normal)) : aC P N (.region id l.toArray false) s Q :=
 fun E a w hf => wp_region_lit (h E a w hf _ fun _ _ s' h1 h2 => ⟨s', h1, h2⟩)
theorem aC.seq {c d : Code} (h : aC P N c s fun e s' => match e with | .normal => aC P N d s' Q | e => Q e s') : aC P N (.seq c d) s Q := by
 intro E a w hf
 refine wp_seq (wp_mono (h E a w hf) ?_)
 rintro e a' w' ⟨s', h1, h2⟩
 cases e with
 | normal => exact h2 E a' w' h1
 | _ => exact ⟨s', h1, h2⟩
theorem aC.skip (h : Q .normal s) : aC P N .skip s Q := fun E a w hf => wp_skip ⟨s, hf, h⟩
theorem aC.ret (h : Q .ret s) : aC P N .ret s Q := fun E a w hf => wp_ret ⟨s, hf, h⟩
theorem aC.exit {id : Nat} (h : Q (.exit id) s) : aC P N (.exit id) s Q := fun E a w hf => wp_exit ⟨s, hf, h⟩
theorem aC.label {id : Nat} (h : Q .normal s) : aC P N (.label id) s Q := fun E a w hf => wp_label ⟨s, hf, h⟩
theorem aC.block {id : Nat} {c : Code} (h : aC P N c s fun e s' => match e with | .exit id' => if id' = id then Q .normal s' else Q (.exit id') s' | e => Q e s') : aC P N (.block id c) s Q := by
 intro E a w hf
 refine wp_block (wp_mono (h E a w hf) ?_)
 rintro e a' w' ⟨s', h1, h2⟩
 cases e with
 | exit id' =>
  simp only [Exit.inBlock] at h2 ⊢
  split
  ·rename_i hid; rw [if_pos hid] at h2; exact ⟨s', h1, h2⟩
  ·rename_i hid; rw [if_neg hid] at h2; exact ⟨s', h1, h2⟩
 | _ => exact ⟨s', h1, h2⟩
theorem qU {E : dX} {G : Gh} {L : Loc} {a : Act} {w : World} (hr : Rel E N G L a w s) {t : Nat} {b : Bool} (hc : get s (.s t) = some (.sv (.v (.bool b)))) : a.eval (.tmp t) = .bool b := by
 have h : V G (a.tmps.getD t undef) (.bool b) := hr.slot t _ hc
 have hx : ∀ v, V G v (.bool b) → v = .bool b := by intro v h; cases h; rfl
 exact hx _ h
theorem aC.cond {t : Nat} {c d : Code} {b : Bool} (hc : get s (.s t) = some (.sv (.v (.bool b)))) (h1 : b = true → aC P N c s Q) (h2 : b = false → aC P N d s Q) : aC P N (.cond (.tmp t) c d) s Q := by
 intro E a w ⟨G, L, hr⟩
 exact wp_cond_split (qU hr hc) (fun e => h1 e E a w ⟨G, L, hr⟩) (fun e => h2 e E a w ⟨G, L, hr⟩)
theorem aC.loop {c : Code} (T : Nat → St → Prop) (hT : ∀ n s, T n s → aC P N c s fun e s' => match e with | .normal => ∃ m, m < n ∧ T m s' | e => Q e s') {n : Nat} (h0 : T n s) : aC P N (.loop c) s Q := by
 intro E a w hf
 refine wp_loop_ghost (fun n a w => ∃ s, T n s ∧ Fits E N s a w) n ⟨s, h0, hf⟩ fun n a w ⟨s1, hT1, hf1⟩ => ?_
 refine wp_mono (hT n s1 hT1 E a w hf1) ?_
 rintro e a' w' ⟨s', h1, h2⟩
 cases e with
 | normal =>
  obtain ⟨m, hlt, hTm⟩ := h2
  exact ⟨m, hlt, s', hTm, h1⟩
 | _ => exact ⟨s', h1, h2⟩
end

/-! ### A function -/
def ek : List AV → Nat → St
 | [], _ => []
 | a :: l, n => (.s n, .sv (.v a)) :: ek l (n + 1)
theorem fP (args : List AV) : ∀ (n : Nat) (c : aK) (v : CV), get (ek args n) c = some v → ∃ j a, args[j]? = some a ∧ c = .s (n + j) ∧ v = .sv (.v a) := by
 induction args with
 | nil => intro n c v h; simp [ek, get] at h
 | cons a l ih =>
  intro n c v h
  simp only [ek, get] at h
  split at h
  ·rename_i hc
   cases h
   exact ⟨0, a, rfl, by rw [← hc]; simp, rfl⟩
  ·obtain ⟨j, b, h1, h2, h3⟩ := ih _ _ _ h
   exact ⟨j + 1, b, by simpa using h1, by rw [h2]; congr 1; omega, h3⟩
def aE (P : Program) (fn : Func) (s : St) (r : AV) : Prop :=
 ∀ E N G L a w, Rel E N G L a w s → ∃ v, (results fn a.tmps).run P w = .ok v w ∧ V G v r
theorem qt {fn : Func} {N : Nat} {args : List AV} {H : Hp} {G : Gh} {w : World} {cargs : Array Value} (hN : fn.ntmps = N) (hle : args.length ≤ N) (hg : GE ⟨G, w, aZ G H w, []⟩) (hk : eT G w) (hH : dK G w H) (hV : VL G cargs args) :
  Fits ⟨G, w, aZ G H w, []⟩ N ((.h, .hp H) :: ek args 0) { tmps := cargs ++ Array.replicate (fn.ntmps - cargs.size) undef, defers := [] } w := by
 refine ⟨G, ⟨fun _ => none, fun _ => none⟩, ?_, rfl, hg, hk, fun _ _ _ _ => rfl, fun _ _ h => ⟨h, rfl⟩, fun _ _ h => .inl ⟨_, h⟩, Fr.refl _ _, ?_, ?_, ?_, ?_, ⟨H, by simp [get], hH, fun b hb => .inr hb⟩, ?_, fun _ _ => rfl, fun _ _ => rfl⟩
 ·have := hV.1; simp; omega
 ·intro n x g
  have g' : get (ek args 0) (.s n) = some (.sv x) := by simpa [get] using g
  obtain ⟨j, b, h1, h2, h3⟩ := fP _ _ _ _ g'
  cases h3
  have : n = j := by injection h2 with h2; omega
  subst this
  have hlt : n < cargs.size := by
   have := hV.1
   have := (List.getElem?_eq_some_iff.1 h1).1
   omega
  have : (cargs ++ Array.replicate (fn.ntmps - cargs.size) undef).getD n undef = cargs.getD n undef := by
   simp only [Array.getD_eq_getD_getElem?]
   rw [Array.getElem?_append_left hlt]
  show V G ((cargs ++ Array.replicate (fn.ntmps - cargs.size) undef).getD n undef) b
  rw [this]
  exact hV.2 n b h1
 ·intro k cs g hl
  obtain ⟨j, b, _, h2, _⟩ := fP _ _ _ _ (show get (ek args 0) (.b k) = _ by simpa [get] using g)
  cases h2
 ·intro k m el esz xs g
  obtain ⟨j, b, _, h2, _⟩ := fP _ _ _ _ (show get (ek args 0) (.t k) = _ by simpa [get] using g)
  cases h2
 ·intro c d blk hc
  cases c with
  | b k =>
   obtain ⟨⟨cs, g, _⟩, _⟩ := hc
   obtain ⟨j, b, _, h2, _⟩ := fP _ _ _ _ (show get (ek args 0) (.b k) = _ by simpa [get] using g)
   cases h2
  | t k =>
   obtain ⟨⟨m, el, esz, xs, g⟩, _⟩ := hc
   obtain ⟨j, b, _, h2, _⟩ := fP _ _ _ _ (show get (ek args 0) (.t k) = _ by simpa [get] using g)
   cases h2
  | s n => exact hc.elim
  | h => exact hc.elim
 ·intro c blk hc
  cases c with
  | b k =>
   obtain ⟨⟨cs, g, _⟩, _⟩ := hc
   obtain ⟨j, b, _, h2, _⟩ := fP _ _ _ _ (show get (ek args 0) (.b k) = _ by simpa [get] using g)
   cases h2
  | t k =>
   obtain ⟨⟨m, el, esz, xs, g⟩, _⟩ := hc
   obtain ⟨j, b, _, h2, _⟩ := fP _ _ _ _ (show get (ek args 0) (.t k) = _ by simpa [get] using g)
   cases h2
  | s n => exact hc.elim
  | h => exact hc.elim
theorem dW.aN {P : Program} {f : FuncId} {fn : Func} {c : Code} {N : Nat} {args : List AV} {H : Hp} {r : AV} {H' : Hp} (hf : P.funcs[f]? = some fn) (hb : fn.body = some c) (hN : fn.ntmps = N) (hle : args.length ≤ N)
  (h : aC P N c ((.h, .hp H) :: ek args 0) fun e s' => (e = .normal ∨ e = .ret) ∧ aE P fn s' r ∧ get s' .h = some (.hp H')) : dW P f args H r H' := by
 intro G w cargs hg hk hH hV
 refine calls_of_wp hf hb ?_
 have h0 := qt hN hle hg hk hH hV
 refine wp_mono (h ⟨G, w, aZ G H w, []⟩ _ w h0) ?_
 rintro e a' w' ⟨s', ⟨G', L', hr⟩, he, hres, hh⟩
 obtain ⟨v, hv, hV'⟩ := hres _ _ _ _ _ _ hr
 obtain ⟨H2, g, hok, hmay⟩ := hr.heap
 rw [hh] at g; cases g
 have hpost : ∃ v2 G', Ending.returned v = .returned v2 ∧ V G' v2 r ∧ mh (aZ G H w) G G' w ∧ eT G' w' ∧ dK G' w' H' ∧ Fr (aZ G H w) w w' ∧ ∀ b, aZ G' H' w' b → w.heap.size ≤ b ∨ aZ G H w b :=
  ⟨v, G', rfl, hV', ⟨hr.old, hr.obs, hr.obn⟩, hr.kn, hok, hr.fr, hmay⟩
 rcases he with rfl | rfl
 ·exact ⟨hr.defs, v, hv, hpost⟩
 ·exact ⟨hr.defs, v, hv, hpost⟩
/- The program logic's rules: operations that look at slots alone. No condition. -/

/-! ### Operands -/
def G9 : Value → Option AV
 | .bool b => some (.bool b)
 | .int k n => some (.int k n)
 | .string s => some (.str s.data.toList)
 | .pointer none => some .nilp
 | .slice _ 0 _ => some (.sl [])
 | .nilFunc => some .nilf
 | .nilIface => some .nili
 | _ => none
theorem ma (G : Gh) {v : Value} {a : AV} (h : G9 v = some a) : V G v a := by
 unfold G9 at h
 split at h <;> first | (cases h; done) | skip
 all_goals cases h
 ·exact .bool _
 ·exact .int _ _
 ·rename_i s
  have := V.str (G := G) s.data.toList
  simpa using this
 ·exact .nilp
 ·exact .slE _ _
 ·exact .nilf
 ·exact .nili
def fq (x : Operand) (s : St) : Option Sv :=
 match x with
 | .tmp t => match get s (.s t) with
  | some (.sv x) => some x
  | _ => none
 | .const v => match G9 v with
  | some a => some (.v a)
  | none => none
 | .func f => some (.v (.fn f []))
 | .global _ => none
def rd (x : Operand) : List aK :=
 match x with
 | .tmp t => [.s t]
 | _ => []
theorem bm {E : dX} {N : Nat} {G : Gh} {L : Loc} {a : Act} {w : World} {s t : St} (hr : Rel E N G L a w t) {x : Operand} (hR : Reads (rd x) s t) {y : Sv} (h : fq x s = some y) : SV G L (a.eval x) y := by
 cases x with
 | tmp n =>
  simp only [fq] at h
  split at h
  ·rename_i z hz
   cases h
   exact hr.slot n _ (by rw [hR (.s n) (by simp [rd])]; exact hz)
  ·cases h
 | const v =>
  simp only [fq] at h
  split at h
  ·rename_i b hb
   cases h
   exact ma G hb
  ·cases h
 | func f =>
  simp only [fq, Option.some.injEq] at h
  subst h
  exact V.fn f #[] [] rfl (fun j c h => by simp at h)
 | global g => simp [fq] at h
def cU (x : Operand) (s : St) : Option AV := (fq x s).bind Sv.av
theorem aS {E : dX} {N : Nat} {G : Gh} {L : Loc} {a : Act} {w : World} {s t : St} (hr : Rel E N G L a w t) {x : Operand} (hR : Reads (rd x) s t) {y : AV} (h : cU x s = some y) : V G (a.eval x) y := by
 unfold cU at h
 cases hx : fq x s with
 | none => rw [hx] at h; cases h
 | some z => rw [hx] at h; exact SV.av (bm hr hR hx) h
theorem Reads.mono {R R' : List aK} {s t : St} (h : Reads R s t) (hs : ∀ c ∈ R', c ∈ R) : Reads R' s t := fun c hc => h c (hs c hc)
theorem Reads.left {R R' : List aK} {s t : St} (h : Reads (R ++ R') s t) : Reads R s t := h.mono fun c hc => List.mem_append.2 (.inl hc)
theorem Reads.right {R R' : List aK} {s t : St} (h : Reads (R ++ R') s t) : Reads R' s t := h.mono fun c hc => List.mem_append.2 (.inr hc)

theorem aY.val {P : Program} {N : Nat} {o : Oper} {s : St} {R : List aK} {x : Sv} {d : Nat} (hd : o.dst = some d) (hN : d < N)
  (h : ∀ E G L a w t, Rel E N G L a w t → Reads R s t → ∃ v, (execOp a.eval o).run P w = .ok (.value v) w ∧ SV G L v x) : aY P N o s R [(.s d, .sv x)] := by
 intro t hR E G L a w hr K Q hK
 obtain ⟨v, he, hv⟩ := h E G L a w t hr hR
 unfold Oper.wp
 rw [he]
 show K (a.put o.dst v) w
 refine hK v w G L ?_
 rw [hd]
 exact hr.put d hN v x hv

section
variable {P : Program} {N : Nat} {s : St} {d : Nat} {ty : TypeId} {pos : String} {af : Array Edge} {g : Option (Nat × Bool)}
theorem fx {x : Operand} {y : Sv} (hN : d < N) (hx : fq x s = some y) : aY P N ⟨some d, .move x, ty, pos, af, g⟩ s (rd x) [(.s d, .sv y)] :=
 aY.val rfl hN fun _ _ _ a _ _ hr hR => ⟨a.eval x, rfl, bm hr hR hx⟩
theorem HE {x : Operand} {y : Sv} (hN : d < N) (hx : fq x s = some y) : aY P N ⟨some d, .assign x, ty, pos, af, g⟩ s (rd x) [(.s d, .sv y)] :=
 aY.val rfl hN fun _ _ _ a _ _ hr hR => ⟨a.eval x, rfl, bm hr hR hx⟩
theorem mf {G : Gh} {v : Value} {b : Bool} (h : V G v (.bool b)) : v = .bool b := by cases h; rfl
theorem kI {G : Gh} {v : Value} {k : IntKind} {n : Int} (h : V G v (.int k n)) : v = .int k n := by cases h; rfl
theorem xR {G : Gh} {v : Value} {l : List UInt8} (h : V G v (.str l)) : v = .string ⟨l.toArray⟩ := by cases h; rfl
theorem wY {c x y : Operand} {b : Bool} {z : Sv} (hN : d < N) (hc : cU c s = some (.bool b)) (hx : fq (if b then x else y) s = some z) :
  aY P N ⟨some d, .pick c x y, ty, pos, af, g⟩ s (rd c ++ (rd x ++ rd y)) [(.s d, .sv z)] :=
 aY.val rfl hN fun _ _ _ a _ _ hr hR => by
  have hb := mf (aS hr hR.left hc)
  refine ⟨a.eval (if b then x else y), ?_, ?_⟩
  ·simp only [execOp, Sem.run_bind, hb, asBool, Sem.run_pure, Result.andThen_ok]
   cases b <;> rfl
  ·refine bm hr ?_ hx
   cases b
   ·exact hR.right.right
   ·exact hR.right.left

/-! ### Arithmetic -/
def j6 (op : BinOp) (k : IntKind) (x y : Int) : Int :=
 match op with
 | .and => k.wrap (BitVec.ofInt k.bits x &&& BitVec.ofInt k.bits y).toNat
 | .or => k.wrap (BitVec.ofInt k.bits x ||| BitVec.ofInt k.bits y).toNat
 | .xor => k.wrap (BitVec.ofInt k.bits x ^^^ BitVec.ofInt k.bits y).toNat
 | _ => k.wrap (BitVec.ofInt k.bits x &&& ~~~ (BitVec.ofInt k.bits y)).toNat
def k8 : List UInt8 → List UInt8 → Bool
 | _, [] => false
 | [], _ :: _ => true
 | a :: x, b :: y => a < b || (a == b && k8 x y)
def pk (op : BinOp) (x y : AV) : Option AV :=
 match x, y with
 | .int k a, .int k' b =>
  match op with
  | .shl => if b < 0 then none else some (.int k (k.wrap (a * 2 ^ (min b.toNat k.bits))))
  | .shr => if b < 0 then none else some (.int k (a.fdiv (2 ^ (min b.toNat k.bits))))
  | .add => if k = k' then some (.int k (k.wrap (a + b))) else none
  | .sub => if k = k' then some (.int k (k.wrap (a - b))) else none
  | .mul => if k = k' then some (.int k (k.wrap (a * b))) else none
  | .quo => if k = k' then (if b = 0 then none else some (.int k (k.wrap (a.tdiv b)))) else none
  | .rem => if k = k' then (if b = 0 then none else some (.int k (a.tmod b))) else none
  | .and => if k = k' then some (.int k (j6 .and k a b)) else none
  | .or => if k = k' then some (.int k (j6 .or k a b)) else none
  | .xor => if k = k' then some (.int k (j6 .xor k a b)) else none
  | .andNot => if k = k' then some (.int k (j6 .andNot k a b)) else none
  | .eql => if k = k' then some (.bool (a == b)) else none
  | .neq => if k = k' then some (.bool (!(a == b))) else none
  | .lss => if k = k' then some (.bool (decide (a < b))) else none
  | .leq => if k = k' then some (.bool (decide (a ≤ b))) else none
  | .gtr => if k = k' then some (.bool (decide (b < a))) else none
  | .geq => if k = k' then some (.bool (decide (b ≤ a))) else none
 | .str a, .str b =>
  match op with
  | .eql => some (.bool (a == b))
  | .neq => some (.bool (!(a == b)))
  | .lss => some (.bool (k8 a b))
  | .leq => some (.bool (k8 a b || a == b))
  | .gtr => some (.bool (!(k8 a b || a == b)))
  | .geq => some (.bool (!k8 a b))
  | _ => none
 | _, _ => none
theorem sP (l : List UInt8) : (⟨l.toArray⟩ : ByteArray).toList = l := by rw [ByteArray.toList_eq]
theorem A3 (a b : List UInt8) : Op.bytesLess a b = k8 a b := by
 induction a generalizing b with
 | nil => cases b <;> rfl
 | cons x a ih => cases b with
  | nil => rfl
  | cons y b => simp only [Op.bytesLess, k8, ih]
theorem ya (op : BinOp) (t : TypeId) (x y : Operand) (k k' : IntKind) (m n : Int) (w : World) : (eqGuard op t x y (.int k m) (.int k' n)).run P w = .ok () w := by
 cases op <;> simp [eqGuard]
theorem y9 (op : BinOp) (t : TypeId) (x y : Operand) (m n : ByteArray) (w : World) : (eqGuard op t x y (.string m) (.string n)).run P w = .ok () w := by
 cases op <;> simp [eqGuard]
def bv : AV → Value
 | .int k n => .int k n
 | .bool b => .bool b
 | _ => undef
theorem B1 {op : BinOp} {k k' : IntKind} {m n : Int} {z : AV} (h : pk op (.int k m) (.int k' n) = some z) (t : TypeId) (w : World) (G : Gh) :
  ∃ v, (binOp op t (.int k m) (.int k' n)).run P w = .ok v w ∧ V G v z := by
 refine ⟨bv z, ?_, ?_⟩
 ·cases op <;> simp only [pk] at h <;> split at h <;> (try split at h) <;> first | (cases h; done) | skip
  all_goals cases h
  all_goals (try subst k')
  all_goals simp [binOp, Op.intArith, Op.intDiv, Op.intBits, Op.intCmp, Op.shift, j6, bv, *]
  rfl
 ·cases op <;> simp only [pk] at h <;> split at h <;> (try split at h) <;> first | (cases h; done) | skip
  all_goals cases h
  all_goals constructor
theorem B0 {op : BinOp} {m n : List UInt8} {z : AV} (h : pk op (.str m) (.str n) = some z) (t : TypeId) (w : World) (G : Gh) :
  ∃ v, (binOp op t (.string ⟨m.toArray⟩) (.string ⟨n.toArray⟩)).run P w = .ok v w ∧ V G v z := by
 refine ⟨bv z, ?_, ?_⟩
 ·cases op <;> simp only [pk] at h <;> first | (cases h; done) | skip
  all_goals cases h
  all_goals simp only [binOp, Op.stringOp, sP, A3, Sem.run_pure, bv]
 ·cases op <;> simp only [pk] at h <;> first | (cases h; done) | skip
  all_goals cases h
  all_goals constructor
theorem bI {op : BinOp} {t1 t2 : TypeId} {x y : Operand} {ax ay z : AV} (hN : d < N) (hx : cU x s = some ax) (hy : cU y s = some ay) (h : pk op ax ay = some z) :
  aY P N ⟨some d, .binOp op t1 x y t2, ty, pos, af, g⟩ s (rd x ++ rd y) [(.s d, .sv (.v z))] :=
 aY.val rfl hN fun _ G _ a w _ hr hR => by
  have h1 := aS hr hR.left hx
  have h2 := aS hr hR.right hy
  cases ax <;> cases ay <;> first | (simp [pk] at h; done) | skip
  ·obtain ⟨v, hv, hV⟩ := B1 (P := P) h t1 w G
   refine ⟨v, ?_, hV⟩
   simp only [execOp, Sem.run_bind, kI h1, kI h2, ya, Result.andThen_ok, hv, Sem.run_pure]
  ·obtain ⟨v, hv, hV⟩ := B0 (P := P) h t1 w G
   refine ⟨v, ?_, hV⟩
   simp only [execOp, Sem.run_bind, xR h1, xR h2, y9, Result.andThen_ok, hv, Sem.run_pure]
theorem FP {t1 t2 : TypeId} {x y : Operand} {b c : Bool} (hN : d < N) (ht : P.underlying t1 = some .bool) (hx : cU x s = some (.bool b)) (hy : cU y s = some (.bool c)) :
  aY P N ⟨some d, .binOp .eql t1 x y t2, ty, pos, af, g⟩ s (rd x ++ rd y) [(.s d, .sv (.v (.bool (b == c))))] :=
 aY.val rfl hN fun _ G _ a w _ hr hR => by
  have h1 := mf (aS hr hR.left hx)
  have h2 := mf (aS hr hR.right hy)
  refine ⟨.bool (b == c), ?_, .bool _⟩
  have he : (Op.equal t1 (.bool b) (.bool c)).run P w = .ok (b == c) w := run_equalIn_bool' w 9999 t1 b c ht
  have hb : binOp .eql t1 (.bool b) (.bool c) = (do pure (.bool (← Op.equal t1 (.bool b) (.bool c)))) := rfl
  have hgd : (eqGuard .eql t1 x y (.bool b) (.bool c)).run P w = .ok () w := by simp [eqGuard]
  simp only [execOp, Sem.run_bind, h1, h2, hgd, Result.andThen_ok, hb, he, Sem.run_pure]
theorem FH {t1 t2 : TypeId} {x y : Operand} {b c : Bool} (hN : d < N) (ht : P.underlying t1 = some .bool) (hx : cU x s = some (.bool b)) (hy : cU y s = some (.bool c)) :
  aY P N ⟨some d, .binOp .neq t1 x y t2, ty, pos, af, g⟩ s (rd x ++ rd y) [(.s d, .sv (.v (.bool (!(b == c)))))] :=
 aY.val rfl hN fun _ G _ a w _ hr hR => by
  have h1 := mf (aS hr hR.left hx)
  have h2 := mf (aS hr hR.right hy)
  refine ⟨.bool (!(b == c)), ?_, .bool _⟩
  have he : (Op.equal t1 (.bool b) (.bool c)).run P w = .ok (b == c) w := run_equalIn_bool' w 9999 t1 b c ht
  have hb : binOp .neq t1 (.bool b) (.bool c) = (do pure (.bool (!(← Op.equal t1 (.bool b) (.bool c))))) := rfl
  have hgd : (eqGuard .neq t1 x y (.bool b) (.bool c)).run P w = .ok () w := by simp [eqGuard]
  simp only [execOp, Sem.run_bind, h1, h2, hgd, Result.andThen_ok, hb, he, Sem.run_pure]
def Ig (op : UnOp) (x : AV) : Option AV :=
 match op, x with
 | .not, .bool b => some (.bool (!b))
 | .neg, .int k n => some (.int k (k.wrap (0 - n)))
 | .xor, .int k n => some (.int k (j6 .xor k (if k.signed then -1 else k.max) n))
 | _, _ => none
theorem oX {op : UnOp} {t1 : TypeId} {x : Operand} {ax z : AV} (hN : d < N) (hx : cU x s = some ax) (h : Ig op ax = some z) :
  aY P N ⟨some d, .unOp op t1 x, ty, pos, af, g⟩ s (rd x) [(.s d, .sv (.v z))] :=
 aY.val rfl hN fun _ G _ a w _ hr hR => by
  have h1 := aS hr hR hx
  unfold Ig at h
  split at h <;> first | (cases h; done) | skip
  all_goals cases h
  ·exact ⟨_, by simp only [execOp, Sem.run_bind, mf h1, Op.unary, Sem.run_pure, Result.andThen_ok], .bool _⟩
  ·exact ⟨_, by simp only [execOp, Sem.run_bind, kI h1, Op.unary, Op.intArith, Sem.run_pure, Result.andThen_ok], .int _ _⟩
  ·exact ⟨_, by simp only [execOp, Sem.run_bind, kI h1, Op.unary, Op.intBits, Sem.run_pure, Result.andThen_ok]; rfl, .int _ _⟩
theorem FQ {t1 t2 : TypeId} {td : TypeDesc} {x : Operand} {k k' : IntKind} {n : Int} (hN : d < N) (h1 : P.underlying t1 = some td) (h2 : P.underlying t2 = some (.int k)) (hx : cU x s = some (.int k' n)) :
  aY P N ⟨some d, .convert t1 t2 x, ty, pos, af, g⟩ s (rd x) [(.s d, .sv (.v (.int k (k.wrap n))))] :=
 aY.val rfl hN fun _ G _ a w _ hr hR => by
  have hv := kI (aS hr hR hx)
  refine ⟨.int k (k.wrap n), ?_, .int _ _⟩
  simp [execOp, hv, convert, run_underlying h1, run_underlying h2, Conv.intToInt]
theorem FO {x : Operand} {i : Nat} {vs : List AV} {z : AV} (hN : d < N) (hx : cU x s = some (.tup vs)) (hi : vs[i]? = some z) :
  aY P N ⟨some d, .extract x i, ty, pos, af, g⟩ s (rd x) [(.s d, .sv (.v z))] :=
 aY.val rfl hN fun _ G _ a w _ hr hR => by
  have hv := aS hr hR hx
  generalize hav : a.eval x = u at hv
  cases hv
  rename_i us hl huv
  have hlt : i < us.size := by rw [hl]; exact (List.getElem?_eq_some_iff.1 hi).1
  refine ⟨us[i], ?_, ?_⟩
  ·simp [execOp, hav, Instr.extract, Array.getElem?_eq_getElem hlt]
  ·have := huv i z hi
   show V G us[i] z
   simpa [Array.getD_eq_getD_getElem?, Array.getElem?_eq_getElem hlt] using this
theorem mQ {t1 : TypeId} {x i : Operand} {l : List UInt8} {k : IntKind} {n : Int} {c : UInt8} (hN : d < N) (h1 : P.underlying t1 = some .string) (hx : cU x s = some (.str l)) (hi : cU i s = some (.int k n)) (h0 : 0 ≤ n) (hc : l[n.toNat]? = some c) :
  aY P N ⟨some d, .index t1 x i, ty, pos, af, g⟩ s (rd x ++ rd i) [(.s d, .sv (.v (.int .u8 c.toNat)))] :=
 aY.val rfl hN fun _ G _ a w _ hr hR => by
  have hv := xR (aS hr hR.left hx)
  have hn := kI (aS hr hR.right hi)
  refine ⟨.int .u8 c.toNat, ?_, .int _ _⟩
  have hlt := (List.getElem?_eq_some_iff.1 hc).1
  have hg : (⟨l.toArray⟩ : ByteArray)[n.toNat]? = some c := by
   have hlt' : n.toNat < (⟨l.toArray⟩ : ByteArray).size := by simpa [ByteArray.size] using hlt
   rw [getElem?_pos (⟨l.toArray⟩ : ByteArray) n.toNat hlt']
   have := (List.getElem?_eq_some_iff.1 hc).2
   simp [← this, ByteArray.getElem_eq_getElem_data]
  simp [execOp, hv, hn, Instr.index, asIntOf, run_underlying h1, h0, hg]
theorem Ci {t1 : TypeId} {x : Operand} {l : List UInt8} (hN : d < N) (h1 : P.underlying t1 = some .string) (hx : cU x s = some (.str l)) :
  aY P N ⟨some d, .call { callee := .builtin .len, args := #[x], argTypes := #[t1] }, ty, pos, af, g⟩ s (rd x) [(.s d, .sv (.v (.int .i64 l.length)))] :=
 aY.val rfl hN fun _ G _ a w _ hr hR => by
  have hv := xR (aS hr hR hx)
  refine ⟨.int .i64 l.length, ?_, .int _ _⟩
  have e1 : (⟨l.toArray⟩ : ByteArray).size = l.length := by simp [ByteArray.size]
  simp [execOp, resolve, invoke, builtin, hv, Builtin.len_, run_underlying h1, goInt, e1]
theorem Hm {G : Gh} {v : Value} {xs : List AV} (h : V G v (.sl xs)) : ∃ A c, v = .slice A xs.length c := by
 cases h
 ·exact ⟨_, _, rfl⟩
 ·exact ⟨_, _, rfl⟩
theorem l5 {t1 e : TypeId} {x : Operand} {xs : List AV} (hN : d < N) (h1 : P.underlying t1 = some (.slice e)) (hx : cU x s = some (.sl xs)) :
  aY P N ⟨some d, .call { callee := .builtin .len, args := #[x], argTypes := #[t1] }, ty, pos, af, g⟩ s (rd x) [(.s d, .sv (.v (.int .i64 xs.length)))] :=
 aY.val rfl hN fun _ G _ a w _ hr hR => by
  obtain ⟨A, c, hv⟩ := Hm (aS hr hR hx)
  refine ⟨.int .i64 xs.length, ?_, .int _ _⟩
  simp [execOp, resolve, invoke, builtin, hv, Builtin.len_, run_underlying h1, goInt]
end
/- The program logic's rules: local boxes, memory that is known, calls. No condition. -/

/-! ### A new block of the frame's own -/
def Loc.bk (L : Loc) (k b : Nat) : Loc := ⟨fun j => if j = k then some b else L.box j, L.tok⟩
theorem Loc.qY {L : Loc} {k b : Nat} (h : L.box k = none) : ∀ j c, L.box j = some c → (L.bk k b).box j = some c := by
 intro j c e
 simp only [Loc.bk]
 split
 ·rename_i hj; subst hj; rw [h] at e; cases e
 ·exact e
theorem yt (w : World) (o : Obj) {i : Nat} {x : Obj} (h : w.heap[i]? = some x) : (w.alloc o).heap[i]? = some x := by
 rw [Below.heap_alloc w o i (Array.getElem?_eq_some_iff.1 h).1]; exact h
theorem vo {w : World} {a : Addr} {v : Value} (h : w.cell? a = some v) (o : Obj) : (w.alloc o).cell? a = some v := by
 rw [World.cell?_alloc_lt w o a (World.block_lt_of_cell? w a h)]; exact h
theorem Fr.alloc {M : Nat → Prop} {w w' : World} (h : Fr M w w') (o : Obj) : Fr M w (w'.alloc o) :=
 ⟨h.os, h.tape, h.output, by have := h.size; simp; omega, fun k hk hn => by rw [Below.heap_alloc w' o k (Nat.lt_of_lt_of_le hk h.size)]; exact h.block k hk hn⟩
theorem dK.alloc {G : Gh} {w : World} {H : Hp} (h : dK G w H) (o : Obj) : dK G (w.alloc o) H ∧ ∀ b, X.aZ G H (w.alloc o) b ↔ X.aZ G H w b :=
 h.stay (Gh.le.refl G) rfl (fun b hb => (h.aZ hb).2) (fun b hb => Below.heap_alloc w o b (h.aZ hb).1) (by simp)

theorem Rel.alloc {E : dX} {N : Nat} {G : Gh} {L : Loc} {a : Act} {w : World} {s : St} (h : Rel E N G L a w s) (k : Nat) (hk : get s (.b k) = none) (o : Obj) (cv : CV) (hl : cv.live = true) (hlk : cv.link = none)
  (ho : fj G (L.bk k w.heap.size) o cv) : Rel E N G (L.bk k w.heap.size) a (w.alloc o) ((.b k, cv) :: s) := by
 have hb0 := h.nobox k hk
 have hbl := Loc.qY (b := w.heap.size) hb0
 have htl : ∀ j u, L.tok j = some u → (L.bk k w.heap.size).tok j = some u := fun _ _ e => e
 have hown : ∀ c blk, owns ((.b k, cv) :: s) (L.bk k w.heap.size) c blk → (c = .b k ∧ blk = w.heap.size) ∨ owns s L c blk := by
  intro c blk hc
  by_cases e : c = .b k
  ·subst e
   refine .inl ⟨rfl, ?_⟩
   have := hc.2
   simp [Loc.bk] at this
   omega
  ·have h2 := cT e hc
   refine .inr ?_
   cases c with
   | b j =>
    obtain ⟨h3, h4⟩ := h2
    refine ⟨h3, ?_⟩
    have hj : j ≠ k := fun e' => e (by rw [e'])
    simpa [Loc.bk, hj] using h4
   | t j => exact h2
   | s n => exact h2
   | h => exact h2
 refine ⟨h.size, h.defs, h.ge, fun b o' v e => vo (h.kn b o' v e) _, h.old, h.obs, h.obn, h.fr.alloc o, ?_, ?_, ?_, ?_, ?_, ?_, ?_, ?_⟩
 ·intro n x g
  exact (h.slot n x (by simpa [get] using g)).loc hbl htl
 ·intro j cv' g hl'
  by_cases e : j = k
  ·subst e
   simp [get] at g
   subst g
   obtain ⟨H, gH, hokH, _⟩ := h.heap
   refine ⟨w.heap.size, o, by simp [Loc.bk], .inl h.fV, heap_alloc_new w o, ho, fun j' => ?_, by rw [hlk]; exact ⟨h.fV, fun id e => by have := (hokH.lt id _ e).2; omega⟩⟩
   cases hkn : G.kn w.heap.size j' with
   | none => rfl
   | some v => have := h.vR hkn; omega
  ·obtain ⟨blk, o', hb, hb2, hh, hok, hn⟩ := h.box j cv' (by simpa [get, Ne.symm e] using g) hl'
   exact ⟨blk, o', hbl j blk hb, hb2, yt w o hh, hok.loc hbl htl, hn⟩
 ·intro j m el esz xs g
  have g' : get s (.t j) = some (.tk m el esz xs) := by simpa [get] using g
  exact (h.tok j m el esz xs g').stay (L := L) (Gh.le.refl G) (fun _ _ e => .inl ⟨_, e⟩) (fun v b hv hb => Below.heap_alloc w o b (gD h (c := .t j) ⟨⟨_, _, _, _, g'⟩, v, hv, hb⟩).1) (fun _ _ _ _ _ => rfl)
 ·intro c d blk hc hd
  rcases hown c blk hc with ⟨rfl, rfl⟩ | hc' <;> rcases hown d _ hd with ⟨rfl, h2⟩ | hd'
  ·rfl
  ·have := (gD h hd').1; omega
  ·have := (gD h hc').1; omega
  ·exact h.disj c d blk hc' hd'
 ·obtain ⟨H, g, hok, hmay⟩ := h.heap
  exact ⟨H, by simpa [get] using g, (hok.alloc o).1, fun b hb => hmay b (((hok.alloc o).2 b).1 hb)⟩
 ·intro c blk hc H2 g2 e
  obtain ⟨H, g, hok, hmay⟩ := h.heap
  have g3 : get s .h = some (.hp H2) := by simpa [get] using g2
  rw [g3] at g; cases g
  have e2 := ((hok.alloc o).2 blk).1 e
  rcases hown c blk hc with ⟨rfl, rfl⟩ | hc'
  ·have := (hok.aZ e2).1; omega
  ·exact h.hdisj c blk hc' _ g3 e2
 ·intro j g
  by_cases e : j = k
  ·subst e; simp [get] at g
  ·have := h.nobox j (by simpa [get, Ne.symm e] using g)
   simpa [Loc.bk, e] using this
 ·intro j g
  exact h.notok j (by simpa [get] using g)

/-! ### What a type says -/
def lk (P : Program) (t : TypeId) : Option (Bool × Nat) :=
 match P.underlying t, P.info? t with
 | some d, some i => some ((match d with | .struct _ => true | .array _ _ => true | _ => false), i.size)
 | _, _ => none
theorem mT {P : Program} {t : TypeId} {b : Bool} {n : Nat} (h : lk P t = some (b, n)) (w : World) : (isAgg t).run P w = .ok b w ∧ (sizeOf t).run P w = .ok n w := by
 unfold lk at h
 split at h
 ·rename_i d i hd hi
  simp only [Option.some.injEq, Prod.mk.injEq] at h
  obtain ⟨rfl, rfl⟩ := h
  constructor
  ·simp only [isAgg, Sem.run_bind, run_underlying hd, Result.andThen_ok]
   cases d <;> rfl
  ·simp [sizeOf, typeInfo, hi]
 ·cases h
def fo (P : Program) (t : TypeId) (i : Nat) : Option Nat :=
 match P.underlying t with
 | some (.struct fs) => match fs[i]? with
  | some f => match P.info? f.type with
   | some j => if j.size = 0 then none else some f.offset
   | none => none
  | none => none
 | _ => none
theorem v7 {P : Program} {t : TypeId} {i o : Nat} (h : fo P t i = some o) (w : World) (a : Addr) : (Instr.fieldAt t (.pointer (some a)) i).run P w = .ok (.pointer (some (a.add o))) w := by
 unfold fo at h
 split at h
 ·rename_i fs hfs
  split at h
  ·rename_i f hf
   split at h
   ·rename_i j hj
    split at h
    ·cases h
    ·rename_i hz
     cases h
     simp [Instr.fieldAt, run_underlying hfs, hf, Instr.sureAddr, fieldPlace, sizeOf, typeInfo, hj, hz]
   ·cases h
  ·cases h
 ·cases h
def ie (P : Program) (t : TypeId) : Option Nat :=
 match P.underlying t with
 | some (.slice e) => (P.info? e).map (·.size)
 | _ => none
theorem rz {P : Program} {t : TypeId} {n : Nat} (h : ie P t = some n) : ∃ e i, P.underlying t = some (.slice e) ∧ P.info? e = some i ∧ i.size = n := by
 unfold ie at h
 split at h
 ·rename_i e he
  cases hi : P.info? e with
  | none => rw [hi] at h; cases h
  | some i => rw [hi] at h; exact ⟨e, i, he, hi, by simpa using h⟩
 ·cases h
def BS : List Value → Option (List AV)
 | [] => some []
 | v :: l => match G9 v, BS l with
  | some a, some r => some (a :: r)
  | _, _ => none
def bu (P : Program) (t : TypeId) : Option (List AV) :=
 match P.info? t with
 | some i => match i.zero with
  | some z => BS z.cells.toList
  | none => none
 | none => none
theorem uF {v : Value} {a : AV} (h : G9 v = some a) : a.flat = true := by
 unfold G9 at h
 split at h <;> first | (cases h; done) | (cases h; rfl)
theorem jY (G : Gh) {l : List Value} {r : List AV} (h : BS l = some r) : l.length = r.length ∧ ∀ (j : Nat) x, r[j]? = some x → x.flat = true ∧ V G (l.getD j undef) x := by
 induction l generalizing r with
 | nil => simp [BS] at h; subst h; exact ⟨rfl, fun j x e => by simp at e⟩
 | cons v l ih =>
  simp only [BS] at h
  split at h
  ·rename_i a r' ha hr
   cases h
   obtain ⟨h1, h2⟩ := ih hr
   refine ⟨by simp [h1], fun j x e => ?_⟩
   cases j with
   | zero => simp at e; subst e; exact ⟨uF ha, by simpa using ma G ha⟩
   | succ j => simpa using h2 j x (by simpa using e)
  ·cases h

/-! ### Boxes -/
def Sv.cells : Sv → List Sv
 | .v a => a.cells.map .v
 | x => [x]
def Sv.j5 : Sv → Bool
 | .v (.tup _) => true
 | .cd _ _ _ => true
 | _ => false
theorem ti {x : Sv} (h : x.j5 = false) : (∀ vs, x ≠ .v (.tup vs)) ∧ ∀ g b a, x ≠ .cd g b a := ⟨(by rintro vs rfl; cases h), (by rintro g b a rfl; cases h)⟩
theorem wH {G : Gh} {L : Loc} {v : Value} {x : Sv} (hv : SV G L v x) (ht : (∀ vs, x ≠ .v (.tup vs)) ∧ ∀ g b a, x ≠ .cd g b a) : v.cells.size = x.cells.length ∧ ∀ (j : Nat) y, x.cells[j]? = some y → y.flat = true ∧ SV G L (v.cells.getD j undef) y := by
 by_cases hx : ∃ a, x = .v a
 ·obtain ⟨a, rfl⟩ := hx
  have hV : V G v a := hv
  obtain ⟨h1, h2⟩ := hV.cells (fun vs e => ht.1 vs (by rw [e]))
  refine ⟨by simpa [Sv.cells] using h1, fun j y e => ?_⟩
  simp only [Sv.cells, List.getElem?_map] at e
  cases hc : a.cells[j]? with
  | none => rw [hc] at e; cases e
  | some c => rw [hc] at e; cases e; exact h2 j c hc
 ·have hf : x.flat = true := by cases x <;> first | rfl | exact absurd ⟨_, rfl⟩ hx | exact absurd rfl (ht.2 _ _ _)
  have hc : x.cells = [x] := by cases x <;> first | rfl | exact absurd ⟨_, rfl⟩ hx
  rw [hc, jA (hv.eE hf)]
  refine ⟨rfl, fun j y e => ?_⟩
  cases j with
  | zero => simp at e; subst e; exact ⟨hf, hv⟩
  | succ j => simp at e

section
variable {P : Program} {N : Nat} {s : St} {d : Nat} {ty : TypeId} {pos : String} {af : Array Edge} {g : Option (Nat × Bool)}
theorem FR {t1 : TypeId} {x : Operand} {y : Sv} (hN : d < N) (hx : fq x s = some y) (hk : get s (.b d) = none) (ht : y.j5 = false) :
  aY P N ⟨some d, .box t1 x, ty, pos, af, g⟩ s (rd x ++ [.b d]) [(.s d, .sv (.lp d 0)), (.b d, .bx y.cells)] := by
 intro t hR E G L a w hr K Q hK
 have hv := bm hr hR.left hx
 have hk' : get t (.b d) = none := by rw [hR (.b d) (by simp)]; exact hk
 obtain ⟨h1, h2⟩ := wH hv (ti ht)
 have hb0 := hr.nobox d hk'
 have hok : fj G (L.bk d w.heap.size) (.cells (a.eval x).cells t1) (.bx y.cells) :=
  ⟨_, _, rfl, h1, fun j z e => ⟨(h2 j z e).1, (h2 j z e).2.loc (Loc.qY hb0) (fun _ _ e => e)⟩⟩
 have hr1 := hr.alloc d hk' (.cells (a.eval x).cells t1) (.bx y.cells) rfl rfl hok
 have he : (execOp a.eval ⟨some d, .box t1 x, ty, pos, af, g⟩).run P w = .ok (.value (.pointer (some ⟨w.heap.size, 0, none⟩))) (w.alloc (.cells (a.eval x).cells t1)) := by
  simp [execOp, Instr.box, newVar, newRow]
 unfold Oper.wp
 rw [he]
 refine hK _ _ G (L.bk d w.heap.size) ?_
 exact hr1.put d hN _ (.lp d 0) ⟨w.heap.size, by simp [Loc.bk], rfl⟩
theorem FV {t1 : TypeId} {zs : List AV} (hN : d < N) (hz : bu P t1 = some zs) (hk : get s (.b d) = none) :
  aY P N ⟨some d, .alloc t1, ty, pos, af, g⟩ s [.b d] [(.s d, .sv (.lp d 0)), (.b d, .bx (zs.map .v))] := by
 intro t hR E G L a w hr K Q hK
 have hk' : get t (.b d) = none := by rw [hR (.b d) (by simp)]; exact hk
 unfold bu at hz
 split at hz
 ·rename_i i hi
  split at hz
  ·rename_i z hzz
   obtain ⟨h1, h2⟩ := jY G hz
   have hok : fj G (L.bk d w.heap.size) (.cells z.cells t1) (.bx (zs.map .v)) := by
    refine ⟨_, _, rfl, by simpa using h1, fun j y e => ?_⟩
    simp only [List.getElem?_map] at e
    cases hc : zs[j]? with
    | none => rw [hc] at e; cases e
    | some c =>
     rw [hc] at e; cases e
     refine ⟨(h2 j c hc).1, ?_⟩
     have := (h2 j c hc).2
     show V G (z.cells.getD j undef) c
     rwa [Array.getD_eq_getD_getElem?, ← Array.getElem?_toList, ← List.getD_eq_getElem?_getD]
   have hr1 := hr.alloc d hk' (.cells z.cells t1) (.bx (zs.map .v)) rfl rfl hok
   have he : (execOp a.eval ⟨some d, .alloc t1, ty, pos, af, g⟩).run P w = .ok (.value (.pointer (some ⟨w.heap.size, 0, none⟩))) (w.alloc (.cells z.cells t1)) := by
    simp [execOp, Instr.alloc, zeroValue, typeInfo, hi, hzz, newVar, newRow]
   unfold Oper.wp
   rw [he]
   refine hK _ _ G (L.bk d w.heap.size) ?_
   exact hr1.put d hN _ (.lp d 0) ⟨w.heap.size, by simp [Loc.bk], rfl⟩
  ·cases hz
 ·cases hz
end
/- The program logic's rules: loads and stores of local boxes, memory that is known, calls. No condition. -/

theorem Rel.ID {E : dX} {N : Nat} {G : Gh} {L : Loc} {a : Act} {w w' : World} {s : St} (h : Rel E N G L a w s) {k blk : Nat} {cv0 cv : CV} (hk : get s (.b k) = some cv0) (hl0 : cv0.live = true) (hl : cv.live = true) (hlk : cv.link = cv0.link) (hb : L.box k = some blk)
  {o : Obj} (ho : fj G L o cv) (h1 : w'.os = w.os) (h2 : w'.tape = w.tape) (h3 : w'.output = w.output) (h4 : w'.heap.size = w.heap.size) (h5 : ∀ j, j ≠ blk → w'.heap[j]? = w.heap[j]?) (h6 : w'.heap[blk]? = some o) :
  Rel E N G L a w' ((.b k, cv) :: s) := by
 obtain ⟨blk', o', hb', hbase, hh, hok, hn, hlnk⟩ := h.box k cv0 hk hl0
 rw [hb] at hb'; cases hb'
 have hmine : owns s L (.b k) blk := ⟨⟨cv0, hk, hl0⟩, hb⟩
 have hown : ∀ c b, owns ((.b k, cv) :: s) L c b → owns s L c b := by
  intro c b hc
  by_cases e : c = .b k
  ·subst e
   have := hc.2
   rw [hb] at this; cases this
   exact hmine
  ·exact cT e hc
 have hcell : ∀ p v, w.cell? p = some v → p.block ≠ blk → w'.cell? p = some v := by
  intro p v hc hne
  rw [World.cell?_of_block (w := w) (h5 p.block hne)]; exact hc
 obtain ⟨H0, gH, hokH, hmayH⟩ := h.heap
 have hst := hokH.stay (w' := w') (Gh.le.refl G) rfl (fun b hb => (hokH.aZ hb).2) (fun b hb => h5 b (fun e => h.hdisj _ _ hmine H0 gH (e ▸ hb))) (by rw [h4]; exact Nat.le_refl _)
 refine ⟨h.size, h.defs, h.ge, fun b j v e => hcell _ _ (h.kn b j v e) (fun e' => ?_), h.old, h.obs, h.obn, ⟨h1.trans h.fr.os, h2.trans h.fr.tape, h3.trans h.fr.output, by rw [h4]; exact h.fr.size, fun j hj hno => ?_⟩, ?_, ?_, ?_, ?_, ?_, ?_, ?_, ?_⟩
 ·simp at e'; subst e'; rw [hn j] at e; cases e
 ·rw [h5 j (fun e => by
   subst e
   rcases hbase with e | e
   ·omega
   ·exact hno e)]
  exact h.fr.block j hj hno
 ·intro n x g; exact h.slot n x (by simpa [get] using g)
 ·intro j cv' g hl'
  by_cases e : j = k
  ·subst e
   simp [get] at g
   subst g
   exact ⟨blk, o, hb, hbase, h6, ho, hn, by rw [hlk]; exact hlnk⟩
  ·have g' : get s (.b j) = some cv' := by simpa [get, Ne.symm e] using g
   obtain ⟨b2, o2, hb2, hbase2, hh2, hok2, hn2⟩ := h.box j cv' g' hl'
   refine ⟨b2, o2, hb2, hbase2, ?_, hok2, hn2⟩
   rw [h5 b2 (fun e2 => e (by
    have := h.disj (.b j) (.b k) blk ⟨⟨cv', g', hl'⟩, by rw [← e2]; exact hb2⟩ hmine
    injection this))]
   exact hh2
 ·intro j m el esz xs g
  have g' : get s (.t j) = some (.tk m el esz xs) := by simpa [get] using g
  refine (h.tok j m el esz xs g').stay (Gh.le.refl G) (fun _ _ e => .inl ⟨_, e⟩) (fun v b hv hb' => h5 b (fun e2 => ?_)) (fun _ _ _ _ _ => rfl)
  have := h.disj (.t j) (.b k) blk ⟨⟨m, el, esz, xs, g'⟩, v, hv, by rw [← e2]; exact hb'⟩ hmine
  cases this
 ·intro c d b hc hd; exact h.disj c d b (hown _ _ hc) (hown _ _ hd)
 ·exact ⟨H0, by simpa [get] using gH, hst.1, fun b hb => hmayH b ((hst.2 b).1 hb)⟩
 ·intro c b hc H2 g2 e2
  have g3 : get s .h = some (.hp H2) := by simpa [get] using g2
  rw [gH] at g3; cases g3
  exact h.hdisj c b (hown _ _ hc) _ gH ((hst.2 b).1 e2)
 ·intro j g
  by_cases e : j = k
  ·subst e; simp [get] at g
  ·exact h.nobox j (by simpa [get, Ne.symm e] using g)
 ·intro j g; exact h.notok j (by simpa [get] using g)

def nq : List Sv → Option (List AV)
 | [] => some []
 | x :: l => match x.av, nq l with
  | some a, some r => some (a :: r)
  | _, _ => none
theorem x6 {l : List Sv} {r : List AV} (h : nq l = some r) : l.length = r.length ∧ ∀ (j : Nat) x, r[j]? = some x → ∃ y, l[j]? = some y ∧ y.av = some x := by
 induction l generalizing r with
 | nil => simp [nq] at h; subst h; exact ⟨rfl, fun j x e => by simp at e⟩
 | cons v l ih =>
  simp only [nq] at h
  split at h
  ·rename_i a r' ha hr
   cases h
   obtain ⟨h1, h2⟩ := ih hr
   refine ⟨by simp [h1], fun j x e => ?_⟩
   cases j with
   | zero => simp at e; subst e; exact ⟨v, by simp, ha⟩
   | succ j => simpa using h2 j x (by simpa using e)
  ·cases h
theorem D3 {x : Sv} {a : AV} (hx : x.flat = true) (h : x.av = some a) : a.flat = true := by
 cases x with
 | v b => simp [Sv.av] at h; subst h; exact hx
 | lp k off => simp [Sv.av] at h
 | ow k xs => simp [Sv.av] at h; subst h; rfl
 | mv k n => simp [Sv.av] at h
 | om k n => simp [Sv.av] at h
 | ov k esz lo n => simp [Sv.av] at h
 | ta k off => simp [Sv.av] at h
 | mp k => simp [Sv.av] at h
 | cd g b a => simp [Sv.av] at h
def vO (b : Bool) (n : Nat) (cs : List Sv) : Option Sv :=
 match b with
 | false => cs[0]?
 | true => match nq (cs.take n) with
  | some r => if r.length = n then some (.v (.agg r)) else none
  | none => none
theorem eP {P : Program} {G : Gh} {L : Loc} {t : TypeId} {b : Bool} {n : Nat} (hl : lk P t = some (b, n)) {cs : List Sv} {z : Sv} (hz : vO b n cs = some z) {w : World} {p : Addr} {f : Nat → Value}
  (hc : ∀ (j : Nat) y, cs[j]? = some y → w.cell? (p.add j) = some (f j) ∧ y.flat = true ∧ SV G L (f j) y) : ∃ v, (loadVar t p).run P w = .ok v w ∧ SV G L v z := by
 obtain ⟨ha, hs⟩ := mT hl w
 cases b with
 | false =>
  obtain ⟨h1, h2, h3⟩ := hc 0 z hz
  refine ⟨f 0, ?_, h3⟩
  have h1' : w.cell? p = some (f 0) := by simpa [Addr.add] using h1
  simp [loadVar, ha, h1']
 | true =>
  simp only [vO] at hz
  split at hz
  ·rename_i r hr
   split at hz
   ·rename_i hlen
    cases hz
    obtain ⟨h1, h2⟩ := x6 hr
    have hcell : ∀ j, j < n → w.cell? (p.add j) = some (f j) := by
     intro j hj
     obtain ⟨y, hy, _⟩ := h2 j r[j] (by simp)
     rw [List.getElem?_take, if_pos hj] at hy
     exact (hc j y hy).1
    refine ⟨.agg ((List.range n).map f).toArray, ?_, ?_⟩
    ·simp [loadVar, ha, hs, run_loadCells w p n f hcell]
    ·have hel : ∀ (j : Nat) c, r[j]? = some c → c.flat = true ∧ V G (f j) c := by
      intro j c e
      obtain ⟨y, hy, hav⟩ := h2 j c e
      have hj : j < n := by have := (List.getElem?_eq_some_iff.1 e).1; omega
      rw [List.getElem?_take, if_pos hj] at hy
      obtain ⟨_, q2, q3⟩ := hc j y hy
      exact ⟨D3 q2 hav, q3.av hav⟩
     refine V.agg _ _ (by simp [hlen]) (fun j c e => (hel j c e).1) (fun j c e => ?_)
     have hj : j < n := by have := (List.getElem?_eq_some_iff.1 e).1; omega
     have : ((List.range n).map f).toArray.getD j undef = f j := by
      rw [Array.getD_eq_getD_getElem?]
      simp [hj]
     rw [this]
     exact (hel j c e).2
   ·cases hz
  ·cases hz

theorem lv {cv : CV} {cs : List Sv} (h : cv.vt = some cs) : cv.live = true := by cases cv <;> first | rfl | cases h
theorem sQ {G : Gh} {L : Loc} {o : Obj} {cv : CV} {cs : List Sv} (h : cv.vt = some cs) (hk : fj G L o cv) : ∃ arr el, o = .cells arr el (0, 0) ∧ cs.length ≤ arr.size ∧ ∀ (j : Nat) x, cs[j]? = some x → x.flat = true ∧ SV G L (arr.getD j undef) x := by
 cases cv
 case bx l => cases h; obtain ⟨arr, el, e, h1, h2⟩ := hk; exact ⟨arr, el, e, Nat.le_of_eq h1.symm, h2⟩
 case ob id l => cases h; obtain ⟨arr, el, e, h1, h2⟩ := hk; exact ⟨arr, el, e, h1.1, h2⟩
 all_goals cases h
theorem xJ {G : Gh} {L : Loc} {cv : CV} {cs ds : List Sv} (h : cv.vt = some cs) {arr0 arr : Array Value} {el0 el : TypeId} (h0 : fj G L (.cells arr0 el0 (0, 0)) cv) (hd : ds.length = cs.length) (h1 : arr.size = arr0.size) (h2 : ∀ (j : Nat) x, ds[j]? = some x → x.flat = true ∧ SV G L (arr.getD j undef) x) : fj G L (.cells arr el (0, 0)) (cv.bk ds) := by
 cases cv
 case bx l => cases h; obtain ⟨a, e, e0, k1, k2⟩ := h0; cases e0; exact ⟨arr, el, rfl, by rw [h1, k1, hd], h2⟩
 case ob id l => cases h; obtain ⟨a, e, e0, k1, k2⟩ := h0; cases e0; exact ⟨arr, el, rfl, ⟨by rw [h1, hd]; exact k1.1, by rw [h1]; exact k1.2⟩, h2⟩
 all_goals (exfalso; cases h; done)
section
variable {P : Program} {N : Nat} {s : St} {d : Nat} {ty : TypeId} {pos : String} {af : Array Edge} {g : Option (Nat × Bool)}
theorem zt {t1 : TypeId} {x : Operand} {k off n : Nat} {b : Bool} {cv : CV} {cs : List Sv} {z : Sv} (hN : d < N) (hl : lk P t1 = some (b, n)) (hx : fq x s = some (.lp k off)) (hk : get s (.b k) = some cv) (hcv : cv.vt = some cs) (hz : vO b n (cs.drop off) = some z) :
  aY P N ⟨some d, .load t1 x, ty, pos, af, g⟩ s (rd x ++ [.b k]) [(.s d, .sv z)] :=
 aY.val rfl hN fun E G L a w t hr hR => by
  obtain ⟨blk, hb, hv⟩ := bm hr hR.left hx
  obtain ⟨blk', o, hb', hbase, hh, hobj, hn⟩ := hr.box k cv (by rw [hR (.b k) (by simp)]; exact hk) (lv hcv)
  obtain ⟨arr, el, rfl, hsz, hc⟩ := sQ hcv hobj
  rw [hb] at hb'; cases hb'
  have hcell : ∀ (j : Nat) y, (cs.drop off)[j]? = some y → w.cell? ((⟨blk, off, none⟩ : Addr).add j) = some (arr.getD (off + j) undef) ∧ y.flat = true ∧ SV G L (arr.getD (off + j) undef) y := by
   intro j y e
   rw [List.getElem?_drop] at e
   refine ⟨?_, hc _ y e⟩
   have hlt : off + j < arr.size := by have := (List.getElem?_eq_some_iff.1 e).1; omega
   rw [Addr.add_lit, cell_of_row w blk (off + j) arr el (0, 0) hh, Array.getD_eq_getD_getElem?, Array.getElem?_eq_getElem hlt]
   rfl
  obtain ⟨v, hrun, hV⟩ := eP (P := P) hl hz hcell
  refine ⟨v, ?_, hV⟩
  simp [execOp, hv, Instr.loadAt, Instr.sureAddr, hrun]
theorem eJ {t1 : TypeId} {x : Operand} {k off n : Nat} {b : Bool} {cs : List Sv} {z : Sv} (hN : d < N) (hl : lk P t1 = some (b, n)) (hx : fq x s = some (.lp k off)) (hk : get s (.b k) = some (.bx cs)) (hz : vO b n (cs.drop off) = some z) :
  aY P N ⟨some d, .load t1 x, ty, pos, af, g⟩ s (rd x ++ [.b k]) [(.s d, .sv z)] := zt hN hl hx hk rfl hz
theorem FK {t1 : TypeId} {x : Operand} {k off n id : Nat} {b : Bool} {cs : List Sv} {z : Sv} (hN : d < N) (hl : lk P t1 = some (b, n)) (hx : fq x s = some (.lp k off)) (hk : get s (.b k) = some (.ob id cs)) (hz : vO b n (cs.drop off) = some z) :
  aY P N ⟨some d, .load t1 x, ty, pos, af, g⟩ s (rd x ++ [.b k]) [(.s d, .sv z)] := zt hN hl hx hk rfl hz
theorem mP {t1 : TypeId} {x : Operand} {n : Nat} {b : Bool} {cs : List AV} {z : Sv} (hN : d < N) (hl : lk P t1 = some (b, n)) (hx : cU x s = some (.kp cs)) (hz : vO b n (cs.map .v) = some z) :
  aY P N ⟨some d, .load t1 x, ty, pos, af, g⟩ s (rd x) [(.s d, .sv z)] :=
 aY.val rfl hN fun E G L a w t hr hR => by
  have hv := aS hr hR hx
  generalize hav : a.eval x = u at hv
  cases hv
  rename_i blk off vs hk hf hvv
  have hcell : ∀ (j : Nat) y, (cs.map Sv.v)[j]? = some y → w.cell? ((⟨blk, off, none⟩ : Addr).add j) = some (vs j) ∧ y.flat = true ∧ SV G L (vs j) y := by
   intro j y e
   rw [List.getElem?_map] at e
   cases hc : cs[j]? with
   | none => rw [hc] at e; cases e
   | some c =>
    rw [hc] at e; cases e
    exact ⟨by rw [Addr.add_lit]; exact hr.kn _ _ _ (hk j c hc), hf j c hc, hvv j c hc⟩
  obtain ⟨v, hrun, hV⟩ := eP (P := P) hl hz hcell
  refine ⟨v, ?_, hV⟩
  simp [execOp, hav, Instr.loadAt, Instr.sureAddr, hrun]
theorem zw {t1 : TypeId} {x : Operand} {i k off o : Nat} (hN : d < N) (hf : fo P t1 i = some o) (hx : fq x s = some (.lp k off)) :
  aY P N ⟨some d, .fieldAddr t1 x i, ty, pos, af, g⟩ s (rd x) [(.s d, .sv (.lp k (off + o)))] :=
 aY.val rfl hN fun E G L a w t hr hR => by
  obtain ⟨blk, hb, hv⟩ := bm hr hR hx
  refine ⟨.pointer (some ⟨blk, off + o, none⟩), ?_, ⟨blk, hb, rfl⟩⟩
  simp [execOp, hv, v7 hf, Addr.add_lit]
theorem FM {t1 : TypeId} {x : Operand} {i o : Nat} {cs : List AV} (hN : d < N) (hf : fo P t1 i = some o) (hx : cU x s = some (.kp cs)) :
  aY P N ⟨some d, .fieldAddr t1 x i, ty, pos, af, g⟩ s (rd x) [(.s d, .sv (.v (.kp (cs.drop o))))] :=
 aY.val rfl hN fun E G L a w t hr hR => by
  have hv := aS hr hR hx
  generalize hav : a.eval x = u at hv
  cases hv
  rename_i blk off vs hk hff hvv
  refine ⟨.pointer (some ⟨blk, off + o, none⟩), ?_, V.kp blk (off + o) _ (fun j => vs (o + j)) ?_ ?_ ?_⟩
  ·simp [execOp, hav, v7 hf, Addr.add_lit]
  ·intro j c e; rw [List.getElem?_drop] at e; rw [Nat.add_assoc]; exact hk _ c e
  ·intro j c e; rw [List.getElem?_drop] at e; exact hff _ c e
  ·intro j c e; rw [List.getElem?_drop] at e; exact hvv _ c e
theorem aI {t1 : TypeId} {x i : Operand} {esz : Nat} {k : IntKind} {n : Int} {xs : List AV} {e : AV} (hN : d < N) (ht : ie P t1 = some esz) (hx : cU x s = some (.sl xs)) (hi : cU i s = some (.int k n)) (h0 : 0 ≤ n)
  (he : xs[n.toNat]? = some e) (hsz : e.cells.length = esz) : aY P N ⟨some d, .indexAddr t1 x i, ty, pos, af, g⟩ s (rd x ++ rd i) [(.s d, .sv (.v (.kp e.cells)))] :=
 aY.val rfl hN fun E G L a w t hr hR => by
  have hv := aS hr hR.left hx
  have hn := kI (aS hr hR.right hi)
  obtain ⟨el, inf, hu, hinf, hsize⟩ := rz ht
  generalize hav : a.eval x = u at hv
  have hlt := (List.getElem?_eq_some_iff.1 he).1
  cases hv with
  | slE A cap => simp at he
  | slN blk off cap esz' _ vs hc hes hk hff hvv =>
   have : esz' = esz := (hes _ e he).symm.trans hsz
   subst this
   refine ⟨.pointer (some ⟨blk, off + n.toNat * esz', none⟩), ?_, V.kp blk _ _ (vs n.toNat) (fun j c q => hk _ e j c he q) (fun j c q => hff _ e j c he q) (fun j c q => hvv _ e j c he q)⟩
   have hlt' : n < (xs.length : Int) := by omega
   simp [execOp, hav, hn, Instr.indexAt, asIntOf, run_underlying hu, h0, hlt', sizeOf, typeInfo, hinf, hsize, Addr.add_lit]
theorem Cf {x : Operand} {k off : Nat} (hN : d < N) (hx : fq x s = some (.lp k off)) : aY P N ⟨some d, .nilCheck x, ty, pos, af, g⟩ s (rd x) [(.s d, .sv (.lp k off))] :=
 aY.val rfl hN fun E G L a w t hr hR => by
  obtain ⟨blk, hb, hv⟩ := bm hr hR hx
  exact ⟨.pointer (some ⟨blk, off, none⟩), by simp [execOp, hv], ⟨blk, hb, rfl⟩⟩
theorem Cg {x : Operand} {cs : List AV} (hN : d < N) (hx : cU x s = some (.kp cs)) : aY P N ⟨some d, .nilCheck x, ty, pos, af, g⟩ s (rd x) [(.s d, .sv (.v (.kp cs)))] :=
 aY.val rfl hN fun E G L a w t hr hR => by
  have hv := aS hr hR hx
  generalize hav : a.eval x = u at hv
  cases hv
  rename_i blk off vs hk hff hvv
  exact ⟨.pointer (some ⟨blk, off, none⟩), by simp [execOp, hav], V.kp blk off cs vs hk hff hvv⟩

def setAt (cs : List Sv) (o : Nat) (ys : List Sv) : List Sv := cs.take o ++ ys ++ cs.drop (o + ys.length)
theorem zn {t1 : TypeId} {x y : Operand} {k off n : Nat} {b : Bool} {cv : CV} {cs : List Sv} {z : Sv} (hl : lk P t1 = some (b, n)) (hx : fq x s = some (.lp k off)) (hk : get s (.b k) = some cv) (hcv : cv.vt = some cs) (hy : fq y s = some z) (ht : z.j5 = false)
  (hn : z.cells.length = n) (hf : off + n ≤ cs.length) : aY P N ⟨none, .store t1 x y, ty, pos, af, g⟩ s (rd x ++ (rd y ++ [.b k])) [(.b k, cv.bk (setAt cs off z.cells))] := by
 intro t hR E G L a w hr K Q hK
 obtain ⟨blk, hb, hv⟩ := bm hr hR.left hx
 have hz := bm hr hR.right.left hy
 have hk' : get t (.b k) = some cv := by rw [hR (.b k) (by simp)]; exact hk
 obtain ⟨blk', o, hb', hbase, hh, hob, hno⟩ := hr.box k cv hk' (lv hcv)
 obtain ⟨arr, el, rfl, hsz, hc⟩ := sQ hcv hob
 rw [hb] at hb'; cases hb'
 obtain ⟨h1, h2⟩ := wH hz (ti ht)
 have hlen : (a.eval y).cells.toList.length = n := by rw [Array.length_toList, h1, hn]
 have hone : ∀ u ∈ (a.eval y).cells.toList, u.oneCell' = true := by
  intro u hu
  obtain ⟨j, hj, rfl⟩ := List.mem_iff_getElem.1 hu
  have hj' : j < z.cells.length := by omega
  obtain ⟨q1, q2⟩ := h2 j z.cells[j] (by simp [hj'])
  have : (a.eval y).cells.getD j undef = (a.eval y).cells.toList[j] := by
   rw [Array.getD_eq_getD_getElem?, ← Array.getElem?_toList, List.getElem?_eq_getElem hj]; rfl
  rw [← this]
  exact q2.eE q1
 have hst := run_storeCells_at P blk off el (a.eval y).cells.toList 0 arr w hh (by rw [hlen]; omega) hone
 obtain ⟨_, hs⟩ := mT hl w
 simp only [Nat.add_zero] at hst
 let arr' : Array Value := (arr.toList.take off ++ (a.eval y).cells.toList ++ arr.toList.drop (off + (a.eval y).cells.toList.length)).toArray
 have hrun : (execOp a.eval ⟨none, .store t1 x y, ty, pos, af, g⟩).run P w = .ok .skip (w.setRow blk arr') := by
  have hne : ¬ ((a.eval y).cells.size ≠ n) := by rw [h1, hn]; simp
  simp only [execOp, Sem.run_bind, hv, Instr.storeAt, Instr.sureAddr, Sem.run_pure, Result.andThen_ok, storeVar, hs]
  rw [if_neg hne]
  simp only [hst, Result.andThen_ok]
  rfl
 have hobj : fj G L (.cells arr' el (0, 0)) (cv.bk (setAt cs off z.cells)) := by
  have hl1 : (arr.toList.take off).length = off := by rw [List.length_take, Array.length_toList]; omega
  have hl2 : (cs.take off).length = off := by rw [List.length_take]; omega
  refine xJ hcv hob ?_ ?_ fun j u e => ?_
  ·simp only [setAt, List.length_append, hl2, hn, List.length_drop]; omega
  ·simp only [arr', List.size_toArray, List.length_append, hl1, hlen, List.length_drop, Array.length_toList]; omega
  ·have key : arr'.getD j undef = if j < off then arr.getD j undef else if j < off + n then (a.eval y).cells.getD (j - off) undef else arr.getD j undef := by
    simp only [arr', Array.getD_eq_getD_getElem?, List.getElem?_toArray]
    rw [List.append_assoc]
    split
    ·rename_i hj
     rw [List.getElem?_append_left (by omega), List.getElem?_take, if_pos hj, Array.getElem?_toList]
    ·rename_i hj
     rw [List.getElem?_append_right (by omega), hl1]
     split
     ·rename_i hj2
      rw [List.getElem?_append_left (by omega), Array.getElem?_toList]
     ·rename_i hj2
      rw [List.getElem?_append_right (by omega), hlen, List.getElem?_drop, Array.getElem?_toList]
      congr 2
      omega
   rw [key]
   simp only [setAt] at e
   rw [List.append_assoc] at e
   split
   ·rename_i hj
    rw [List.getElem?_append_left (by omega), List.getElem?_take, if_pos hj] at e
    exact hc j u e
   ·rename_i hj
    rw [List.getElem?_append_right (by omega), hl2] at e
    split
    ·rename_i hj2
     rw [List.getElem?_append_left (by omega)] at e
     exact h2 _ u e
    ·rename_i hj2
     rw [List.getElem?_append_right (by omega), List.getElem?_drop] at e
     have he : off + z.cells.length + (j - off - z.cells.length) = j := by omega
     rw [he] at e
     exact hc j u e
 have hr2 := hr.ID (cv := cv.bk (setAt cs off z.cells)) hk' (lv hcv) (by cases cv <;> rfl) (by cases cv <;> first | rfl | cases hcv) hb hobj (w' := w.setRow blk arr') rfl rfl rfl (size_setRow w blk arr') (fun j hj => setRow_other w blk j arr' hj) (setRow_heap w blk arr arr' el (0, 0) hh)
 unfold Oper.wp
 rw [hrun]
 exact hK undef _ G L hr2
theorem zm {t1 : TypeId} {x y : Operand} {k off n : Nat} {b : Bool} {cs : List Sv} {z : Sv} (hl : lk P t1 = some (b, n)) (hx : fq x s = some (.lp k off)) (hk : get s (.b k) = some (.bx cs)) (hy : fq y s = some z) (ht : z.j5 = false)
  (hn : z.cells.length = n) (hf : off + n ≤ cs.length) : aY P N ⟨none, .store t1 x y, ty, pos, af, g⟩ s (rd x ++ (rd y ++ [.b k])) [(.b k, .bx (setAt cs off z.cells))] := zn hl hx hk rfl hy ht hn hf
theorem FE {t1 : TypeId} {x y : Operand} {k off n id : Nat} {b : Bool} {cs : List Sv} {z : Sv} (hl : lk P t1 = some (b, n)) (hx : fq x s = some (.lp k off)) (hk : get s (.b k) = some (.ob id cs)) (hy : fq y s = some z) (ht : z.j5 = false)
  (hn : z.cells.length = n) (hf : off + n ≤ cs.length) : aY P N ⟨none, .store t1 x y, ty, pos, af, g⟩ s (rd x ++ (rd y ++ [.b k])) [(.b k, .ob id (setAt cs off z.cells))] := zn hl hx hk rfl hy ht hn hf
end
/- The program logic's rules: structs and slices that are built; calls; closures. No condition. -/

/-! ### Rows of cells -/
def Row (G : Gh) (arr : Array Value) (cs : List AV) : Prop := arr.size = cs.length ∧ ∀ (j : Nat) x, cs[j]? = some x → x.flat = true ∧ V G (arr.getD j undef) x
theorem qo (off : Nat) : ∀ (vs : List Value) (j0 : Nat) (arr : Array Value), off + j0 + vs.length ≤ arr.size →
  ((vs.zipIdx j0).foldl (fun (cs : Array Value) (p : Value × Nat) => cs.setIfInBounds (off + p.2) p.1) arr).size = arr.size ∧
  ∀ q, ((vs.zipIdx j0).foldl (fun (cs : Array Value) (p : Value × Nat) => cs.setIfInBounds (off + p.2) p.1) arr)[q]? = if off + j0 ≤ q ∧ q < off + j0 + vs.length then vs[q - (off + j0)]? else arr[q]?
 | [], j0, arr, h => ⟨rfl, fun q => by
  rw [if_neg (fun hq => by simp at hq; omega)]
  rfl⟩
 | v :: vs, j0, arr, h => by
  have h' : off + (j0 + 1) + vs.length ≤ (arr.setIfInBounds (off + j0) v).size := by simp at h ⊢; omega
  obtain ⟨h1, h2⟩ := qo off vs (j0 + 1) (arr.setIfInBounds (off + j0) v) h'
  simp only [List.zipIdx_cons, List.foldl_cons]
  refine ⟨by rw [h1]; simp, fun q => ?_⟩
  rw [h2 q]
  simp only [List.length_cons] at h ⊢
  by_cases e : q = off + j0
  ·subst e
   rw [if_neg (by omega), if_pos (by omega), Array.getElem?_setIfInBounds_self_of_lt (by omega)]
   simp
  ·by_cases hr : off + j0 ≤ q ∧ q < off + j0 + (vs.length + 1)
   ·rw [if_pos (by omega), if_pos hr]
    have : q - (off + j0) = (q - (off + (j0 + 1))) + 1 := by omega
    rw [this]; simp
   ·rw [if_neg (by omega), if_neg hr, Array.getElem?_setIfInBounds_ne (by omega)]
def gi (place : Nat → Option (Nat × Nat)) (cells : List AV) : List (Nat × AV) → Option (List AV)
 | [] => some cells
 | (i, a) :: rest =>
  match place i with
  | none => none
  | some (off, size) => if a.cells.length = size ∧ off + size ≤ cells.length then (match a with | .tup _ => none | _ => gi place (cells.take off ++ a.cells ++ cells.drop (off + size)) rest) else none
inductive uQ (G : Gh) : List (Nat × Value) → List (Nat × AV) → Prop where
 | nil : uQ G [] []
 | cons (i : Nat) (v : Value) (a : AV) (l : List (Nat × Value)) (m : List (Nat × AV)) : V G v a → uQ G l m → uQ G ((i, v) :: l) ((i, a) :: m)
theorem pP {G : Gh} {place : Nat → Option (Nat × Nat)} {l : List (Nat × Value)} {m : List (Nat × AV)} (hp : uQ G l m) : ∀ {arr : Array Value} {cs r : List AV}, Row G arr cs → gi place cs m = some r →
  ∃ arr', Instr.fill place arr l = some arr' ∧ Row G arr' r := by
 induction hp with
 | nil => intro arr cs r hr h; simp [gi] at h; subst h; exact ⟨arr, rfl, hr⟩
 | cons i v a l m hV _ ih =>
  intro arr cs r hr h
  simp only [gi] at h
  split at h
  ·cases h
  ·rename_i off size hpl
   split at h
   ·rename_i hc
    have hnt : ∀ vs, a ≠ .tup vs := by rintro vs rfl; cases h
    have h' : gi place (cs.take off ++ a.cells ++ cs.drop (off + size)) m = some r := by
     cases a <;> first | exact h | cases h
    obtain ⟨h1, h2⟩ := hV.cells hnt
    have hsz : v.cells.size = size := by rw [h1, hc.1]
    have hb : ¬ (v.cells.size ≠ size || decide (off + v.cells.size > arr.size)) = true := by
     simp [hsz]; have := hr.1; omega
    let arr1 : Array Value := v.cells.zipIdx.foldl (fun cs (c, j) => cs.setIfInBounds (off + j) c) arr
    have key : arr1.size = arr.size ∧ ∀ q, arr1[q]? = if off ≤ q ∧ q < off + size then v.cells[q - off]? else arr[q]? := by
     have := qo off v.cells.toList 0 arr (by rw [Array.length_toList, hsz]; have := hr.1; omega)
     have e : arr1 = (v.cells.toList.zipIdx 0).foldl (fun (cs : Array Value) (p : Value × Nat) => cs.setIfInBounds (off + p.2) p.1) arr := by
      simp only [arr1]
      rw [← Array.foldl_toList, Array.toList_zipIdx]
     rw [e]
     refine ⟨this.1, fun q => ?_⟩
     rw [this.2 q]
     simp [hsz]
    have hl1 : (cs.take off).length = off := by rw [List.length_take]; omega
    have hr1 : Row G arr1 (cs.take off ++ a.cells ++ cs.drop (off + size)) := by
     refine ⟨?_, fun j x e => ?_⟩
     ·rw [key.1, hr.1]; simp only [List.length_append, hl1, List.length_drop, hc.1]; omega
     ·rw [Array.getD_eq_getD_getElem?, key.2 j]
      rw [List.append_assoc] at e
      by_cases hj : j < off
      ·rw [List.getElem?_append_left (by omega), List.getElem?_take, if_pos hj] at e
       rw [if_neg (by omega), ← Array.getD_eq_getD_getElem?]
       exact hr.2 j x e
      ·rw [List.getElem?_append_right (by omega), hl1] at e
       by_cases hj2 : j < off + size
       ·rw [List.getElem?_append_left (by omega)] at e
        rw [if_pos (by omega), ← Array.getD_eq_getD_getElem?]
        exact h2 _ x e
       ·rw [List.getElem?_append_right (by omega), List.getElem?_drop] at e
        have he : off + size + (j - off - a.cells.length) = j := by omega
        rw [he] at e
        rw [if_neg (by omega), ← Array.getD_eq_getD_getElem?]
        exact hr.2 j x e
    obtain ⟨arr', h3, h4⟩ := ih hr1 h'
    refine ⟨arr', ?_, h4⟩
    simp only [Instr.fill, hpl]
    rw [if_neg hb]
    exact h3
   ·cases h
def j9 : List (Nat × Operand) → St → Option (List (Nat × AV))
 | [], _ => some []
 | (i, x) :: l, s => match cU x s, j9 l s with
  | some a, some r => some ((i, a) :: r)
  | _, _ => none
def lF : List Operand → List aK
 | [] => []
 | x :: l => rd x ++ lF l
theorem jM {E : dX} {N : Nat} {G : Gh} {L : Loc} {a : Act} {w : World} {s t : St} (hr : Rel E N G L a w t) : ∀ {l : List (Nat × Operand)} {m : List (Nat × AV)}, Reads (lF (l.map (·.2))) s t → j9 l s = some m → uQ G (l.map fun (i, x) => (i, a.eval x)) m
 | [], m, _, h => by simp [j9] at h; subst h; exact .nil
 | (i, x) :: l, m, hR, h => by
  simp only [j9] at h
  split at h
  ·rename_i b r hb hr'
   cases h
   have hR' : Reads (rd x ++ lF (l.map (·.2))) s t := hR
   exact .cons i _ _ _ _ (aS hr hR'.left hb) (jM hr hR'.right hr')
  ·cases h

/-! ### Structs -/
def Bw (P : Program) (t : TypeId) : Option (List (Nat × Nat)) :=
 match P.underlying t with
 | some (.struct fs) => fs.toList.mapM fun f => (P.info? f.type).map fun i => (f.offset, i.size)
 | _ => none
theorem oq {P : Program} (w : World) : ∀ (fs : List Field) (pl : List (Nat × Nat)), fs.mapM (fun f => (P.info? f.type).map fun i => (f.offset, i.size)) = some pl →
  (fs.mapM fun f => (do pure (f.offset, ← sizeOf f.type) : Sem (Nat × Nat))).run P w = .ok pl w
 | [], pl, h => by simp at h; subst h; rfl
 | f :: fs, pl, h => by
  simp only [List.mapM_cons, Option.bind_eq_bind, Option.bind_eq_some_iff] at h
  obtain ⟨p, hp, l, hl, e⟩ := h
  cases hi : P.info? f.type with
  | none => rw [hi] at hp; cases hp
  | some i =>
   rw [hi] at hp
   cases hp
   simp at e
   subst e
   have ih := oq w fs l hl
   simp only [List.mapM_cons, Sem.run_bind, sizeOf, typeInfo, run_program, Result.andThen_ok, hi, Sem.run_pure]
   simp only [sizeOf, typeInfo] at ih
   rw [ih]
   rfl
section
variable {P : Program} {N : Nat} {s : St} {d : Nat} {ty : TypeId} {pos : String} {af : Array Edge} {g : Option (Nat × Bool)}
theorem w7 {t1 : TypeId} {ps : List (Nat × Operand)} {pl : List (Nat × Nat)} {zs : List AV} {qs : List (Nat × AV)} {r : List AV} (hN : d < N) (hpl : Bw P t1 = some pl) (hz : ∃ i z, P.info? t1 = some i ∧ i.zero = some z ∧ ∀ G, Row G z.cells zs) (hq : j9 ps s = some qs) (hf : gi (fun i => pl[i]?) zs qs = some r) :
  aY P N ⟨some d, .build t1 ps.toArray, ty, pos, af, g⟩ s (lF (ps.map (·.2))) [(.s d, .sv (.v (.agg r)))] :=
 aY.val rfl hN fun E G L a w t hr hR => by
  have hparts := jM hr hR hq
  obtain ⟨i, z, hi, hzz, hrow0⟩ := hz
  have cE := hrow0 G
  obtain ⟨arr', hfill, hrow'⟩ := pP hparts cE hf
  unfold Bw at hpl
  split at hpl
  ·rename_i fs hfs
   have hm := oq (P := P) w fs.toList pl hpl
   refine ⟨.agg arr', ?_, V.agg _ _ hrow'.1 (fun j c e => (hrow'.2 j c e).1) (fun j c e => (hrow'.2 j c e).2)⟩
   have hmm : (fs.mapM fun f => (do pure (f.offset, ← sizeOf f.type) : Sem (Nat × Nat))).run P w = .ok pl.toArray w := by
    rw [Array.mapM_eq_mapM_toList]
    simp only [Sem.run_map, hm, Result.andThen_ok]
   have hfill' : Instr.fill (fun x => pl.toArray[x]?) z.cells (List.map (fun (x : Nat × Operand) => (x.1, a.eval x.2)) ps) = some arr' := by
    simpa using hfill
   simp only [execOp, Instr.build, Sem.run_bind, zeroValue, typeInfo, run_program, Result.andThen_ok, hi, Sem.run_pure, hzz, run_underlying hfs, hmm, List.map_toArray]
   rw [hfill']
   rfl
  ·cases hpl
theorem qI {t1 : TypeId} {zs : List AV} (hz : bu P t1 = some zs) : ∃ i z, P.info? t1 = some i ∧ i.zero = some z ∧ ∀ G, Row G z.cells zs := by
 unfold bu at hz
 split at hz
 ·rename_i i hi
  split at hz
  ·rename_i z hzz
   refine ⟨i, z, hi, hzz, fun G => ?_⟩
   obtain ⟨h1, h2⟩ := jY G hz
   exact ⟨by simpa using h1, fun j x e => ⟨(h2 j x e).1, by
    have := (h2 j x e).2
    rwa [Array.getD_eq_getD_getElem?, ← Array.getElem?_toList, ← List.getD_eq_getElem?_getD]⟩⟩
  ·cases hz
 ·cases hz
theorem FT {t1 : TypeId} {ps : List (Nat × Operand)} {pl : List (Nat × Nat)} {zs : List AV} {qs : List (Nat × AV)} {r : List AV} (hN : d < N) (hpl : Bw P t1 = some pl) (hz : bu P t1 = some zs) (hq : j9 ps s = some qs) (hf : gi (fun i => pl[i]?) zs qs = some r) :
  aY P N ⟨some d, .build t1 ps.toArray, ty, pos, af, g⟩ s (lF (ps.map (·.2))) [(.s d, .sv (.v (.agg r)))] := w7 hN hpl (qI hz) hq hf
/-! nil slices that are known to be nil -/
def G8 (v : Value) : Option AV := match v with
 | .slice none 0 0 => some .nsl
 | v => G9 v
def uE : List Value → Option (List AV)
 | [] => some []
 | v :: l => match G8 v, uE l with
  | some a, some r => some (a :: r)
  | _, _ => none
def qH (P : Program) (t : TypeId) : Option (List AV) :=
 match P.info? t with
 | some i => match i.zero with
  | some z => uE z.cells.toList
  | none => none
 | none => none
theorem vp (G : Gh) {v : Value} {a : AV} (h : G8 v = some a) : a.flat = true ∧ V G v a := by
 unfold G8 at h
 split at h
 ·cases h; exact ⟨rfl, .nsl⟩
 ·exact ⟨uF h, ma G h⟩
theorem uD (G : Gh) {l : List Value} {r : List AV} (h : uE l = some r) : l.length = r.length ∧ ∀ (j : Nat) x, r[j]? = some x → x.flat = true ∧ V G (l.getD j undef) x := by
 induction l generalizing r with
 | nil => simp [uE] at h; subst h; exact ⟨rfl, fun j x e => by simp at e⟩
 | cons v l ih =>
  simp only [uE] at h
  split at h
  ·rename_i a r' ha hr
   cases h
   obtain ⟨h1, h2⟩ := ih hr
   refine ⟨by simp [h1], fun j x e => ?_⟩
   cases j with
   | zero => simp at e; subst e; simpa using vp G ha
   | succ j => simpa using h2 j x (by simpa using e)
  ·cases h
theorem xW {t1 : TypeId} {zs : List AV} (hz : qH P t1 = some zs) : ∃ i z, P.info? t1 = some i ∧ i.zero = some z ∧ ∀ G, Row G z.cells zs := by
 unfold qH at hz
 split at hz
 ·rename_i i hi
  split at hz
  ·rename_i z hzz
   refine ⟨i, z, hi, hzz, fun G => ?_⟩
   obtain ⟨h1, h2⟩ := uD G hz
   exact ⟨by simpa using h1, fun j x e => ⟨(h2 j x e).1, by
    have := (h2 j x e).2
    rwa [Array.getD_eq_getD_getElem?, ← Array.getElem?_toList, ← List.getD_eq_getElem?_getD]⟩⟩
  ·cases hz
 ·cases hz
theorem nU {t1 : TypeId} {ps : List (Nat × Operand)} {pl : List (Nat × Nat)} {zs : List AV} {qs : List (Nat × AV)} {r : List AV} (hN : d < N) (hpl : Bw P t1 = some pl) (hz : qH P t1 = some zs) (hq : j9 ps s = some qs) (hf : gi (fun i => pl[i]?) zs qs = some r) :
  aY P N ⟨some d, .build t1 ps.toArray, ty, pos, af, g⟩ s (lF (ps.map (·.2))) [(.s d, .sv (.v (.agg r)))] := w7 hN hpl (xW hz) hq hf
/-! ### Calls -/
def aa (P : Program) (f : FuncId) : Bool :=
 match P.funcs[f]? with
 | some fn => !(fn.name == "runtime.NumGoroutine") && fn.body.isSome
 | none => false
theorem jF {P : Program} {f : FuncId} (h : aa P f = true) (args : Array Value) (w : World) : (callFunc f args).run P w = .ok (.enter f args) w := by
 unfold aa at h
 split at h
 ·rename_i fn hfn
  simp only [Bool.and_eq_true, Bool.not_eq_true'] at h
  have hb : fn.body.isNone = false := by simpa using h.2
  simp only [callFunc, Sem.run_bind, run_program, Result.andThen_ok, hfn, h.1, Bool.false_eq_true, if_false, hb, Sem.run_pure]
 ·cases h
def k7 : List Operand → St → Option (List AV)
 | [], _ => some []
 | x :: l, s => match cU x s, k7 l s with
  | some a, some r => some (a :: r)
  | _, _ => none
theorem gV {E : dX} {N : Nat} {G : Gh} {L : Loc} {a : Act} {w : World} {s t : St} (hr : Rel E N G L a w t) : ∀ {l : List Operand} {m : List AV}, Reads (lF l) s t → k7 l s = some m → l.length = m.length ∧ ∀ (j : Nat) x, m[j]? = some x → V G ((l.map a.eval).getD j undef) x
 | [], m, _, h => by simp [k7] at h; subst h; exact ⟨rfl, fun j x e => by simp at e⟩
 | x :: l, m, hR, h => by
  simp only [k7] at h
  split at h
  ·rename_i b r hb hr'
   cases h
   have h1 := aS hr (Reads.left (R := rd x) (R' := lF l) hR) hb
   obtain ⟨h2, h3⟩ := gV hr (Reads.right (R := rd x) (R' := lF l) hR) hr'
   refine ⟨by simp [h2], fun j y e => ?_⟩
   cases j with
   | zero => simp at e; subst e; exact h1
   | succ j => simpa using h3 j y (by simpa using e)
  ·cases h
theorem B3 {G : Gh} {l : List Value} {m : List AV} (h1 : l.length = m.length) (h2 : ∀ (j : Nat) x, m[j]? = some x → V G (l.getD j undef) x) : VL G l.toArray m := by
 refine ⟨by simpa using h1, fun j x e => ?_⟩
 have := h2 j x e
 simpa [Array.getD_eq_getD_getElem?, List.getD_eq_getElem?_getD] using this
theorem yn {o : Oper} {f : FuncId} {R : List aK} {«as» : List AV} {r : AV} (hp : Pure P f «as» r) (hd : o.dst = some d) (hN : d < N)
  (h : ∀ E G L a w t, Rel E N G L a w t → Reads R s t → ∃ cargs, (execOp a.eval o).run P w = .ok (.enter f cargs) w ∧ VL G cargs «as») : aY P N o s R [(.s d, .sv (.v r))] := by
 intro t hR E G L a w hr K Q hK
 obtain ⟨cargs, he, hV⟩ := h E G L a w t hr hR
 obtain ⟨H, hH, hok, hmay⟩ := hr.heap
 unfold Oper.wp
 rw [he]
 refine (hp H G w cargs (hr.sB (by assumption)) hr.kn hok hV).mono ?_
 rintro e w' ⟨v, G', rfl, hv, hx, hkn, hok', hf, hft⟩
 refine hK v w' G' L ?_
 rw [hd]
 have h1 := (hr.called (by assumption) hx hkn hok' hf hft).put d hN v (.v r) hv
 refine h1.ext fun c => ?_
 simp only [List.cons_append, List.nil_append, get]
 split
 ·rfl
 ·split
  ·rename_i h2; subst h2; exact hH
  ·rfl
theorem uG {o : Oper} {f : FuncId} {R : List aK} {«as» : List AV} {H : Hp} {r : AV} {H' : Hp} (hp : dW P f «as» H r H') (hd : o.dst = some d) (hN : d < N) (hH : get s .h = some (.hp H))
  (h : ∀ E G L a w t, Rel E N G L a w t → Reads R s t → ∃ cargs, (execOp a.eval o).run P w = .ok (.enter f cargs) w ∧ VL G cargs «as») : aY P N o s (R ++ [.h]) [(.s d, .sv (.v r)), (.h, .hp H')] := by
 intro t hR E G L a w hr K Q hK
 obtain ⟨cargs, he, hV⟩ := h E G L a w t hr hR.left
 obtain ⟨H2, hH2, hok, hmay⟩ := hr.heap
 have hHt : get t .h = some (.hp H) := by rw [hR .h (by simp)]; exact hH
 rw [hHt] at hH2; cases hH2
 unfold Oper.wp
 rw [he]
 refine (hp G w cargs (hr.sB (by assumption)) hr.kn hok hV).mono ?_
 rintro e w' ⟨v, G', rfl, hv, hx, hkn, hok', hf, hft⟩
 refine hK v w' G' L ?_
 rw [hd]
 exact (hr.called (by assumption) hx hkn hok' hf hft).put d hN v (.v r) hv
theorem gd {f : FuncId} {xs : Array Operand} {tys : Array TypeId} {«as» : List AV} (hf : aa P f = true) (ha : k7 xs.toList s = some «as») {dst : Option Tmp} : ∀ E G L a w t, Rel E N G L a w t → Reads (lF xs.toList) s t →
  ∃ cargs, (execOp a.eval ⟨dst, .call { callee := .value (.func f), args := xs, argTypes := tys }, ty, pos, af, g⟩).run P w = .ok (.enter f cargs) w ∧ VL G cargs «as» := by
 intro E G L a w t hr hR
 obtain ⟨h1, h2⟩ := gV hr hR ha
 refine ⟨(xs.toList.map a.eval).toArray, ?_, B3 (by simpa using h1) h2⟩
 have e : #[] ++ Array.map a.eval xs ++ #[] = (xs.toList.map a.eval).toArray := by apply Array.ext'; simp
 have he : a.eval (.func f) = .func (.func f) #[] #[] := rfl
 simp only [execOp, resolve, he, Deferred.ofValue, Sem.run_bind, Sem.run_pure, Result.andThen_ok, invoke, jF hf, e]
theorem aG {f : FuncId} {xs : Array Operand} {tys : Array TypeId} {«as» : List AV} {r : AV} (hN : d < N) (hf : aa P f = true) (ha : k7 xs.toList s = some «as») (hp : Pure P f «as» r) :
  aY P N ⟨some d, .call { callee := .value (.func f), args := xs, argTypes := tys }, ty, pos, af, g⟩ s (lF xs.toList) [(.s d, .sv (.v r))] :=
 yn hp rfl hN (gd hf ha)
theorem db {f : FuncId} {xs : Array Operand} {tys : Array TypeId} {«as» : List AV} {r : AV} {H H' : Hp} (hN : d < N) (hf : aa P f = true) (hH : get s .h = some (.hp H)) (ha : k7 xs.toList s = some «as») (hp : dW P f «as» H r H') :
  aY P N ⟨some d, .call { callee := .value (.func f), args := xs, argTypes := tys }, ty, pos, af, g⟩ s (lF xs.toList ++ [.h]) [(.s d, .sv (.v r)), (.h, .hp H')] :=
 uG hp rfl hN hH (gd hf ha)
theorem qw {x : Operand} {f : FuncId} {xs : Array Operand} {tys : Array TypeId} {«as» caps : List AV} (hf : aa P f = true) (hx : cU x s = some (.fn f caps)) (ha : k7 xs.toList s = some «as») {dst : Option Tmp} : ∀ E G L a w t, Rel E N G L a w t → Reads (rd x ++ lF xs.toList) s t →
  ∃ cargs, (execOp a.eval ⟨dst, .call { callee := .value x, args := xs, argTypes := tys }, ty, pos, af, g⟩).run P w = .ok (.enter f cargs) w ∧ VL G cargs («as» ++ caps) := by
 intro E G L a w t hr hR
 obtain ⟨h1, h2⟩ := gV hr hR.right ha
 have hv := aS hr hR.left hx
 generalize hav : a.eval x = u at hv
 cases hv
 rename_i vs hl hvv
 refine ⟨(xs.toList.map a.eval).toArray ++ vs, ?_, ?_⟩
 ·have e : #[] ++ Array.map a.eval xs ++ vs = (xs.toList.map a.eval).toArray ++ vs := by apply Array.ext'; simp
  simp only [execOp, resolve, hav, Deferred.ofValue, Sem.run_bind, Sem.run_pure, Result.andThen_ok, invoke, jF hf, e]
 ·refine ⟨by simp [← h1, hl], fun j y e => ?_⟩
  simp only [Array.getD_eq_getD_getElem?, Array.getElem?_append]
  by_cases hj : j < «as».length
  ·rw [List.getElem?_append_left hj] at e
   have := h2 j y e
   have hj' : j < (xs.toList.map a.eval).toArray.size := by simp; have := h1; simp at this; omega
   rw [if_pos hj']
   simpa [List.getD_eq_getElem?_getD] using this
  ·rw [List.getElem?_append_right (by omega)] at e
   have hsz : (xs.toList.map a.eval).toArray.size = «as».length := by simp; simpa using h1
   rw [if_neg (by omega), hsz, ← Array.getD_eq_getD_getElem?]
   exact hvv _ y e
theorem uv {f : FuncId} {caps : Array Operand} {cs : List AV} (hN : d < N) (hc : k7 caps.toList s = some cs) :
  aY P N ⟨some d, .makeFunc (.func f) #[] caps, ty, pos, af, g⟩ s (lF caps.toList) [(.s d, .sv (.v (.fn f cs)))] :=
 aY.val rfl hN fun E G L a w t hr hR => by
  obtain ⟨h1, h2⟩ := gV hr hR hc
  refine ⟨.func (.func f) #[] (caps.map a.eval), by simp [execOp, Instr.makeFunc], ?_⟩
  have hV := B3 (l := caps.toList.map a.eval) (by simpa using h1) h2
  have e : caps.map a.eval = (caps.toList.map a.eval).toArray := by apply Array.ext'; simp
  rw [e]
  exact V.fn f _ _ hV.1 hV.2
end
/- The program logic's rules: slices that grow. No condition. -/

/-! ### More is known -/
def Gh.add (G : Gh) (b : Nat) (cells : List Value) : Gh := ⟨fun c o => if c = b then cells[o]? else G.kn c o, G.ob, G.sz⟩
theorem Gh.sT {G : Gh} {b : Nat} {cells : List Value} (h : ∀ o v, G.kn b o = some v → cells[o]? = some v) : G.le (G.add b cells) := by
 refine ⟨fun c o v e => ?_, fun _ _ e => e, fun _ _ _ => rfl⟩
 simp only [Gh.add]
 split
 ·rename_i hc; subst hc; exact h o v e
 ·exact e
def Loc.cX (L : Loc) (k : Nat) (v : Value) : Loc := ⟨L.box, fun j => if j = k then some v else L.tok j⟩
theorem Loc.qW {L : Loc} {k : Nat} {v : Value} (h : L.tok k = none) : ∀ j u, L.tok j = some u → (L.cX k v).tok j = some u := by
 intro j u e
 simp only [Loc.cX]
 split
 ·rename_i hj; subst hj; rw [h] at e; cases e
 ·exact e

theorem kT {esz i j n : Nat} (hi : i < n) (hj : j < esz) : i * esz + j < n * esz := by
 have : (i + 1) * esz ≤ n * esz := Nat.mul_le_mul_right _ hi
 rw [Nat.add_mul] at this
 omega
theorem Lay.append {G : Gh} {esz : Nat} {xs ys : List AV} {cs ds : List Value} (h : Lay G esz xs cs) (k : Lay G esz ys ds) (hc : cs.length = xs.length * esz) : Lay G esz (xs ++ ys) (cs ++ ds) := by
 refine ⟨fun i e he => ?_, fun i e j c he hj => ?_⟩
 ·rw [List.getElem?_append] at he
  split at he
  ·exact h.1 i e he
  ·exact k.1 _ e he
 ·have hjl := (List.getElem?_eq_some_iff.1 hj).1
  rw [List.getElem?_append] at he
  split at he
  ·rename_i hi
   have hlen := h.1 i e he
   obtain ⟨h1, h2⟩ := h.2 i e j c he hj
   refine ⟨h1, ?_⟩
   have hb := kT (esz := esz) (j := j) hi (by omega)
   rw [List.getD_eq_getElem?_getD, List.getElem?_append_left (by omega), ← List.getD_eq_getElem?_getD]
   exact h2
  ·rename_i hi
   obtain ⟨h1, h2⟩ := k.2 _ e j c he hj
   refine ⟨h1, ?_⟩
   have e2 : i * esz + j = cs.length + ((i - xs.length) * esz + j) := by
    rw [hc]
    have : i = xs.length + (i - xs.length) := by omega
    conv => lhs; rw [this]
    rw [Nat.add_mul]; omega
   rw [e2, List.getD_eq_getElem?_getD, List.getElem?_append_right (by omega), Nat.add_sub_cancel_left, ← List.getD_eq_getElem?_getD]
   exact h2

theorem B2 {G : Gh} {w : World} {base el esz : Nat} {v : Value} {xs : List AV} {cells : List Value} (ho : w.ownsRow base el esz v xs.length cells) (hL : Lay G esz xs cells)
  (hk : ∀ b, v.ownBlock = some b → ∀ o, o < xs.length * esz → G.kn b o = cells[o]?) : V G v (.sl xs) := by
 rcases ho.2 with ⟨rfl, hn⟩ | ⟨q, cap, cur, rfl, hq, hh, hcap, hm, _⟩
 ·have : xs = [] := List.eq_nil_of_length_eq_zero hn
  subst this
  exact V.slE none 0
 ·refine V.slN q 0 cap esz xs (fun i j => cells.getD (i * esz + j) undef) hcap hL.1 ?_ (fun i e j c a b => (hL.2 i e j c a b).1) (fun i e j c a b => (hL.2 i e j c a b).2)
  intro i e j c he hj
  have hi := (List.getElem?_eq_some_iff.1 he).1
  have hj' := (List.getElem?_eq_some_iff.1 hj).1
  rw [hL.1 i e he] at hj'
  have hb := kT (j := j) hi hj'
  rw [Nat.zero_add, hk q rfl _ hb]
  have hl : i * esz + j < cells.length := by rw [ho.1]; exact hb
  simp [List.getD_eq_getElem?_getD, List.getElem?_eq_getElem hl]

theorem Rel.vC {E : dX} {N : Nat} {G : Gh} {L : Loc} {a : Act} {w w1 : World} {s : St} (h : Rel E N G L a w s) {d el esz : Nat} {xs : List AV} {v1 : Value} {cells : List Value} {row : Option Nat} (m : Bool) (hd : get s (.t d) = none) (hz : 0 < esz)
  (hg : w.grownBy w1 row) (cE : ∀ b, row = some b → E.may b ∧ (∀ c, ¬ owns s L c b) ∧ (∀ H, get s .h = some (.hp H) → ¬ aZ G H w b) ∧ (∀ id, G.ob id ≠ some b) ∧ ∀ o v, G.kn b o = some v → w1.cell? ⟨b, o, none⟩ = some v)
  (hv1 : ∀ b, v1.ownBlock = some b → row = some b ∨ w.heap.size ≤ b) (ho : w1.ownsRow 0 el esz v1 xs.length cells) (hL : Lay G esz xs cells)
  (hcons : ∀ b, v1.ownBlock = some b → ∀ o v, G.kn b o = some v → m = false ∧ cells[o]? = some v) :
  ∃ G', (m = false → V G' v1 (.sl xs)) ∧ G.le G' ∧ Rel E N G' (L.cX d v1) a w1 ((.t d, .tk m el esz xs) :: s) := by
 let G' : Gh := match m with | true => G | false => match v1.ownBlock with | some b => G.add b cells | none => G
 have hlen : cells.length = xs.length * esz := ho.1
 have hle : G.le G' := by
  cases m with
  | true => exact Gh.le.refl G
  | false =>
   simp only [G']
   split
   ·rename_i b hb; exact Gh.sT (fun o v e => (hcons b hb o v e).2)
   ·exact Gh.le.refl G
 have hkn' : m = false → ∀ b, v1.ownBlock = some b → ∀ o, G'.kn b o = cells[o]? := by
  intro hm b hb o
  subst hm
  simp only [G', hb, Gh.add, if_pos]
 have hkn2 : ∀ b o, (v1.ownBlock ≠ some b ∨ m = true) → G'.kn b o = G.kn b o := by
  intro b o hb
  cases m with
  | true => rfl
  | false =>
   have hb : v1.ownBlock ≠ some b := by rcases hb with hb | hb; exact hb; cases hb
   simp only [G']
   split
   ·rename_i c hc
    simp only [Gh.add]
    rw [if_neg (fun e => hb (by rw [hc, e]))]
   ·rfl
 have hkn3 : m = true → ∀ b, v1.ownBlock = some b → ∀ o, G'.kn b o = none := by
  intro hm b hb o
  rw [hkn2 b o (.inr hm)]
  cases e : G.kn b o with
  | none => rfl
  | some v => have := (hcons b hb o v e).1; rw [hm] at this; cases this
 have hob : G'.ob = G.ob := by
  cases m with
  | true => rfl
  | false => simp only [G']; split <;> rfl
 have hV : m = false → V G' v1 (.sl xs) := fun hm => B2 ho (hL.mono hle) fun b hb o _ => hkn' hm b hb o
 have htok0 := h.notok d hd
 have hbl : ∀ j c, L.box j = some c → (L.cX d v1).box j = some c := fun _ _ e => e
 have htl := Loc.qW (v := v1) htok0
 have hv1may : ∀ b, v1.ownBlock = some b → E.may b := by
  intro b hb
  rcases hv1 b hb with e | e
  ·exact (cE b e).1
  ·exact .inl (Nat.le_trans h.fV e)
 -- the blocks of others stay
 have hother : ∀ c b, owns s L c b → w1.heap[b]? = w.heap[b]? ∧ v1.ownBlock ≠ some b := by
  intro c b hc
  obtain ⟨hlt, hbase⟩ := gD h hc
  have hne : some b ≠ row := fun e => (cE b e.symm).2.1 c hc
  refine ⟨hg.block b hlt hne, fun e => ?_⟩
  rcases hv1 b e with e2 | e2
  ·exact hne e2.symm
  ·omega
 obtain ⟨H0, gH, hokH, hmayH⟩ := h.heap
 have hfoot : ∀ b, aZ G H0 w b → some b ≠ row ∧ v1.ownBlock ≠ some b := by
  intro b hb
  have hne : some b ≠ row := fun e => (cE b e.symm).2.2.1 H0 gH hb
  refine ⟨hne, fun e => ?_⟩
  rcases hv1 b e with e2 | e2
  ·exact hne e2.symm
  ·have := (hokH.aZ hb).1; omega
 have hst := hokH.stay (w' := w1) hle hob (fun b hb o => (hkn2 b o (.inl (hfoot b hb).2)).trans ((hokH.aZ hb).2 o)) (fun b hb => hg.block b (hokH.aZ hb).1 (hfoot b hb).1) hg.size
 have hown : ∀ c b, owns ((.t d, .tk m el esz xs) :: s) (L.cX d v1) c b → (c = .t d ∧ v1.ownBlock = some b) ∨ owns s L c b := by
  intro c b hc
  by_cases e : c = .t d
  ·subst e
   obtain ⟨_, v, hv, hb⟩ := hc
   simp [Loc.cX] at hv
   subst hv
   exact .inl ⟨rfl, hb⟩
  ·have h2 := cT e hc
   refine .inr ?_
   cases c with
   | b j => exact h2
   | t j =>
    obtain ⟨h3, v, hv, h4⟩ := h2
    have hj : j ≠ d := fun e' => e (by rw [e'])
    exact ⟨h3, v, by simpa [Loc.cX, hj] using hv, h4⟩
   | s n => exact h2
   | h => exact h2
 refine ⟨G', hV, hle, h.size, h.defs, h.ge, ?_, ?_, ?_, ?_, ?_, ?_, ?_, ?_, ?_, ?_, ?_, ?_, ?_⟩
 ·-- kn
  intro b o v e
  by_cases hb : v1.ownBlock = some b ∧ m = false
  ·obtain ⟨hb, hm⟩ := hb
   rw [hkn' hm b hb] at e
   have ho' := ho
   rcases ho'.2 with ⟨rfl, _⟩ | ⟨q, cap, cur, rfl, hq, hh, hcap, hmm, hcs, htake⟩
   ·simp [Value.ownBlock] at hb
   ·simp [Value.ownBlock] at hb
    subst hb
    rw [cell_of_row w1 q o cur el (0, 0) hh]
    rw [← htake, List.getElem?_take] at e
    split at e
    ·simpa using e
    ·cases e
  ·have hb2 : v1.ownBlock ≠ some b ∨ m = true := by
    by_cases h1 : v1.ownBlock = some b
    ·refine .inr ?_
     cases hm : m with
     | true => rfl
     | false => exact absurd ⟨h1, hm⟩ hb
    ·exact .inl h1
   rw [hkn2 b o hb2] at e
   by_cases hr : row = some b
   ·exact (cE b hr).2.2.2.2 o v e
   ·rw [World.cell?_of_block (w := w) (hg.block b (h.vR e) (fun e2 => hr e2.symm))]
    exact h.kn b o v e
 ·intro b o hb hmb
  by_cases hb1 : v1.ownBlock = some b
  ·rcases hv1may b hb1 with e | e
   ·omega
   ·exact absurd e hmb
  ·rw [hkn2 b o (.inl hb1)]; exact h.old b o hb hmb
 ·intro id b e; exact ⟨by rw [hob]; exact (h.obs id b e).1, (hle.sz id b (h.obs id b e).1).trans (h.obs id b e).2⟩
 ·intro id b e; rw [hob] at e; exact h.obn id b e
 ·refine ⟨hg.os.trans h.fr.os, hg.tape.trans h.fr.tape, hg.output.trans h.fr.output, Nat.le_trans h.fr.size hg.size, fun k hk hno => ?_⟩
  rw [hg.block k (Nat.lt_of_lt_of_le hk h.fV) (fun e => by
   rcases (cE k e.symm).1 with e2 | e2
   ·omega
   ·exact hno e2)]
  exact h.fr.block k hk hno
 ·intro n x g
  exact ((h.slot n x (by simpa [get] using g)).mono hle).loc hbl htl
 ·intro k cv g hl
  have g' : get s (.b k) = some cv := by simpa [get] using g
  obtain ⟨blk, o, hb, hbase, hh, hok, hn, hlk⟩ := h.box k cv g' hl
  obtain ⟨q1, q2⟩ := hother (.b k) blk ⟨⟨cv, g', hl⟩, hb⟩
  refine ⟨blk, o, hb, hbase, q1.trans hh, (hok.mono hle (mU hlk)).loc hbl htl, fun j => (hkn2 blk j (.inl q2)).trans (hn j), ?_⟩
  cases hl2 : cv.link with
  | some id => rw [hl2] at hlk; exact (congrFun hob id).trans hlk
  | none => rw [hl2] at hlk; exact ⟨hlk.1, fun id e => hlk.2 id ((congrFun hob id).symm.trans e)⟩
 ·intro k m' el' esz' xs' g
  by_cases e : k = d
  ·subst e
   simp [get] at g
   obtain ⟨rfl, rfl, rfl, rfl⟩ := g
   refine ⟨v1, by simp [Loc.cX], ⟨cells, hV, ho, hz, hL.mono hle, fun blk hb => ?_⟩, fun b hb => ⟨hv1may b hb, fun id e => ?_⟩⟩
   ·cases m with
    | true => exact hkn3 rfl blk hb
    | false =>
    refine ⟨fun o _ => hkn' rfl blk hb o, fun o hoo => ?_⟩
    rw [hkn' rfl blk hb, List.getElem?_eq_none (by omega)]
   ·rw [hob] at e
    rcases hv1 b hb with e2 | e2
    ·exact (cE b e2).2.2.2.1 id e
    ·have := (hokH.lt id b e).2; omega
  ·have g' : get s (.t k) = some (.tk m' el' esz' xs') := by simpa [get, Ne.symm e] using g
   obtain ⟨v, hv, hr, hm⟩ := h.tok k m' el' esz' xs' g'
   have how : ∀ b, v.ownBlock = some b → owns s L (.t k) b := fun b hb => ⟨⟨_, _, _, _, g'⟩, v, hv, hb⟩
   exact ⟨v, htl k v hv, hr.stay hle (fun b hb => (hother _ b (how b hb)).1) (fun b hb o => hkn2 b o (.inl (hother _ b (how b hb)).2)), fun b hb => ⟨(hm b hb).1, fun id e => (hm b hb).2 id ((congrFun hob id).symm.trans e)⟩⟩
 ·intro c e b hc he
  rcases hown c b hc with ⟨rfl, h1⟩ | h1 <;> rcases hown e b he with ⟨rfl, h2⟩ | h2
  ·rfl
  ·exact absurd h1 (hother e b h2).2
  ·exact absurd h2 (hother c b h1).2
  ·exact h.disj c e b h1 h2
 ·exact ⟨H0, by simpa [get] using gH, hst.1, fun b hb => hmayH b ((hst.2 b).1 hb)⟩
 ·intro c b hc H2 g2 e
  have g3 : get s .h = some (.hp H2) := by simpa [get] using g2
  rw [gH] at g3; cases g3
  have e2 := (hst.2 b).1 e
  rcases hown c b hc with ⟨rfl, h1⟩ | h1
  ·exact (hfoot b e2).2 h1
  ·exact h.hdisj c b h1 _ gH e2
 ·intro k g; exact h.nobox k (by simpa [get] using g)
 ·intro k g
  by_cases e : k = d
  ·subst e; simp [get] at g
  ·have := h.notok k (by simpa [get, Ne.symm e] using g)
   simpa [Loc.cX, e] using this

theorem Rel.DI {E : dX} {N : Nat} {G : Gh} {L : Loc} {a : Act} {w : World} {s : St} (h : Rel E N G L a w s) {k : Nat} {m : Bool} {el esz : Nat} {xs : List AV} (hk : get s (.t k) = some (.tk m el esz xs)) : Rel E N G L a w ((.t k, .gone) :: s) := by
 have hown : ∀ c b, owns ((.t k, .gone) :: s) L c b → owns s L c b := by
  intro c b hc
  by_cases e : c = .t k
  ·subst e; obtain ⟨⟨m, el, esz, xs, g⟩, _⟩ := hc; simp [get] at g
  ·exact cT e hc
 refine ⟨h.size, h.defs, h.ge, h.kn, h.old, h.obs, h.obn, h.fr, fun n x g => h.slot n x (by simpa [get] using g), fun j cv g => h.box j cv (by simpa [get] using g), fun j m el esz xs g => ?_,
  fun c d b hc hd => h.disj c d b (hown _ _ hc) (hown _ _ hd), (by simpa [get] using h.heap), fun c b hc H g => h.hdisj c b (hown _ _ hc) H (by simpa [get] using g), fun j g => h.nobox j (by simpa [get] using g), fun j g => ?_⟩
 ·by_cases e : j = k
  ·subst e; simp [get] at g
  ·exact h.tok j m el esz xs (by simpa [get, Ne.symm e] using g)
 ·by_cases e : j = k
  ·subst e; simp [get] at g
  ·exact h.notok j (by simpa [get, Ne.symm e] using g)
set_option linter.unusedSimpArgs false
/- The program logic's rules: slices that are built, made and appended to. No condition. -/

theorem sU {G : Gh} {b o : Nat} {cells : List Value} : (G.add b cells).kn b o = cells[o]? := by simp [Gh.add]

theorem Rel.known {E : dX} {N : Nat} {G : Gh} {L : Loc} {a : Act} {w : World} {s : St} (h : Rel E N G L a w s) {w1 : World} (hg : w.grownBy w1 none) {b : Nat} (hb : w.heap.size ≤ b) {cells : List Value} (hc : ∀ o v, cells[o]? = some v → w1.cell? ⟨b, o, none⟩ = some v) :
  G.le (G.add b cells) ∧ Rel E N (G.add b cells) L a w1 s := by
 have hnone : ∀ o, G.kn b o = none := fun o => by
  cases e : G.kn b o with
  | none => rfl
  | some v => have := h.vR e; omega
 have hle : G.le (G.add b cells) := Gh.sT (fun o v e => by rw [hnone o] at e; cases e)
 have hkn2 : ∀ c o, c ≠ b → (G.add b cells).kn c o = G.kn c o := fun c o e => by simp [Gh.add, e]
 have hother : ∀ c blk, owns s L c blk → w1.heap[blk]? = w.heap[blk]? ∧ blk ≠ b := fun c blk hc' => by
  obtain ⟨hlt, _⟩ := gD h hc'
  exact ⟨hg.block blk hlt (by simp), by omega⟩
 obtain ⟨H0, gH, hokH, hmayH⟩ := h.heap
 have hfb : ∀ c, aZ G H0 w c → c ≠ b := fun c hc => by have := (hokH.aZ hc).1; omega
 have hst := hokH.stay (w' := w1) hle rfl (fun c hc o => (hkn2 c o (hfb c hc)).trans ((hokH.aZ hc).2 o)) (fun c hc => hg.block c (hokH.aZ hc).1 (by simp)) hg.size
 refine ⟨hle, h.size, h.defs, h.ge, ?_, ?_, h.obs, h.obn, ?_, fun n x g => (h.slot n x g).mono hle, ?_, ?_, h.disj, ⟨H0, gH, hst.1, fun c hc => hmayH c ((hst.2 c).1 hc)⟩, ?_, h.nobox, h.notok⟩
 ·intro c o v e
  by_cases hcb : c = b
  ·subst hcb; rw [sU] at e; exact hc o v e
  ·rw [hkn2 c o hcb] at e
   rw [World.cell?_of_block (w := w) (hg.block c (h.vR e) (by simp))]
   exact h.kn c o v e
 ·intro c o hlt hm
  rw [hkn2 c o (by have := h.fV; omega)]
  exact h.old c o hlt hm
 ·exact ⟨hg.os.trans h.fr.os, hg.tape.trans h.fr.tape, hg.output.trans h.fr.output, Nat.le_trans h.fr.size hg.size, fun k hk hno => by
   rw [hg.block k (Nat.lt_of_lt_of_le hk h.fV) (by simp)]; exact h.fr.block k hk hno⟩
 ·intro k cv g hl
  have how : ∀ b, L.box k = some b → owns s L (.b k) b := fun b hb => ⟨⟨cv, g, hl⟩, hb⟩
  exact (h.box k cv g hl).stay hle (fun _ _ e => .inl ⟨_, e⟩) (fun b hb => (hother _ b (how b hb)).1) (fun b hb o => hkn2 b o (hother _ b (how b hb)).2)
 ·intro k m el esz xs g
  have how : ∀ v b, L.tok k = some v → v.ownBlock = some b → owns s L (.t k) b := fun v b hv hb => ⟨⟨_, _, _, _, g⟩, v, hv, hb⟩
  exact (h.tok k m el esz xs g).stay hle (fun _ _ e => .inl ⟨_, e⟩) (fun v b hv hb => (hother _ b (how v b hv hb)).1) (fun v b hv hb o => hkn2 b o (hother _ b (how v b hv hb)).2)
 ·intro c blk hc' H2 g2 e2
  rw [gH] at g2; cases g2
  exact h.hdisj c blk hc' _ gH ((hst.2 blk).1 e2)
def sh (m : Bool) (k : Nat) (xs : List AV) : Sv := match m with | false => .ow k xs | true => .om k xs.length
theorem nM {G : Gh} {L : Loc} {m : Bool} {k el esz : Nat} {xs : List AV} {v : Value} {w : World} {cells : List Value} {base : Nat} (hV : m = false → V G v (.sl xs)) (hl : L.tok k = some v) (ho : w.ownsRow base el esz v xs.length cells) : SV G L v (sh m k xs) := by
 cases m with
 | false => exact ⟨hV rfl, hl⟩
 | true =>
  refine ⟨hl, ?_⟩
  rcases ho.2 with ⟨rfl, h0⟩ | ⟨g, cap, cur, rfl, _⟩
  ·exact ⟨none, 0, by rw [h0]⟩
  ·exact ⟨_, _, rfl⟩

/-! ### Literals -/
def dT : Nat → List AV → List (Nat × AV)
 | _, [] => []
 | k, a :: l => (k, a) :: dT (k + 1) l
def cK (esz : Nat) («as» : List AV) : Bool := «as».all fun a => a.cells.length == esz && (match a with | .tup _ => false | _ => true)
theorem gJ {esz : Nat} {«as» : List AV} (h : cK esz «as» = true) : ∀ a ∈ «as», a.cells.length = esz ∧ ∀ vs, a ≠ .tup vs := by
 intro a ha
 have := List.all_eq_true.1 h a ha
 simp only [Bool.and_eq_true, beq_iff_eq] at this
 refine ⟨this.1, ?_⟩
 rintro vs rfl
 simp at this
theorem rG (esz : Nat) : ∀ («as» : List AV) (k : Nat) (pre zs : List AV), pre.length = k * esz → «as».length * esz ≤ zs.length → (∀ a ∈ «as», a.cells.length = esz ∧ ∀ vs, a ≠ .tup vs) →
  gi (fun i => some (i * esz, esz)) (pre ++ zs) (dT k «as») = some (pre ++ «as».flatMap AV.cells ++ zs.drop («as».length * esz))
 | [], k, pre, zs, _, _, _ => by simp [dT, gi]
 | a :: «as», k, pre, zs, hp, hz, ha => by
  obtain ⟨h1, h2⟩ := ha a (List.mem_cons_self ..)
  have hz' : esz + «as».length * esz ≤ zs.length := by simp only [List.length_cons, Nat.add_mul, Nat.one_mul] at hz; omega
  have hc : a.cells.length = esz ∧ k * esz + esz ≤ (pre ++ zs).length := ⟨h1, by rw [List.length_append, hp]; omega⟩
  have hstep : gi (fun i => some (i * esz, esz)) (pre ++ zs) (dT k (a :: «as»)) = gi (fun i => some (i * esz, esz)) ((pre ++ a.cells) ++ zs.drop esz) (dT (k + 1) «as») := by
   have e1 : (pre ++ zs).take (k * esz) = pre := by rw [← hp]; simp
   have e2 : (pre ++ zs).drop (k * esz + esz) = zs.drop esz := by
    rw [← hp, List.drop_append]
    have : pre.drop (pre.length + esz) = [] := List.drop_eq_nil_of_le (by omega)
    rw [this]; simp
   simp only [dT, gi]
   rw [if_pos hc, e1, e2]
   all_goals (cases a <;> first | rfl | exact absurd rfl (h2 _))
  rw [hstep, rG esz «as» (k + 1) (pre ++ a.cells) (zs.drop esz) (by rw [List.length_append, hp, h1, Nat.add_mul, Nat.one_mul]) (by rw [List.length_drop]; omega) (fun b hb => ha b (List.mem_cons_of_mem _ hb))]
  have e3 : esz + «as».length * esz = («as».length + 1) * esz := by rw [Nat.add_mul, Nat.one_mul, Nat.add_comm]
  simp only [List.flatMap_cons, List.append_assoc, List.drop_drop, List.length_cons, e3]
theorem gb {esz : Nat} : ∀ {«as» : List AV} (h : ∀ a ∈ «as», a.cells.length = esz) (i j : Nat) (e : AV), «as»[i]? = some e → j < esz → («as».flatMap AV.cells)[i * esz + j]? = e.cells[j]?
 | [], _, i, j, e, hi, _ => by simp at hi
 | a :: «as», h, 0, j, e, hi, hj => by
  simp at hi; subst hi
  have hl := h a (List.mem_cons_self ..)
  rw [List.flatMap_cons, List.getElem?_append_left (by omega), Nat.zero_mul, Nat.zero_add]
 | a :: «as», h, i + 1, j, e, hi, hj => by
  have := gb (fun b hb => h b (List.mem_cons_of_mem _ hb)) i j e (by simpa using hi) hj
  have hl := h a (List.mem_cons_self ..)
  rw [List.flatMap_cons, List.getElem?_append_right (by rw [hl, Nat.add_mul]; omega), hl]
  rw [← this]
  congr 1
  rw [Nat.add_mul]; omega
theorem cZ {esz : Nat} : ∀ {«as» : List AV}, (∀ a ∈ «as», a.cells.length = esz) → («as».flatMap AV.cells).length = «as».length * esz
 | [], _ => by simp
 | a :: «as», h => by
  rw [List.flatMap_cons, List.length_append, h a (List.mem_cons_self ..), cZ (fun b hb => h b (List.mem_cons_of_mem _ hb)), List.length_cons, Nat.add_mul]; omega
theorem Lay.F1 {G : Gh} {esz : Nat} {«as» : List AV} {arr : Array Value} (h : ∀ a ∈ «as», a.cells.length = esz) (hr : Row G arr («as».flatMap AV.cells)) : Lay G esz «as» arr.toList := by
 refine ⟨fun i e he => h e (List.mem_of_getElem? he), fun i e j c he hj => ?_⟩
 have hlen := h e (List.mem_of_getElem? he)
 have hj' := (List.getElem?_eq_some_iff.1 hj).1
 have := gb h i j e he (by omega)
 obtain ⟨h1, h2⟩ := hr.2 (i * esz + j) c (by rw [this]; exact hj)
 refine ⟨h1, ?_⟩
 rwa [List.getD_eq_getElem?_getD, Array.getElem?_toList, ← Array.getD_eq_getD_getElem?]

def se (P : Program) (t : TypeId) : Option (Nat × Nat × Nat) :=
 match P.underlying t with
 | some (.slice e) => match P.info? e with
  | some i => match i.zero with
   | some z => if z.cells.size = i.size ∧ 0 < i.size then some (e, i.size, i.bytes) else none
   | none => none
  | none => none
 | _ => none
theorem mH {P : Program} {t : TypeId} {e n b : Nat} (h : se P t = some (e, n, b)) : ∃ i z, P.underlying t = some (.slice e) ∧ P.info? e = some i ∧ i.zero = some z ∧ z.cells.size = n ∧ i.size = n ∧ i.bytes = b ∧ 0 < n := by
 unfold se at h
 split at h
 ·rename_i e' he
  split at h
  ·rename_i i hi
   split at h
   ·rename_i z hz
    split at h
    ·rename_i hc
     simp only [Option.some.injEq, Prod.mk.injEq] at h
     obtain ⟨rfl, rfl, rfl⟩ := h
     exact ⟨i, z, he, hi, hz, hc.1, rfl, rfl, hc.2⟩
    ·cases h
   ·cases h
  ·cases h
 ·cases h
section
variable {P : Program} {N : Nat} {s : St} {d : Nat} {ty : TypeId} {pos : String} {af : Array Edge} {g : Option (Nat × Bool)}
theorem rW {E : dX} {G : Gh} {L : Loc} {a : Act} {w : World} {t : St} (hr : Rel E N G L a w t) {t1 el esz by_ : Nat} {ps : List (Nat × Operand)} {«as» zs : List AV} (ht : se P t1 = some (el, esz, by_)) (hz : bu P el = some zs) (hR : Reads (lF (ps.map (·.2))) s t)
  (hq : j9 ps s = some (dT 0 «as»)) (hok : cK esz «as» = true) (hlen : «as».length * esz ≤ 16777216) :
  ∃ arr : Array Value, (Instr.buildSlice t1 «as».length (ps.toArray.map fun (i, x) => (i, a.eval x))).run P w = .ok (.slice (some ⟨w.heap.size, 0, none⟩) «as».length «as».length) (w.alloc (.cells arr el)) ∧ arr.size = «as».length * esz ∧ Lay G esz «as» arr.toList := by
 obtain ⟨i, z, hu, hi, hzz, hzs, hsz, hby, hpos⟩ := mH ht
 have hparts := jM hr hR hq
 have hmem := gJ hok
 unfold bu at hz
 rw [hi] at hz
 simp only [hzz] at hz
 obtain ⟨h1, h2⟩ := jY G hz
 have hzl : zs.length = esz := by rw [← h1]; simpa using hzs
 let cells0 : Array Value := (Array.range («as».length * esz)).map (z.cells[· % z.cells.size]!)
 let cs0 : List AV := (List.range («as».length * esz)).map fun q => zs.getD (q % esz) .junk
 have cE : Row G cells0 cs0 := by
  refine ⟨by simp [cells0, cs0], fun j x e => ?_⟩
  have hj : j < «as».length * esz := by have := (List.getElem?_eq_some_iff.1 e).1; simpa [cs0] using this
  have hjm : j % esz < esz := Nat.mod_lt _ hpos
  have hx : zs[j % esz]? = some x := by
   simp only [cs0, List.getElem?_map, List.getElem?_range hj, Option.map_some, Option.some.injEq] at e
   rw [← e, List.getD_eq_getElem?_getD, List.getElem?_eq_getElem (by omega)]; rfl
  obtain ⟨q1, q2⟩ := h2 _ x hx
  refine ⟨q1, ?_⟩
  have : cells0.getD j undef = z.cells.toList.getD (j % esz) undef := by
   have hj2 : j % esz < z.cells.size := by omega
   have hj3 : j % z.cells.size < z.cells.size := by rw [hzs]; exact hjm
   have hj4 : j < cells0.size := by simpa [cells0] using hj
   have e1 : cells0[j] = z.cells[j % esz] := by
    simp only [cells0, Array.getElem_map, Array.getElem_range, hzs]
    exact getElem!_pos z.cells (j % esz) hj2
   rw [Array.getD_eq_getD_getElem?, List.getD_eq_getElem?_getD, Array.getElem?_eq_getElem hj4, e1, Array.getElem?_toList, Array.getElem?_eq_getElem hj2]
  rw [this]; exact q2
 have hfill := pP hparts (place := fun i => some (i * esz, esz)) cE (r := «as».flatMap AV.cells) (by
  have := rG esz «as» 0 [] cs0 (by simp) (by simp [cs0]) hmem
  simp only [List.nil_append] at this
  rw [this]
  simp [cs0])
 obtain ⟨arr, hf, hra⟩ := hfill
 have hall : ∀ a ∈ «as», a.cells.length = esz := fun a ha => (hmem a ha).1
 refine ⟨arr, ?_, by rw [hra.1, cZ hall], Lay.F1 hall hra⟩
 have hle : ¬ («as».length * esz > 2 ^ 24) := by omega
 have hf2 : Instr.fill (fun i => some (i * esz, esz)) ((Array.range («as».length * esz)).map (z.cells[· % z.cells.size]!)) (List.map (fun (x : Nat × Operand) => (x.1, a.eval x.2)) ps) = some arr := by
  simpa [cells0] using hf
 by_cases h0 : «as».length * esz = 0
 ·have hf3 : Instr.fill (fun i => some (i * esz, esz)) #[] (List.map (fun (x : Nat × Operand) => (x.1, a.eval x.2)) ps) = some arr := by
   have : (Array.range («as».length * esz)).map (z.cells[· % z.cells.size]!) = #[] := by simp [h0]
   rw [this] at hf2; exact hf2
  simp only [Instr.buildSlice, Sem.run_bind, run_underlying hu, Result.andThen_ok, sizeOf, typeInfo, run_program, hi, hsz, Sem.run_pure]
  rw [if_neg hle]
  simp only [h0, if_true, Sem.run_pure, Result.andThen_ok, List.map_toArray]
  simp only [Array.range_zero', Array.map_empty]
  rw [hf3]
  simp [newRow]
 ·simp only [Instr.buildSlice, Sem.run_bind, run_underlying hu, Result.andThen_ok, sizeOf, typeInfo, run_program, hi, hsz, Sem.run_pure]
  rw [if_neg hle]
  simp only [h0, if_false, Sem.run_pure, Sem.run_bind, Result.andThen_ok, List.map_toArray, zeroValue, typeInfo, run_program, hi, hzz]
  rw [hf2]
  simp [newRow]
theorem FI {t1 el esz by_ n : Nat} {ps : List (Nat × Operand)} {«as» zs : List AV} (hN : d < N) (ht : se P t1 = some (el, esz, by_)) (hz : bu P el = some zs) (hq : j9 ps s = some (dT 0 «as»)) (hn : «as».length = n) (hok : cK esz «as» = true) (hlen : «as».length * esz ≤ 16777216) :
  aY P N ⟨some d, .buildSlice t1 n ps.toArray, ty, pos, af, g⟩ s (lF (ps.map (·.2))) [(.s d, .sv (.v (.sl «as»)))] := by
 subst hn
 intro t hR E G L a w hr K Q hK
 obtain ⟨arr, hrun, hsz, hL⟩ := rW hr ht hz hR hq hok hlen
 obtain ⟨hle, hr1⟩ := hr.known (World.grownBy_alloc w (.cells arr el) none) (Nat.le_refl _) (cells := arr.toList) (fun o v e => by
  rw [cell_of_row (w.alloc (.cells arr el)) w.heap.size o arr el (0, 0) (heap_alloc_new w _)]; simpa using e)
 have hV : V (G.add w.heap.size arr.toList) (.slice (some ⟨w.heap.size, 0, none⟩) «as».length «as».length) (.sl «as») := by
  refine V.slN _ 0 _ esz «as» (fun i j => arr.toList.getD (i * esz + j) undef) (Nat.le_refl _) hL.1 ?_ (fun i e j c a b => (hL.2 i e j c a b).1) (fun i e j c a b => ((hL.mono hle).2 i e j c a b).2)
  intro i e j c he hj
  have hi := (List.getElem?_eq_some_iff.1 he).1
  have hj' := (List.getElem?_eq_some_iff.1 hj).1
  rw [hL.1 i e he] at hj'
  have hb := kT (j := j) hi hj'
  have hl : i * esz + j < arr.toList.length := by rw [Array.length_toList, hsz]; exact hb
  rw [Nat.zero_add, sU, List.getElem?_eq_getElem hl]
  simp [List.getD_eq_getElem?_getD, List.getElem?_eq_getElem hl]
 unfold Oper.wp
 have he : (execOp a.eval ⟨some d, .buildSlice t1 «as».length ps.toArray, ty, pos, af, g⟩).run P w = .ok (.value (.slice (some ⟨w.heap.size, 0, none⟩) «as».length «as».length)) (w.alloc (.cells arr el)) := by
  simp only [execOp, Sem.run_bind, hrun, Result.andThen_ok, Sem.run_pure]
 rw [he]
 exact hK _ _ _ L (hr1.put d hN _ (.v (.sl «as»)) hV)
theorem w6 (m : Bool) {t1 el esz by_ n : Nat} {ps : List (Nat × Operand)} {«as» zs : List AV} (hN : d < N) (ht : se P t1 = some (el, esz, by_)) (hz : bu P el = some zs) (hq : j9 ps s = some (dT 0 «as»)) (hn : «as».length = n) (hok : cK esz «as» = true) (hlen : «as».length * esz ≤ 16777216) (hd : get s (.t d) = none) :
  aY P N ⟨some d, .buildSlice t1 n ps.toArray, ty, pos, af, g⟩ s (lF (ps.map (·.2)) ++ [.t d]) [(.s d, .sv (sh m d «as»)), (.t d, .tk m el esz «as»)] := by
 subst hn
 intro t hR E G L a w hr K Q hK
 obtain ⟨arr, hrun, hsz, hL⟩ := rW hr ht hz hR.left hq hok hlen
 obtain ⟨_, _, _, _, _, _, _, _, hpos⟩ := mH ht
 have hd' : get t (.t d) = none := by rw [hR (.t d) (by simp)]; exact hd
 have hm : «as».length ≤ maxLen := by
  have : «as».length ≤ «as».length * esz := Nat.le_mul_of_pos_right _ hpos
  simp only [maxLen]; omega
 have hown := World.ownsRow_lit (base := 0) (e := el) (size := esz) w arr «as».length (Nat.zero_le _) hm hsz
 obtain ⟨G', hV, hle, hr1⟩ := hr.vC m (v1 := .slice (some ⟨w.heap.size, 0, none⟩) «as».length «as».length) (row := none) hd' hpos (World.grownBy_alloc w (.cells arr el) none) (by simp) (fun b hb => .inr (by simp [Value.ownBlock] at hb; omega)) hown hL (fun b hb o v e => by
  have : b = w.heap.size := by simpa [Value.ownBlock] using hb.symm
  have := hr.vR e; omega)
 unfold Oper.wp
 have he : (execOp a.eval ⟨some d, .buildSlice t1 «as».length ps.toArray, ty, pos, af, g⟩).run P w = .ok (.value (.slice (some ⟨w.heap.size, 0, none⟩) «as».length «as».length)) (w.alloc (.cells arr el)) := by
  simp only [execOp, Sem.run_bind, hrun, Result.andThen_ok, Sem.run_pure]
 rw [he]
 exact hK _ _ G' _ (hr1.put d hN _ (sh m d «as») (nM hV (by simp [Loc.cX]) hown))
theorem az {t1 el esz by_ n : Nat} {ps : List (Nat × Operand)} {«as» zs : List AV} (hN : d < N) (ht : se P t1 = some (el, esz, by_)) (hz : bu P el = some zs) (hq : j9 ps s = some (dT 0 «as»)) (hn : «as».length = n) (hok : cK esz «as» = true) (hlen : «as».length * esz ≤ 16777216) (hd : get s (.t d) = none) :
  aY P N ⟨some d, .buildSlice t1 n ps.toArray, ty, pos, af, g⟩ s (lF (ps.map (·.2)) ++ [.t d]) [(.s d, .sv (.ow d «as»)), (.t d, .tk false el esz «as»)] := w6 false hN ht hz hq hn hok hlen hd
theorem zo {t1 el esz by_ n : Nat} {ps : List (Nat × Operand)} {«as» zs : List AV} (hN : d < N) (ht : se P t1 = some (el, esz, by_)) (hz : bu P el = some zs) (hq : j9 ps s = some (dT 0 «as»)) (hn : «as».length = n) (hok : cK esz «as» = true) (hlen : «as».length * esz ≤ 16777216) (hd : get s (.t d) = none) :
  aY P N ⟨some d, .buildSlice t1 n ps.toArray, ty, pos, af, g⟩ s (lF (ps.map (·.2)) ++ [.t d]) [(.s d, .sv (.om d «as».length)), (.t d, .tk true el esz «as»)] := w6 true hN ht hz hq hn hok hlen hd
theorem me {G : Gh} {w : World} (hk : eT G w) {v : Value} {ys : List AV} (h : V G v (.sl ys)) {esz : Nat} (hok : cK esz ys = true) (hpos : 0 < esz) :
  (ys = [] ∧ ∃ A c, v = .slice A 0 c) ∨ ∃ ad c news, v = .slice (some ad) ys.length c ∧ news.length = ys.length * esz ∧ (∀ (j : Nat) u, news[j]? = some u → w.cell? (ad.add j) = some u) ∧ (∀ u ∈ news, u.oneCell' = true) ∧ Lay G esz ys news := by
 cases h with
 | slE A cap => exact .inl ⟨rfl, A, cap, rfl⟩
 | slN b off cap esz' _ vs hc he hkk hf hv =>
  by_cases h0 : ys = []
  ·subst h0; exact .inl ⟨rfl, _, _, rfl⟩
  ·have hel : ∀ (i : Nat) (e : AV), ys[i]? = some e → e.cells.length = esz := fun i e h => ((gJ hok) e (List.mem_of_getElem? h)).1
   have hes : esz = esz' := by
    cases ys with
    | nil => exact absurd rfl h0
    | cons y ys => exact (hel 0 y rfl).symm.trans (he 0 y rfl)
   subst hes
   refine .inr ⟨⟨b, off, none⟩, cap, (List.range (ys.length * esz)).map (fun q => vs (q / esz) (q % esz)), rfl, by simp, ?_, ?_, ?_⟩
   ·intro j u e
    have hj : j < ys.length * esz := by have := (List.getElem?_eq_some_iff.1 e).1; simpa using this
    simp only [List.getElem?_map, List.getElem?_range hj, Option.map_some, Option.some.injEq] at e
    subst e
    have hi : j / esz < ys.length := Nat.div_lt_of_lt_mul (by rw [Nat.mul_comm]; exact hj)
    have hm : j % esz < esz := Nat.mod_lt _ hpos
    have hl := hel _ _ (List.getElem?_eq_getElem hi)
    have := hk _ _ _ (hkk _ _ (j % esz) _ (List.getElem?_eq_getElem hi) (List.getElem?_eq_getElem (by omega)))
    rw [Addr.add_lit]
    have e2 : off + j / esz * esz + j % esz = off + j := by
     have := Nat.div_add_mod' j esz
     omega
    rwa [e2] at this
   ·intro u hu
    obtain ⟨q, hq, rfl⟩ := List.mem_map.1 hu
    have hj : q < ys.length * esz := by simpa using hq
    have hi : q / esz < ys.length := Nat.div_lt_of_lt_mul (by rw [Nat.mul_comm]; exact hj)
    have hm : q % esz < esz := Nat.mod_lt _ hpos
    have hl := hel _ _ (List.getElem?_eq_getElem hi)
    exact (hv _ _ (q % esz) _ (List.getElem?_eq_getElem hi) (List.getElem?_eq_getElem (by omega))).eE (hf _ _ (q % esz) _ (List.getElem?_eq_getElem hi) (List.getElem?_eq_getElem (by omega)))
   ·refine ⟨hel, fun i e j c he' hj => ⟨hf i e j c he' hj, ?_⟩⟩
    have hi := (List.getElem?_eq_some_iff.1 he').1
    have hj' := (List.getElem?_eq_some_iff.1 hj).1
    rw [hel i e he'] at hj'
    have hb := kT (j := j) hi hj'
    have : ((List.range (ys.length * esz)).map (fun q => vs (q / esz) (q % esz))).getD (i * esz + j) undef = vs i j := by
     rw [List.getD_eq_getElem?_getD, List.getElem?_map, List.getElem?_range hb]
     simp only [Option.map_some, Option.getD_some]
     have e1 : (i * esz + j) / esz = i := by rw [Nat.mul_comm, Nat.mul_add_div hpos, Nat.div_eq_of_lt hj', Nat.add_zero]
     have e2 : (i * esz + j) % esz = j := by rw [Nat.mul_comm, Nat.mul_add_mod, Nat.mod_eq_of_lt hj']
     rw [e1, e2]
    rw [this]
    exact hv i e j c he' hj
theorem iR {base t ty e : Nat} {i : TypeInfo} {size : Nat} (ht : P.underlying t = some (.slice e)) (hi : P.info? e = some i) {w : World} {v : Value} {n : Nat} {xs : List Value} (hown : w.ownsRow base e size v n xs) (A : Option Addr) (c : Nat) :
  (Builtin.append_ #[t, t] ty #[v, .slice A 0 c]).run P w = .ok v w := by
 have hfc : ∀ (sz : Nat), (Builtin.firstCells sz 0 (.slice A 0 c)).run P w = .ok #[] w := by
  intro sz
  cases A <;> simp [Builtin.firstCells, loadCells, loadCellsFrom]
 rcases hown.2 with ⟨rfl, rfl⟩ | ⟨g, cap, cur, rfl, _, _, hnc, _⟩
 ·simp [Builtin.append_, run_underlying ht, sizeOf, typeInfo, hi, Builtin.lenOf, hfc]
 ·simp [Builtin.append_, run_underlying ht, sizeOf, typeInfo, hi, Builtin.lenOf, hfc, hnc, storeCells]
theorem pE {E : dX} {G : Gh} {L : Loc} {a : Act} {w : World} {t : St} (hr : Rel E N G L a w t) {k d el esz : Nat} {m : Bool} {xs ys : List AV} {v v1 : Value} {w1 : World} {cells news : List Value} (hk : get t (.t k) = some (.tk m el esz xs)) (hd : get t (.t d) = none)
  (hv : L.tok k = some v) (hown : w.ownsRow 0 el esz v xs.length cells) (hL : Lay G esz xs cells) (hpos : 0 < esz) (hkn : ∀ blk, v.ownBlock = some blk → ∀ o u, G.kn blk o = some u → m = false ∧ cells[o]? = some u)
  (ho1 : w1.ownsRow 0 el esz v1 (xs.length + ys.length) (cells ++ news)) (hg : w.grownBy w1 v.ownBlock) (hat : v1.ownBlock = v.ownBlock ∨ v1.ownBlock = some w.heap.size) (hcell : ∀ b, v.ownBlock = some b → ∀ o u, cells[o]? = some u → w1.cell? ⟨b, o, none⟩ = some u) (hL2 : Lay G esz ys news) :
  ∃ G', (m = false → V G' v1 (.sl (xs ++ ys))) ∧ G.le G' ∧ Rel E N G' (L.cX d v1) a w1 ((.t d, .tk m el esz (xs ++ ys)) :: (.t k, .gone) :: t) := by
 have hlen : cells.length = xs.length * esz := hown.1
 have hne : d ≠ k := by rintro rfl; rw [hk] at hd; cases hd
 have hr1 := hr.DI hk
 have hd1 : get ((.t k, .gone) :: t) (.t d) = none := by simp [get, Ne.symm hne]; exact hd
 have hmine : ∀ b, v.ownBlock = some b → owns t L (.t k) b := fun b hb => ⟨⟨m, el, esz, xs, hk⟩, v, hv, hb⟩
 refine hr1.vC m (el := el) (esz := esz) (xs := xs ++ ys) (v1 := v1) (cells := cells ++ news) (row := v.ownBlock) hd1 hpos hg ?_ ?_ (by rw [List.length_append]; exact ho1) (hL.append hL2 hlen) ?_
 ·intro b hb
  obtain ⟨q1, q2⟩ := gD hr (hmine b hb)
  have hnob : ∀ id, G.ob id ≠ some b := by
   obtain ⟨v', hv', _, hm'⟩ := hr.tok k m el esz xs hk
   rw [hv] at hv'; cases hv'
   exact (hm' b hb).2
  refine ⟨q2, fun c hc => ?_, fun H g => hr.hdisj _ _ (hmine b hb) H (by simpa [get] using g), hnob, fun o u e => hcell b hb o u (hkn b hb o u e).2⟩
  by_cases e : c = .t k
  ·subst e; obtain ⟨⟨m, el, esz, xs, g⟩, _⟩ := hc; simp [get] at g
  ·exact e (hr.disj c (.t k) b (cT e hc) (hmine b hb))
 ·intro b hb
  rcases hat with h | h
  ·exact .inl (by rw [← h]; exact hb)
  ·rw [h] at hb; cases hb; exact .inr (Nat.le_refl _)
 ·intro b hb o u e
  rcases hat with h | h
  ·rw [h] at hb
   obtain ⟨q1, q2⟩ := hkn b hb o u e
   refine ⟨q1, ?_⟩
   rw [List.getElem?_append_left (List.getElem?_eq_some_iff.1 q2).1]; exact q2
  ·rw [h] at hb; cases hb
   have := hr.vR e; omega
theorem CC {base t ty el : Nat} {inf : TypeInfo} {z : Value} (ht : P.underlying t = some (.slice el)) (hi : P.info? el = some inf) (hz : inf.zero = some z) (hzs : z.cells.size = inf.size) {w : World} {v : Value} {n : Nat} {cells : List Value} (hown : w.ownsRow base el inf.size v n cells)
  (ad : Addr) (m c : Nat) (news : List Value) (hl : news.length = m * inf.size) (hnews : ∀ (j : Nat) u, news[j]? = some u → w.cell? (ad.add j) = some u) (h1 : ∀ u ∈ news, u.oneCell' = true) (h0 : 0 < m) (hpos : 0 < inf.size)
  (h63 : n + m ≤ 9223372036854775807) (hb : (n + m) * inf.bytes ≤ 140737488355328) (hbase : base ≤ w.heap.size) :
  ∃ v1 w1, (Builtin.append_ #[t, t] ty #[v, .slice (some ad) m c]).run P w = .ok v1 w1 ∧ w1.ownsRow base el inf.size v1 (n + m) (cells ++ news) ∧ w.grownBy w1 v.ownBlock ∧ (v1.ownBlock = v.ownBlock ∨ v1.ownBlock = some w.heap.size) ∧
   (∀ b, v.ownBlock = some b → ∀ o u, cells[o]? = some u → w1.cell? ⟨b, o, none⟩ = some u) := by
 have hm63 : n + m ≤ maxLen := by simp only [maxLen]; omega
 have hlen : (cells ++ news).length = (n + m) * inf.size := by rw [List.length_append, hown.1, hl, Nat.add_mul]
 have fresh : ∀ cap0 row, (w.drew.alloc (.cells (cells.toArray ++ news.toArray ++ Builtin.zeroCells z.cells (grownCap w (n + m) cap0 el - (n + m))) el)).ownsRow base el inf.size (.slice (some ⟨w.heap.size, 0, none⟩) (n + m) (grownCap w (n + m) cap0 el)) (n + m) (cells ++ news) ∧
   w.grownBy (w.drew.alloc (.cells (cells.toArray ++ news.toArray ++ Builtin.zeroCells z.cells (grownCap w (n + m) cap0 el - (n + m))) el)) row := by
  intro cap0 row
  have hge := grownCap_ge w (n + m) cap0 el
  refine ⟨⟨hlen, .inr ⟨w.heap.size, _, _, rfl, hbase, heap_alloc_new w.drew _, hge, grownCap_le_maxLen w _ _ _ hm63, ?_, ?_⟩⟩, rfl, rfl, rfl, by simp, fun k hk _ => Below.heap_alloc w.drew _ k hk⟩
  ·have hc := hown.1
   simp only [Array.size_append, List.size_toArray, size_zeroCells, hzs, hc, hl]
   rw [← Nat.add_mul, ← Nat.add_mul]
   congr 1; omega
  ·rw [← hlen]
   simp only [Array.toList_append, List.toList_toArray]
   exact List.take_left
 rcases hown.2 with ⟨rfl, rfl⟩ | ⟨q, cap, cur, rfl, hq, hh, hnc, hcm, hcs, htake⟩
 ·have hce : cells = [] := List.eq_nil_of_length_eq_zero (by simpa using hown.1)
  subst hce
  have hr := run_append_nil (P := P) w t ty el inf z ht hi hz ad m c news hl hnews h0 (by omega) (by simp only [Nat.zero_add] at hb; omega)
  have hf := fresh 0 (Value.ownBlock (.slice none 0 0))
  simp only [Nat.zero_add, List.nil_append] at hf hr ⊢
  have e0 : (#[] : Array Value) ++ news.toArray = news.toArray := by simp
  rw [e0] at hf
  exact ⟨_, _, hr, hf.1, hf.2, .inr rfl, fun b hb => by simp [Value.ownBlock] at hb⟩
 ·by_cases hroom : n + m ≤ cap
  ·have hfit : n * inf.size + news.length ≤ cur.size := by rw [hl, hcs, ← Nat.add_mul]; exact Nat.mul_le_mul_right _ hroom
   have hr := run_append_room (P := P) w t ty el inf ht hi q n cap cur hh ad m c news hl hnews h1 hroom hfit
   have ho1 : (w.setRow q (cur.toList.take (n * inf.size) ++ news ++ cur.toList.drop (n * inf.size + news.length)).toArray).ownsRow base el inf.size (.slice (some ⟨q, 0, none⟩) (n + m) cap) (n + m) (cells ++ news) := by
    refine ⟨hlen, .inr ⟨q, cap, _, rfl, hq, setRow_heap w q cur _ el _ hh, hroom, hcm, ?_, ?_⟩⟩
    ·simp only [List.size_toArray, List.length_append, List.length_take, List.length_drop, Array.length_toList]; omega
    ·have e : cur.toList.take (n * inf.size) ++ news = cells ++ news := by rw [htake]
     show List.take ((n + m) * inf.size) (cur.toList.take (n * inf.size) ++ news ++ cur.toList.drop (n * inf.size + news.length)) = cells ++ news
     rw [e, ← hlen]
     exact List.take_left
   refine ⟨_, _, hr, ho1, ⟨rfl, rfl, rfl, by simp, fun k _ hk => setRow_other w q k _ (fun e => hk (by simp [Value.ownBlock, e]))⟩, .inl rfl, fun b hb o u e => ?_⟩
   have := ho1.cells (g := b) hb o u (by rw [List.getElem?_append_left (List.getElem?_eq_some_iff.1 e).1]; exact e)
   rwa [Addr.add_lit, Nat.zero_add] at this
  ·have hr := run_append_grow (P := P) w t ty el inf z ht hi hz ⟨q, 0, none⟩ n cap cells hown.1 (hown.cells (g := q) rfl) ad m c news hl hnews (by omega) (by omega) (growslice_fits (by omega) hb)
   have hf := fresh cap (Value.ownBlock (.slice (some ⟨q, 0, none⟩) n cap))
   refine ⟨_, _, hr, hf.1, hf.2, .inr rfl, fun b hb o u e => ?_⟩
   have h2 := hown.cells (g := b) hb o u e
   rw [Addr.add_lit, Nat.zero_add] at h2
   have hlt := World.block_lt_of_cell? w _ h2
   rw [World.cell?_of_block (w := w) (Below.heap_alloc w.drew _ b hlt)]
   exact h2
theorem EZ {G : Gh} {m : Bool} {esz : Nat} {xs : List AV} {cells : List Value} {blk : Nat} (hl : cells.length = xs.length * esz) (h : match m with
   | true => ∀ o, G.kn blk o = none
   | false => (∀ o, o < xs.length * esz → G.kn blk o = cells[o]?) ∧ ∀ o, xs.length * esz ≤ o → G.kn blk o = none) : ∀ o u, G.kn blk o = some u → m = false ∧ cells[o]? = some u := by
 intro o u e
 cases m with
 | true => rw [h o] at e; cases e
 | false =>
  refine ⟨rfl, ?_⟩
  by_cases hlt : o < xs.length * esz
  ·rw [← h.1 o hlt]; exact e
  ·rw [h.2 o (by omega)] at e; cases e
theorem zx (m : Bool) {t1 el esz by_ : Nat} {x y : Operand} {k : Nat} {xs ys : List AV} (hN : d < N) (ht : se P t1 = some (el, esz, by_)) (hx : fq x s = some (sh m k xs)) (hk : get s (.t k) = some (.tk m el esz xs)) (hy : cU y s = some (.sl ys)) (hok : cK esz ys = true) (hd : get s (.t d) = none)
  (hb : (xs.length + ys.length) * by_ ≤ 140737488355328) (h63 : xs.length + ys.length ≤ 9223372036854775807) :
  aY P N ⟨some d, .call { callee := .builtin .append, args := #[x, y], argTypes := #[t1, t1] }, ty, pos, af, g⟩ s (rd x ++ (rd y ++ [.t k, .t d])) [(.s d, .sv (sh m d (xs ++ ys))), (.t d, .tk m el esz (xs ++ ys)), (.t k, .gone)] := by
 intro t hR E G L a w hr K Q hK
 obtain ⟨i, z, hu, hi, hzz, hzs, hsz, hby, hpos⟩ := mH ht
 subst hsz
 subst hby
 have hk' : get t (.t k) = some (.tk m el i.size xs) := by rw [hR (.t k) (by simp)]; exact hk
 have hd' : get t (.t d) = none := by rw [hR (.t d) (by simp)]; exact hd
 have hVx := bm hr hR.left hx
 have hVy := aS hr hR.right.left hy
 obtain ⟨v, hv, ⟨cells, hV, hown, _, hLx, hkn0⟩, hmay⟩ := hr.tok k m el i.size xs hk'
 have hkn : ∀ blk, v.ownBlock = some blk → ∀ o u, G.kn blk o = some u → m = false ∧ cells[o]? = some u := fun blk e => EZ hown.1 (hkn0 blk e)
 have hav : a.eval x = v := by
  cases m with
  | false => have hvk := hVx.2; rw [hvk] at hv; cases hv; rfl
  | true => have hvk := hVx.1; rw [hvk] at hv; cases hv; rfl
 have hclen := hown.1
 unfold Oper.wp
 rcases me hr.kn hVy hok hpos with ⟨rfl, A, c, hay⟩ | ⟨ad, c, news, hay, hnl, hnews, hone, hLy⟩
 ·have he : (execOp a.eval ⟨some d, .call { callee := .builtin .append, args := #[x, y], argTypes := #[t1, t1] }, ty, pos, af, g⟩).run P w = .ok (.value v) w := by
   have := iR (P := P) (ty := ty) hu hi hown A c
   simp only [execOp, resolve, invoke, builtin, Sem.run_bind, Sem.run_pure, Result.andThen_ok, List.map_toArray, List.map_cons, List.map_nil, hav, hay, this]
  rw [he]
  obtain ⟨G', hV', hle, hr'⟩ := pE hr (ys := []) (v1 := v) (w1 := w) (news := []) hk' hd' hv hown hLx hpos hkn (by simpa using hown) ⟨rfl, rfl, rfl, Nat.le_refl _, fun _ _ _ => rfl⟩ (.inl rfl) (fun b hb o u e => by
   have h2 := hown.cells (g := b) hb o u e
   rwa [Addr.add_lit, Nat.zero_add] at h2) ⟨fun i e h => by simp at h, fun i e j c h => by simp at h⟩
  exact hK _ _ G' _ (hr'.put d hN _ (sh m d (xs ++ [])) (nM hV' (by simp [Loc.cX]) (by simpa using hown)))
 ·by_cases h0 : ys = []
  ·subst h0
   have he : (execOp a.eval ⟨some d, .call { callee := .builtin .append, args := #[x, y], argTypes := #[t1, t1] }, ty, pos, af, g⟩).run P w = .ok (.value v) w := by
    have := iR (P := P) (ty := ty) hu hi hown (some ad) c
    simp only [List.length_nil] at hay
    simp only [execOp, resolve, invoke, builtin, Sem.run_bind, Sem.run_pure, Result.andThen_ok, List.map_toArray, List.map_cons, List.map_nil, hav, hay, this]
   rw [he]
   obtain ⟨G', hV', hle, hr'⟩ := pE hr (ys := []) (v1 := v) (w1 := w) (news := []) hk' hd' hv hown hLx hpos hkn (by simpa using hown) ⟨rfl, rfl, rfl, Nat.le_refl _, fun _ _ _ => rfl⟩ (.inl rfl) (fun b hb o u e => by
    have h2 := hown.cells (g := b) hb o u e
    rwa [Addr.add_lit, Nat.zero_add] at h2) ⟨fun i e h => by simp at h, fun i e j c h => by simp at h⟩
   exact hK _ _ G' _ (hr'.put d hN _ (sh m d (xs ++ [])) (nM hV' (by simp [Loc.cX]) (by simpa using hown)))
  ·have hm : 0 < ys.length := by cases ys with | nil => exact absurd rfl h0 | cons a l => simp
   obtain ⟨v1, w1, hrun, ho1, hg, hat, hcell⟩ := CC (ty := ty) hu hi hzz hzs hown ad ys.length c news hnl hnews hone hm hpos h63 hb (Nat.zero_le _)
   have he : (execOp a.eval ⟨some d, .call { callee := .builtin .append, args := #[x, y], argTypes := #[t1, t1] }, ty, pos, af, g⟩).run P w = .ok (.value v1) w1 := by
    simp only [execOp, resolve, invoke, builtin, Sem.run_bind, Sem.run_pure, Result.andThen_ok, List.map_toArray, List.map_cons, List.map_nil, hav, hay, hrun]
   rw [he]
   obtain ⟨G', hV', hle, hr'⟩ := pE hr hk' hd' hv hown hLx hpos hkn ho1 hg hat hcell hLy
   exact hK _ _ G' _ (hr'.put d hN _ (sh m d (xs ++ ys)) (nM hV' (by simp [Loc.cX]) (by rw [List.length_append]; exact ho1)))
theorem aV {t1 el esz by_ : Nat} {x y : Operand} {k : Nat} {xs ys : List AV} (hN : d < N) (ht : se P t1 = some (el, esz, by_)) (hx : fq x s = some (.ow k xs)) (hk : get s (.t k) = some (.tk false el esz xs)) (hy : cU y s = some (.sl ys)) (hok : cK esz ys = true) (hd : get s (.t d) = none)
  (hb : (xs.length + ys.length) * by_ ≤ 140737488355328) (h63 : xs.length + ys.length ≤ 9223372036854775807) :
  aY P N ⟨some d, .call { callee := .builtin .append, args := #[x, y], argTypes := #[t1, t1] }, ty, pos, af, g⟩ s (rd x ++ (rd y ++ [.t k, .t d])) [(.s d, .sv (.ow d (xs ++ ys))), (.t d, .tk false el esz (xs ++ ys)), (.t k, .gone)] := zx false hN ht hx hk hy hok hd hb h63
theorem zz {t1 el esz by_ : Nat} {x y : Operand} {k n : Nat} {xs ys : List AV} (hN : d < N) (ht : se P t1 = some (el, esz, by_)) (hx : fq x s = some (.om k n)) (hk : get s (.t k) = some (.tk true el esz xs)) (hn : n = xs.length) (hy : cU y s = some (.sl ys)) (hok : cK esz ys = true) (hd : get s (.t d) = none)
  (hb : (xs.length + ys.length) * by_ ≤ 140737488355328) (h63 : xs.length + ys.length ≤ 9223372036854775807) :
  aY P N ⟨some d, .call { callee := .builtin .append, args := #[x, y], argTypes := #[t1, t1] }, ty, pos, af, g⟩ s (rd x ++ (rd y ++ [.t k, .t d])) [(.s d, .sv (.om d (xs ++ ys).length)), (.t d, .tk true el esz (xs ++ ys)), (.t k, .gone)] := by
 subst hn
 exact zx true hN ht hx hk hy hok hd hb h63
end
end Go.Proofs.YtpifnegikoldmaaGreatDoor.X
