/- A program logic over pure values: the values, what a concrete value stands for, the state of a frame, and that a frame and a world fit it. No condition. -/
import Derived.Orders
import Derived.Laws.OwnMore
import Derived.Maps.AppendAt
import Derived.Below
import Derived.WalkKit
import Derived.Laws.StructEq
import Derived.Lib.ConvBytes
namespace Go.Proofs.Ytecjdohpfijmpaa.X
open Go Go.RowKit

/-- A pure value: slices are lists, strings lists of bytes; 'kp cs': a pointer to cells that are never written again. -/
inductive AV where
  | bool (b : Bool)
  | int (k : IntKind) (n : Int)
  | str (s : List UInt8)
  | sl (xs : List AV)
  | agg (cs : List AV)
  | tup (vs : List AV)
  | nilp
  | kp (cs : List AV)
  | op (id off : Nat)
  | fn (f : FuncId) (caps : List AV)
  | nilf
  | ifc (t : TypeId) (v : AV)
  | nili
  | junk
  deriving Inhabited

def AV.flat : AV → Bool
  | .agg _ | .tup _ => false
  | _ => true
def AV.cells : AV → List AV
  | .agg cs => cs
  | v => [v]

/-- What is known for ever of memory: cells that are never written again; the objects' blocks. -/
structure Gh where
  kn : Nat → Nat → Option Value
  ob : Nat → Option Nat

/-- A concrete value stands for a pure one. -/
inductive V (G : Gh) : Value → AV → Prop where
  | bool (b : Bool) : V G (.bool b) (.bool b)
  | int (k : IntKind) (n : Int) : V G (.int k n) (.int k n)
  | str (s : List UInt8) : V G (.string ⟨s.toArray⟩) (.str s)
  | junk (v : Value) (h : v.oneCell' = true) : V G v .junk
  | nilp : V G (.pointer none) .nilp
  | kp (b off : Nat) (cs : List AV) (vs : Nat → Value)
      (hk : ∀ (j : Nat) (c : AV), cs[j]? = some c → G.kn b (off + j) = some (vs j))
      (hf : ∀ (j : Nat) (c : AV), cs[j]? = some c → c.flat = true)
      (hv : ∀ (j : Nat) (c : AV), cs[j]? = some c → V G (vs j) c) : V G (.pointer (some ⟨b, off, none⟩)) (.kp cs)
  | op (id off b : Nat) (h : G.ob id = some b) : V G (.pointer (some ⟨b, off, none⟩)) (.op id off)
  | slE (a : Option Addr) (cap : Nat) : V G (.slice a 0 cap) (.sl [])
  | slN (b off cap esz : Nat) (xs : List AV) (vs : Nat → Nat → Value) (hc : xs.length ≤ cap)
      (he : ∀ (i : Nat) (e : AV), xs[i]? = some e → e.cells.length = esz)
      (hk : ∀ (i : Nat) (e : AV) (j : Nat) (c : AV), xs[i]? = some e → e.cells[j]? = some c → G.kn b (off + i * esz + j) = some (vs i j))
      (hf : ∀ (i : Nat) (e : AV) (j : Nat) (c : AV), xs[i]? = some e → e.cells[j]? = some c → c.flat = true)
      (hv : ∀ (i : Nat) (e : AV) (j : Nat) (c : AV), xs[i]? = some e → e.cells[j]? = some c → V G (vs i j) c) : V G (.slice (some ⟨b, off, none⟩) xs.length cap) (.sl xs)
  | agg (vs : Array Value) (cs : List AV) (hl : vs.size = cs.length) (hf : ∀ (j : Nat) (c : AV), cs[j]? = some c → c.flat = true)
      (hv : ∀ (j : Nat) (c : AV), cs[j]? = some c → V G (vs.getD j undef) c) : V G (.agg vs) (.agg cs)
  | tup (vs : Array Value) (cs : List AV) (hl : vs.size = cs.length)
      (hv : ∀ (j : Nat) (c : AV), cs[j]? = some c → V G (vs.getD j undef) c) : V G (.tuple vs) (.tup cs)
  | fn (f : FuncId) (vs : Array Value) (cs : List AV) (hl : vs.size = cs.length)
      (hv : ∀ (j : Nat) (c : AV), cs[j]? = some c → V G (vs.getD j undef) c) : V G (.func (.func f) #[] vs) (.fn f cs)
  | nilf : V G .nilFunc .nilf
  | ifc (t : TypeId) (v : Value) (a : AV) (h : V G v a) : V G (.iface t v) (.ifc t a)
  | nili : V G .nilIface .nili

/-- More is known. -/
structure Gh.le (G G' : Gh) : Prop where
  kn : ∀ b o v, G.kn b o = some v → G'.kn b o = some v
  ob : ∀ id b, G.ob id = some b → G'.ob id = some b
theorem Gh.le.refl (G : Gh) : G.le G := ⟨fun _ _ _ h => h, fun _ _ h => h⟩
theorem Gh.le.trans {A B C : Gh} (h : A.le B) (k : B.le C) : A.le C := ⟨fun b o v e => k.kn b o v (h.kn b o v e), fun i b e => k.ob i b (h.ob i b e)⟩

theorem V.mono {G G' : Gh} (h : G.le G') {v : Value} {a : AV} (hv : V G v a) : V G' v a := by
  induction hv with
  | bool b => exact .bool b
  | int k n => exact .int k n
  | str s => exact .str s
  | junk v h => exact .junk v h
  | nilp => exact .nilp
  | kp b off cs vs hk hf _ ih => exact .kp b off cs vs (fun j c e => h.kn _ _ _ (hk j c e)) hf ih
  | op id off b e => exact .op id off b (h.ob _ _ e)
  | slE a cap => exact .slE a cap
  | slN b off cap esz xs vs hc he hk hf _ ih => exact .slN b off cap esz xs vs hc he (fun i e j c h1 h2 => h.kn _ _ _ (hk i e j c h1 h2)) hf ih
  | agg vs cs hl hf _ ih => exact .agg vs cs hl hf ih
  | tup vs cs hl _ ih => exact .tup vs cs hl ih
  | fn f vs cs hl _ ih => exact .fn f vs cs hl ih
  | nilf => exact .nilf
  | ifc t v a _ ih => exact .ifc t v a ih
  | nili => exact .nili

theorem V.oneCell {G : Gh} {v : Value} {a : AV} (hv : V G v a) (hf : a.flat = true) : v.oneCell' = true := by
  cases hv <;> first | rfl | assumption | (simp [AV.flat] at hf)

theorem AV.cells_flat {a : AV} (h : a.flat = true) : a.cells = [a] := by cases a <;> first | rfl | (simp [AV.flat] at h)
theorem vcells_one {v : Value} (h : v.oneCell' = true) : v.cells = #[v] := by cases v <;> first | rfl | (simp [Value.oneCell'] at h)
/-- The cells of a value stand for the cells of what it stands for. -/
theorem V.cells {G : Gh} {v : Value} {a : AV} (hv : V G v a) (ht : ∀ vs, a ≠ .tup vs) : v.cells.size = a.cells.length ∧ (∀ (j : Nat) (c : AV), a.cells[j]? = some c → c.flat = true ∧ V G (v.cells.getD j undef) c) := by
  by_cases hf : a.flat = true
  · rw [AV.cells_flat hf, vcells_one (hv.oneCell hf)]
    refine ⟨rfl, fun j c hc => ?_⟩
    cases j with
    | zero => simp at hc; subst hc; exact ⟨hf, hv⟩
    | succ j => simp at hc
  · cases hv
    case agg vs cs hl hf2 hv => exact ⟨hl, fun j c h => ⟨hf2 j c h, hv j c h⟩⟩
    case tup => exact absurd rfl (ht _)
    all_goals exact absurd rfl hf

/-! ### The state of a frame -/
/-- What a slot, or a cell of a local box, holds: a pure value; a pointer into the local box 'k'; a slice that grows, 'k', with what it holds; the slice over the local box 'k' (n elements); a value that is there if 'b' (behind the guard 'g'). -/
inductive Sv where
  | v (a : AV)
  | lp (k off : Nat)
  | ow (k : Nat) (xs : List AV)
  | mv (k n : Nat)
  | cd (g : Nat) (b : Bool) (a : AV)
  deriving Inhabited
def Sv.av : Sv → Option AV
  | .v a => some a
  | .ow _ xs => some (.sl xs)
  | _ => none
def Sv.flat : Sv → Bool
  | .v a => a.flat
  | .cd _ _ _ => false
  | _ => true

/-- Objects that are shared. -/
structure Hp where
  next : Nat
  obj : Nat → Option (List AV)

inductive Comp where
  | s (n : Nat) | b (n : Nat) | t (n : Nat) | h
  deriving DecidableEq
inductive CV where
  | sv (x : Sv)
  | bx (cs : List Sv)
  | it (s : List UInt8) (pos : Nat)
  | tk (el esz : Nat) (xs : List AV)
  | hp (H : Hp)
  | gone
/-- It has a block of its own. -/
def CV.live : CV → Bool
  | .bx _ | .it _ _ => true
  | _ => false
abbrev St := List (Comp × CV)
def get : St → Comp → Option CV
  | [], _ => none
  | (c, v) :: s, d => if c = d then some v else get s d
theorem get_append (s t : St) (d : Comp) : get (s ++ t) d = match get s d with | some v => some v | none => get t d := by
  induction s with
  | nil => simp [get]
  | cons x s ih =>
    obtain ⟨c, v⟩ := x
    simp only [List.cons_append, get]
    split
    · rfl
    · exact ih

/-- Where the local boxes, and the slices that grow, are. -/
structure Loc where
  box : Nat → Option Nat
  tok : Nat → Option Value

def SV (G : Gh) (L : Loc) (v : Value) : Sv → Prop
  | .v a => V G v a
  | .lp k off => ∃ blk, L.box k = some blk ∧ v = .pointer (some ⟨blk, off, none⟩)
  | .ow k xs => V G v (.sl xs) ∧ L.tok k = some v
  | .mv k n => ∃ blk cap, L.box k = some blk ∧ v = .slice (some ⟨blk, 0, none⟩) n cap ∧ n ≤ cap
  | .cd _ b a => b = true → V G v a

theorem SV.mono {G G' : Gh} (h : G.le G') {L : Loc} {v : Value} {x : Sv} (hv : SV G L v x) : SV G' L v x := by
  cases x with
  | v a => exact V.mono h hv
  | lp k off => exact hv
  | ow k xs => exact ⟨V.mono h hv.1, hv.2⟩
  | mv k n => exact hv
  | cd g b a => exact fun e => V.mono h (hv e)
theorem SV.loc {G : Gh} {L L' : Loc} (hb : ∀ k b, L.box k = some b → L'.box k = some b) (ht : ∀ k u, L.tok k = some u → L'.tok k = some u) {v : Value} {x : Sv} (hv : SV G L v x) : SV G L' v x := by
  cases x with
  | v a => exact hv
  | lp k off => obtain ⟨blk, h, e⟩ := hv; exact ⟨blk, hb _ _ h, e⟩
  | ow k xs => exact ⟨hv.1, ht _ _ hv.2⟩
  | mv k n => obtain ⟨blk, cap, h, e⟩ := hv; exact ⟨blk, cap, hb _ _ h, e⟩
  | cd g b a => exact hv
theorem SV.oneCell {G : Gh} {L : Loc} {v : Value} {x : Sv} (hv : SV G L v x) (hf : x.flat = true) : v.oneCell' = true := by
  cases x with
  | v a => exact V.oneCell hv hf
  | lp k off => obtain ⟨blk, h, rfl⟩ := hv; rfl
  | ow k xs => exact V.oneCell hv.1 rfl
  | mv k n => obtain ⟨blk, cap, h, rfl, _⟩ := hv; rfl
  | cd g b a => simp [Sv.flat] at hf
/-- What can leave the frame. -/
theorem SV.av {G : Gh} {L : Loc} {v : Value} {x : Sv} {a : AV} (hv : SV G L v x) (h : x.av = some a) : V G v a := by
  cases x with
  | v b => simp [Sv.av] at h; subst h; exact hv
  | lp k off => simp [Sv.av] at h
  | ow k xs => simp [Sv.av] at h; subst h; exact hv.1
  | mv k n => simp [Sv.av] at h
  | cd g b a => simp [Sv.av] at h

/-- Of the old blocks only the objects' may have turned. -/
structure Fr (G : Gh) (w w' : World) : Prop where
  os : w'.os = w.os
  tape : w'.tape = w.tape
  output : w'.output = w.output
  size : w.heap.size ≤ w'.heap.size
  block : ∀ k, k < w.heap.size → (∀ id, G.ob id ≠ some k) → w'.heap[k]? = w.heap[k]?
theorem Fr.refl (G : Gh) (w : World) : Fr G w w := ⟨rfl, rfl, rfl, Nat.le_refl _, fun _ _ _ => rfl⟩

/-- A frame began with this. -/
structure Ent where
  G0 : Gh
  w0 : World

/-- A block holds what is said of it. -/
def ObjOK (G : Gh) (L : Loc) (o : Obj) : CV → Prop
  | .bx cs => ∃ arr el, o = .cells arr el (0, 0) ∧ arr.size = cs.length ∧ ∀ (j : Nat) x, cs[j]? = some x → x.flat = true ∧ SV G L (arr.getD j undef) x
  | .it s pos => o = .stringIter ⟨s.toArray⟩ pos
  | _ => False
theorem ObjOK.mono {G G' : Gh} (h : G.le G') {L : Loc} {o : Obj} {cv : CV} (k : ObjOK G L o cv) : ObjOK G' L o cv := by
  cases cv with
  | bx cs =>
    obtain ⟨arr, el, e, hs, hc⟩ := k
    exact ⟨arr, el, e, hs, fun j x hx => ⟨(hc j x hx).1, (hc j x hx).2.mono h⟩⟩
  | it s pos => exact k
  | _ => exact k
theorem ObjOK.loc {G : Gh} {L L' : Loc} (hb : ∀ k b, L.box k = some b → L'.box k = some b) (ht : ∀ k u, L.tok k = some u → L'.tok k = some u) {o : Obj} {cv : CV} (k : ObjOK G L o cv) : ObjOK G L' o cv := by
  cases cv with
  | bx cs =>
    obtain ⟨arr, el, e, hs, hc⟩ := k
    exact ⟨arr, el, e, hs, fun j x hx => ⟨(hc j x hx).1, (hc j x hx).2.loc hb ht⟩⟩
  | it s pos => exact k
  | _ => exact k
def BoxOK (E : Ent) (G : Gh) (L : Loc) (w : World) (k : Nat) (cv : CV) : Prop :=
  ∃ blk o, L.box k = some blk ∧ E.w0.heap.size ≤ blk ∧ w.heap[blk]? = some o ∧ ObjOK G L o cv ∧ ∀ j, G.kn blk j = none
def TokOK (E : Ent) (G : Gh) (L : Loc) (w : World) (k el esz : Nat) (xs : List AV) : Prop :=
  ∃ v cells, L.tok k = some v ∧ V G v (.sl xs) ∧ w.ownsRow E.w0.heap.size el esz v xs.length cells ∧ 0 < esz ∧
    (∀ (i : Nat) (e : AV), xs[i]? = some e → e.cells.length = esz) ∧
    (∀ (i : Nat) (e : AV) (j : Nat) (c : AV), xs[i]? = some e → e.cells[j]? = some c → c.flat = true ∧ V G (cells.getD (i * esz + j) undef) c) ∧
    (∀ blk, v.ownBlock = some blk → (∀ o, o < xs.length * esz → G.kn blk o = cells[o]?) ∧ ∀ o, xs.length * esz ≤ o → G.kn blk o = none)
def HpOK (G : Gh) (w : World) (H : Hp) : Prop :=
  (∀ id b, G.ob id = some b → id < H.next ∧ b < w.heap.size) ∧
  (∀ id id' b, G.ob id = some b → G.ob id' = some b → id = id') ∧
  ∀ id cs, H.obj id = some cs → ∃ blk arr el, G.ob id = some blk ∧ w.heap[blk]? = some (.cells arr el (0, 0)) ∧ arr.size = cs.length ∧
    (∀ (j : Nat) x, cs[j]? = some x → x.flat = true ∧ V G (arr.getD j undef) x) ∧ ∀ o, G.kn blk o = none

/-- What is the frame's own, and where. -/
def owns (s : St) (L : Loc) (c : Comp) (blk : Nat) : Prop :=
  match c with
  | .b k => (∃ cv, get s (.b k) = some cv ∧ cv.live = true) ∧ L.box k = some blk
  | .t k => (∃ el esz xs, get s (.t k) = some (.tk el esz xs)) ∧ ∃ v, L.tok k = some v ∧ v.ownBlock = some blk
  | _ => False

/-- A frame and a world fit a state. -/
structure Rel (E : Ent) (N : Nat) (G : Gh) (L : Loc) (a : Act) (w : World) (s : St) : Prop where
  size : a.tmps.size = N
  defs : a.defers = []
  kn : ∀ b o v, G.kn b o = some v → w.cell? ⟨b, o, none⟩ = some v
  old : ∀ b o, b < E.w0.heap.size → G.kn b o = E.G0.kn b o
  obs : ∀ id b, E.G0.ob id = some b → G.ob id = some b
  obn : ∀ id b, G.ob id = some b → E.G0.ob id = some b ∨ E.w0.heap.size ≤ b
  fr : Fr E.G0 E.w0 w
  slot : ∀ n x, get s (.s n) = some (.sv x) → SV G L (a.tmps.getD n undef) x
  box : ∀ k cv, get s (.b k) = some cv → cv.live = true → BoxOK E G L w k cv
  tok : ∀ k el esz xs, get s (.t k) = some (.tk el esz xs) → TokOK E G L w k el esz xs
  disj : ∀ c d blk, owns s L c blk → owns s L d blk → c = d
  heap : ∃ H, get s .h = some (.hp H) ∧ HpOK G w H
  hdisj : ∀ c blk, owns s L c blk → ∀ id, G.ob id ≠ some blk
  nobox : ∀ k, get s (.b k) = none → L.box k = none
  notok : ∀ k, get s (.t k) = none → L.tok k = none

/-- Only what is got of a state counts. -/
theorem Rel.ext {E : Ent} {N : Nat} {G : Gh} {L : Loc} {a : Act} {w : World} {s t : St} (h : Rel E N G L a w s) (e : ∀ c, get t c = get s c) : Rel E N G L a w t := by
  have ho : ∀ c blk, owns t L c blk → owns s L c blk := by
    intro c blk hc
    cases c <;> simp only [owns, e] at hc ⊢ <;> exact hc
  exact ⟨h.size, h.defs, h.kn, h.old, h.obs, h.obn, h.fr, fun n x g => h.slot n x (by rw [← e]; exact g), fun k cv g => h.box k cv (by rw [← e]; exact g),
    fun k el esz xs g => h.tok k el esz xs (by rw [← e]; exact g), fun c d blk hc hd => h.disj c d blk (ho _ _ hc) (ho _ _ hd), (by rw [e]; exact h.heap),
    fun c blk hc => h.hdisj c blk (ho _ _ hc), fun k g => h.nobox k (by rw [← e]; exact g), fun k g => h.notok k (by rw [← e]; exact g)⟩

theorem Rel.base_le {E : Ent} {N : Nat} {G : Gh} {L : Loc} {a : Act} {w : World} {s : St} (h : Rel E N G L a w s) : E.w0.heap.size ≤ w.heap.size := h.fr.size
theorem Rel.knlt {E : Ent} {N : Nat} {G : Gh} {L : Loc} {a : Act} {w : World} {s : St} (h : Rel E N G L a w s) {b o : Nat} {v : Value} (e : G.kn b o = some v) : b < w.heap.size :=
  World.block_lt_of_cell? w _ (h.kn b o v e)

/-- A slot gets a value; the world stays. -/
theorem Rel.put {E : Ent} {N : Nat} {G : Gh} {L : Loc} {a : Act} {w : World} {s : St} (h : Rel E N G L a w s) (d : Nat) (hd : d < N) (v : Value) (x : Sv) (hv : SV G L v x) :
    Rel E N G L (a.put (some d) v) w ((.s d, .sv x) :: s) := by
  have ho : ∀ c blk, owns ((.s d, .sv x) :: s) L c blk → owns s L c blk := by
    intro c blk hc
    cases c <;> simp only [owns, get, reduceCtorEq, if_false] at hc ⊢ <;> exact hc
  refine ⟨by simpa [Act.put] using h.size, by simpa [Act.put] using h.defs, h.kn, h.old, h.obs, h.obn, h.fr, ?_, fun k cv g => h.box k cv (by simpa [get] using g),
    fun k el esz xs g => h.tok k el esz xs (by simpa [get] using g), fun c d blk hc hd => h.disj c d blk (ho _ _ hc) (ho _ _ hd), (by simpa [get] using h.heap),
    fun c blk hc => h.hdisj c blk (ho _ _ hc), fun k g => h.nobox k (by simpa [get] using g), fun k g => h.notok k (by simpa [get] using g)⟩
  intro n y g
  have hsz := h.size
  by_cases e : d = n
  · subst e
    simp [get] at g
    subst g
    have : (a.put (some d) v).tmps.getD d undef = v := by
      simp only [Act.put, Array.getD_eq_getD_getElem?]
      rw [Array.getElem?_setIfInBounds_self_of_lt (by omega)]
      rfl
    rw [this]; exact hv
  · simp [get, e] at g
    have : (a.put (some d) v).tmps.getD n undef = a.tmps.getD n undef := by
      simp only [Act.put, Array.getD_eq_getD_getElem?]
      rw [Array.getElem?_setIfInBounds_ne (by omega)]
    rw [this]; exact h.slot n y g
/-- Nothing is asked of a slot any more. -/
theorem Rel.drop {E : Ent} {N : Nat} {G : Gh} {L : Loc} {a : Act} {w : World} {s : St} (h : Rel E N G L a w s) (d : Option Nat) (v : Value) :
    Rel E N G L (a.put d v) w (match d with | some d => (.s d, .gone) :: s | none => s) := by
  cases d with
  | none => exact h
  | some d =>
    have ho : ∀ c blk, owns ((.s d, .gone) :: s) L c blk → owns s L c blk := by
      intro c blk hc
      cases c <;> simp only [owns, get, reduceCtorEq, if_false] at hc ⊢ <;> exact hc
    refine ⟨by simpa [Act.put] using h.size, by simpa [Act.put] using h.defs, h.kn, h.old, h.obs, h.obn, h.fr, ?_, fun k cv g => h.box k cv (by simpa [get] using g),
      fun k el esz xs g => h.tok k el esz xs (by simpa [get] using g), fun c d blk hc hd => h.disj c d blk (ho _ _ hc) (ho _ _ hd), (by simpa [get] using h.heap),
      fun c blk hc => h.hdisj c blk (ho _ _ hc), fun k g => h.nobox k (by simpa [get] using g), fun k g => h.notok k (by simpa [get] using g)⟩
    intro n y g
    by_cases e : d = n
    · subst e
      simp [get] at g
    · simp [get, e] at g
      have : (a.put (some d) v).tmps.getD n undef = a.tmps.getD n undef := by
        simp only [Act.put, Array.getD_eq_getD_getElem?]
        rw [Array.getElem?_setIfInBounds_ne (by omega)]
      rw [this]; exact h.slot n y g
end Go.Proofs.Ytecjdohpfijmpaa.X
