/- Plain laws: names, numbers of fields, types, fields, schemas, as the document defines them. No condition. -/
import Derived.Test.YtnpgcmeclkncnaaDoorZN2C
import Derived.Test.YtnpgcmeclkncnaaDoorProg
import Derived.KernelRfl
import Derived.Lib.ValidU
import Derived.Shelf.Unicode.ValidAny
set_option linter.unusedVariables false
namespace Go.Proofs.YtnpgcmeclkncnaaDoor.X
open Go Go.RowKit Go.Proofs
theorem mixed : Tryd.prog.follows .mixedOrders = true := by kernel_rfl
/-- the place of the first one; -1: there is none -/
def ixFrom {α : Type} (p : α → Bool) : List α → Nat → Int
  | [], _ => -1
  | a :: l, i => if p a then i else ixFrom p l (i + 1)
theorem ixFrom_step {α : Type} {p : α → Bool} {l : List α} {i : Nat} (h : i < l.length) : ixFrom p (l.drop i) i = if p l[i] then (i : Int) else ixFrom p (l.drop (i + 1)) (i + 1) := by
  rw [List.drop_eq_getElem_cons h]; rfl
theorem ixFrom_end {α : Type} {p : α → Bool} {l : List α} {i : Nat} (h : l.length ≤ i) : ixFrom p (l.drop i) i = -1 := by
  rw [List.drop_of_length_le h]; rfl
theorem all_step {α : Type} {p : α → Bool} {l : List α} {i : Nat} (h : i < l.length) : (l.drop i).all p = (p l[i] && (l.drop (i + 1)).all p) := by
  rw [List.drop_eq_getElem_cons h]; rfl
theorem all_end {α : Type} {p : α → Bool} {l : List α} {i : Nat} (h : l.length ≤ i) : (l.drop i).all p = true := by
  rw [List.drop_of_length_le h]; rfl
theorem take_app {α : Type} {l : List α} {i : Nat} {f : α → AV} {acc : List AV} (h : i < l.length) (ha : acc = (l.take i).map f) : acc ++ [f l[i]] = (l.take (i + 1)).map f := by
  rw [ha, List.take_succ_eq_append_getElem h, List.map_append]; rfl
theorem take_end {α : Type} {l : List α} {i : Nat} (h : l.length ≤ i) : l.take i = l := List.take_of_length_le h
theorem Pure.at {P : Program} {f : FuncId} {a a' : List AV} {r : AV} (h : Pure P f a r) (e : a' = a) : Pure P f a' r := e ▸ h
/-! ### numbers and types -/
def fnum (n : Int) : Bool := decide (1 ≤ n) && decide (n ≤ 536870911) && (decide (n < 19000) || decide (19999 < n))
def tagOK (n w : Int) : Bool := decide (1 ≤ n) && decide (n ≤ 536870911) && (decide (w = 0) || decide (w = 1) || decide (w = 2) || decide (w = 5))
def wholeT (t : Int) : Bool := (decide (1 ≤ t) && decide (t ≤ 6)) || (decide (8 ≤ t) && decide (t ≤ 11))
def numT (t : Int) : Bool := wholeT t || decide (t = 7) || decide (t = 14)
def signT (t : Int) : Bool := decide (t = 1) || decide (t = 2) || decide (t = 5) || decide (t = 6) || decide (t = 10) || decide (t = 11) || decide (t = 14)
def wideT (t : Int) : Bool := decide (t = 2) || decide (t = 4) || decide (t = 6) || decide (t = 9) || decide (t = 11)
def wireT (t : Int) : Int := if t = 8 ∨ t = 10 then 5 else if t = 9 ∨ t = 11 then 1 else if t = 12 ∨ t = 13 ∨ t = 15 then 2 else 0
def Sch.none (s : Sch) : Bool := decide (s.msgs.length = 0) || s.enums.any (fun e => decide (e.values.length = 0))
def Sch.barred (s : Sch) : Bool := s.msgs.any fun m => m.fields.any fun f => m.barred.any (· == f.num)
def Sch.msgIx (s : Sch) (name : Str) : Int := ixFrom (fun m : Msg => m.name == name) s.msgs 0
/-- a schema's lists are no longer than lists are -/
structure Sch.big (s : Sch) : Prop where
  e : s.enums.length ≤ 9223372036854775807
  m : s.msgs.length ≤ 9223372036854775807
end Go.Proofs.YtnpgcmeclkncnaaDoor.X
/- Plain laws: values of messages: parts, sameness, how great and how deep. No condition. -/
set_option linter.unusedVariables false
namespace Go.Proofs.YtnpgcmeclkncnaaDoor.X
open Go Go.RowKit
/-- within, at whatever depth -/
inductive Tree.Sub : Tree → Tree → Prop where
  | refl (t : Tree) : Sub t t
  | step {t t1 t2 : Tree} {v : Val} {x : Slot} (h1 : t1 ∈ v.m) (h2 : v ∈ x.vals) (h3 : x ∈ t2.slots) (h : Sub t t1) : Sub t t2
def Tree.Every (Q : Tree → Prop) (t : Tree) : Prop := ∀ u, Tree.Sub u t → Q u
theorem Tree.Every.here {Q : Tree → Prop} {t : Tree} (h : t.Every Q) : Q t := h t (.refl t)
theorem Tree.Every.sub {Q : Tree → Prop} {t t1 : Tree} {v : Val} {x : Slot} (h : t.Every Q) (h1 : t1 ∈ v.m) (h2 : v ∈ x.vals) (h3 : x ∈ t.slots) : t1.Every Q := fun u hu => h u (.step h1 h2 h3 hu)
theorem Tree.Every.mk {Q : Tree → Prop} {t : Tree} (h : Q t) (hs : ∀ x ∈ t.slots, ∀ v ∈ x.vals, ∀ u ∈ v.m, u.Every Q) : t.Every Q := by
  intro u hu
  cases hu with
  | refl => exact h
  | step h1 h2 h3 hh => exact hs _ h3 _ h2 _ h1 u hh
theorem Tree.sub_lt {t t1 : Tree} {v : Val} {x : Slot} (h1 : t1 ∈ v.m) (h2 : v ∈ x.vals) (h3 : x ∈ t.slots) : SizeOf.sizeOf t1 < SizeOf.sizeOf t := by
  cases t with
  | mk ss r =>
    cases x with
    | mk n vs =>
      cases v with
      | mk k s m =>
        have a1 : SizeOf.sizeOf t1 < SizeOf.sizeOf m := List.sizeOf_lt_of_mem h1
        have a2 : SizeOf.sizeOf (Val.mk k s m) < SizeOf.sizeOf vs := List.sizeOf_lt_of_mem h2
        have a3 : SizeOf.sizeOf (Slot.mk n vs) < SizeOf.sizeOf ss := List.sizeOf_lt_of_mem h3
        simp only [Val.mk.sizeOf_spec, Slot.mk.sizeOf_spec, Tree.mk.sizeOf_spec] at *
        omega
/-- By what is within. -/
theorem Tree.ind {Q : Tree → Prop} (h : ∀ t, (∀ x ∈ t.slots, ∀ v ∈ x.vals, ∀ u ∈ v.m, Q u) → Q t) : ∀ t, Q t := by
  have key : ∀ (n : Nat) t, SizeOf.sizeOf t < n → Q t := by
    intro n
    induction n with
    | zero => intro t ht; omega
    | succ n ih => intro t ht; exact h t fun x hx v hv u hu => ih u (by have := Tree.sub_lt hu hv hx; omega)
  exact fun t => key _ t (Nat.lt_succ_self _)
/-- its lists are no longer than lists are -/
structure Tree.big1 (t : Tree) : Prop where
  s : t.slots.length ≤ 9223372036854775807
  r : t.rest.length ≤ 9223372036854775807
  v : ∀ x ∈ t.slots, x.vals.length ≤ 9223372036854775807
  m : ∀ x ∈ t.slots, ∀ v ∈ x.vals, v.m.length ≤ 9223372036854775807
  vs : ∀ x ∈ t.slots, ∀ v ∈ x.vals, v.s.length ≤ 9223372036854775807
  vn : ∀ x ∈ t.slots, ∀ v ∈ x.vals, v.n < 18446744073709551616
  rs : ∀ r ∈ t.rest, r.s.length ≤ 9223372036854775807
  rn : ∀ r ∈ t.rest, r.n < 18446744073709551616
def Tree.big (t : Tree) : Prop := t.Every Tree.big1
theorem Tree.ext {a b : Tree} (h1 : a.slots = b.slots) (h2 : a.rest = b.rest) : a = b := by cases a; cases b; simp [Tree.slots, Tree.rest] at *; exact ⟨h1, h2⟩
theorem Slot.ext {a b : Slot} (h1 : a.num = b.num) (h2 : a.vals = b.vals) : a = b := by cases a; cases b; simp [Slot.num, Slot.vals] at *; exact ⟨h1, h2⟩
theorem Val.ext {a b : Val} (h1 : a.n = b.n) (h2 : a.s = b.s) (h3 : a.m = b.m) : a = b := by cases a; cases b; simp [Val.n, Val.s, Val.m] at *; exact ⟨h1, h2, h3⟩
/-! ### how much of so much a value leaves (numbers wrap round) -/
abbrev w64 (n : Int) : Int := IntKind.i64.wrap n
def leftR : List Rw → Int → Int
  | [], n => n
  | x :: l, n => if 0 ≤ n then leftR l (w64 (n - w64 ((x.s.length : Int).tdiv 20))) else n
mutual
def Tree.left : Tree → Int → Int → Int
  | .mk ss r, n, d => if d ≤ 0 then -1 else leftS ss (leftR r (w64 (w64 (n - (r.length : Int)) - (ss.length : Int)))) d
def Slot.left : Slot → Int → Int → Int
  | .mk _ vs, n, d => leftV vs (w64 (n - (vs.length : Int))) d
def Val.left : Val → Int → Int → Int
  | .mk _ s m, n, d => leftT m (w64 (n - w64 ((s.length : Int).tdiv 20))) d
def leftS : List Slot → Int → Int → Int
  | [], n, _ => n
  | x :: l, n, d => if 0 ≤ n then leftS l (x.left n d) d else n
def leftV : List Val → Int → Int → Int
  | [], n, _ => n
  | x :: l, n, d => if 0 ≤ n then leftV l (x.left n d) d else n
def leftT : List Tree → Int → Int → Int
  | [], n, _ => n
  | x :: l, n, d => if 0 ≤ n then leftT l (x.left (w64 (n - 1)) (w64 (d - 1))) d else n
end
/-! ### how deep -/
mutual
def Tree.deep : Tree → Nat
  | .mk ss _ => deepS ss + 1
def Slot.deep : Slot → Nat
  | .mk _ vs => deepV vs
def Val.deep : Val → Nat
  | .mk _ _ m => deepT m
def deepS : List Slot → Nat
  | [] => 0
  | x :: l => max x.deep (deepS l)
def deepV : List Val → Nat
  | [] => 0
  | x :: l => max x.deep (deepV l)
def deepT : List Tree → Nat
  | [] => 0
  | x :: l => max x.deep (deepT l)
end
theorem Tree.deep_eq (t : Tree) : t.deep = deepS t.slots + 1 := by cases t; simp [Tree.deep, Tree.slots]
theorem Slot.deep_eq (x : Slot) : x.deep = deepV x.vals := by cases x; simp [Slot.deep, Slot.vals]
theorem Val.deep_eq (x : Val) : x.deep = deepT x.m := by cases x; simp [Val.deep, Val.m]
theorem deepT_step {l : List Tree} {i : Nat} (h : i < l.length) : deepT (l.drop i) = max l[i].deep (deepT (l.drop (i + 1))) := by rw [List.drop_eq_getElem_cons h]; simp [deepT]
theorem deepT_end {l : List Tree} {i : Nat} (h : l.length ≤ i) : deepT (l.drop i) = 0 := by rw [List.drop_of_length_le h]; simp [deepT]
end Go.Proofs.YtnpgcmeclkncnaaDoor.X
/- Plain laws: numbers of types, on the wire and in values. No condition. -/
set_option linter.unusedVariables false
set_option linter.unusedSimpArgs false
namespace Go.Proofs.YtnpgcmeclkncnaaDoor.X
open Go Go.RowKit
def kindT (t : Int) : Int :=
  if t = 1 ∨ t = 5 ∨ t = 10 then 7 else if t = 2 ∨ t = 6 ∨ t = 11 then 15 else if t = 3 ∨ t = 8 then 3 else if t = 4 ∨ t = 9 then 11 else if t = 7 then 2 else if t = 14 then 6 else 0
theorem ty_cases (t : Int) : (t < 1 ∨ 15 < t) ∨ t = 1 ∨ t = 2 ∨ t = 3 ∨ t = 4 ∨ t = 5 ∨ t = 6 ∨ t = 7 ∨ t = 8 ∨ t = 9 ∨ t = 10 ∨ t = 11 ∨ t = 12 ∨ t = 13 ∨ t = 14 ∨ t = 15 := by omega
theorem kindT_out {t : Int} (h : t < 1 ∨ 15 < t) : kindT t = 0 := by unfold kindT; split <;> first | omega | (split <;> first | omega | (split <;> first | omega | (split <;> first | omega | (split <;> first | omega | (split <;> first | omega | rfl)))))
theorem kind_num (t : Int) : (!(ibits .and .i64 (kindT t) 2 == 0)) = numT t := by
  rcases ty_cases t with h | h
  · rw [kindT_out h, show ibits .and .i64 0 2 = 0 by decide]
    have : numT t = false := by unfold numT wholeT; simp; omega
    rw [this]; rfl
  · rcases h with rfl | rfl | rfl | rfl | rfl | rfl | rfl | rfl | rfl | rfl | rfl | rfl | rfl | rfl | rfl <;> decide
theorem kind_whole (t : Int) : (!(ibits .and .i64 (kindT t) 1 == 0)) = wholeT t := by
  rcases ty_cases t with h | h
  · rw [kindT_out h, show ibits .and .i64 0 1 = 0 by decide]
    have : wholeT t = false := by unfold wholeT; simp; omega
    rw [this]; rfl
  · rcases h with rfl | rfl | rfl | rfl | rfl | rfl | rfl | rfl | rfl | rfl | rfl | rfl | rfl | rfl | rfl <;> decide
theorem kind_sign (t : Int) : (!(ibits .and .i64 (kindT t) 4 == 0)) = signT t := by
  rcases ty_cases t with h | h
  · rw [kindT_out h, show ibits .and .i64 0 4 = 0 by decide]
    have : signT t = false := by unfold signT; simp; omega
    rw [this]; rfl
  · rcases h with rfl | rfl | rfl | rfl | rfl | rfl | rfl | rfl | rfl | rfl | rfl | rfl | rfl | rfl | rfl <;> decide
theorem kind_wide (t : Int) : (!(ibits .and .i64 (kindT t) 8 == 0)) = wideT t := by
  rcases ty_cases t with h | h
  · rw [kindT_out h, show ibits .and .i64 0 8 = 0 by decide]
    have : wideT t = false := by unfold wideT; simp; omega
    rw [this]; rfl
  · rcases h with rfl | rfl | rfl | rfl | rfl | rfl | rfl | rfl | rfl | rfl | rfl | rfl | rfl | rfl | rfl <;> decide
theorem kind_cell {t : Int} (h0 : 0 ≤ t) (h1 : t < 16) : ([.int .i64 0, .int .i64 7, .int .i64 15, .int .i64 3, .int .i64 11, .int .i64 7, .int .i64 15, .int .i64 2, .int .i64 3, .int .i64 11, .int .i64 7, .int .i64 15, .int .i64 0, .int .i64 0, .int .i64 6, .int .i64 0] : List AV)[t.toNat]? = some (.int .i64 (kindT t)) := by
  have : t = 0 ∨ t = 1 ∨ t = 2 ∨ t = 3 ∨ t = 4 ∨ t = 5 ∨ t = 6 ∨ t = 7 ∨ t = 8 ∨ t = 9 ∨ t = 10 ∨ t = 11 ∨ t = 12 ∨ t = 13 ∨ t = 14 ∨ t = 15 := by omega
  rcases this with rfl | rfl | rfl | rfl | rfl | rfl | rfl | rfl | rfl | rfl | rfl | rfl | rfl | rfl | rfl | rfl <;> rfl
/-- a number's sign -/
def s64 (n : Nat) : Int := IntKind.i64.wrap (n : Int)
theorem s64_eq {n : Nat} (h : n < 18446744073709551616) : s64 n = if n < 9223372036854775808 then (n : Int) else (n : Int) - 18446744073709551616 := by
  unfold s64; simp only [IntKind.wrap, IntKind.bits, IntKind.signed]; simp; omega
def fitsT (z : Int) : Bool := decide (-2147483648 ≤ z) && decide (z ≤ 2147483647)
theorem fits_wrap (z : Int) : (IntKind.i64.wrap (IntKind.i32.wrap z) == z) = fitsT z := by
  have h : IntKind.i64.wrap (IntKind.i32.wrap z) = IntKind.i32.wrap z := by simp only [IntKind.wrap, IntKind.bits, IntKind.signed]; simp; omega
  rw [h]
  simp only [IntKind.wrap, IntKind.bits, IntKind.signed, fitsT]
  rw [Bool.eq_iff_iff]
  simp
  omega
def zigT (z : Int) : Nat := if 0 ≤ z then (2 * z).toNat else (-2 * z - 1).toNat
def mayT (t : Int) (n : Nat) : Bool :=
  if t < 1 ∨ 15 < t then false else if wideT t then true else if signT t then fitsT (s64 n) else if t = 3 ∨ t = 8 then decide (n < 4294967296) else if t = 7 then decide (n < 2) else decide (n = 0)
def toT (t : Int) (n : Nat) : Nat :=
  if t = 3 ∨ t = 8 ∨ t = 10 then n % 4294967296 else if t = 5 ∨ t = 6 then zigT (s64 n) else if numT t then n else 0
theorem zigT_lt {z : Int} (h0 : -9223372036854775808 ≤ z) (h1 : z < 9223372036854775808) : zigT z < 18446744073709551616 := by unfold zigT; split <;> omega
theorem s64_range {n : Nat} (h : n < 18446744073709551616) : -9223372036854775808 ≤ s64 n ∧ s64 n < 9223372036854775808 := by rw [s64_eq h]; split <;> omega
theorem toT_lt {t : Int} {n : Nat} (h : n < 18446744073709551616) : toT t n < 18446744073709551616 := by
  have := s64_range h
  have := zigT_lt this.1 this.2
  unfold toT; split
  · omega
  · split
    · exact this
    · split <;> omega
/-- the program's zigzag -/
theorem zig_xor {z : Int} (h0 : -9223372036854775808 ≤ z) (h1 : z < 9223372036854775808) :
    ibits .xor .u64 (IntKind.u64.wrap (IntKind.u64.wrap z * 2)) (IntKind.u64.wrap ((IntKind.i64.wrap (IntKind.u64.wrap z)).fdiv (2 ^ 63))) = (zigT z : Int) := by
  have hw : IntKind.i64.wrap (IntKind.u64.wrap z) = z := by simp only [IntKind.wrap, IntKind.bits, IntKind.signed]; simp; omega
  rw [hw]
  by_cases hz : 0 ≤ z
  · have e1 : IntKind.u64.wrap (IntKind.u64.wrap z * 2) = 2 * z := by simp only [IntKind.wrap, IntKind.bits, IntKind.signed]; simp; omega
    have e2 : IntKind.u64.wrap (z.fdiv (2 ^ 63)) = 0 := by
      have : z.fdiv (2 ^ 63) = 0 := by rw [Int.fdiv_eq_ediv_of_nonneg _ (by omega)]; omega
      rw [this]; decide
    rw [e1, e2]
    simp only [ibits, zigT, if_pos hz]
    obtain ⟨k, hk⟩ : ∃ k : Nat, z = k := ⟨z.toNat, by omega⟩
    subst hk
    show IntKind.u64.wrap (((BitVec.ofInt 64 (2 * (k : Int))) ^^^ 0#64).toNat : Int) = _
    rw [BitVec.xor_zero, BitVec.toNat_ofInt]
    simp only [IntKind.wrap, IntKind.bits, IntKind.signed]
    simp
    omega
  · have e1 : IntKind.u64.wrap (IntKind.u64.wrap z * 2) = 2 * z + 18446744073709551616 := by simp only [IntKind.wrap, IntKind.bits, IntKind.signed]; simp; omega
    have e2 : IntKind.u64.wrap (z.fdiv (2 ^ 63)) = 18446744073709551615 := by
      have : z.fdiv (2 ^ 63) = -1 := by rw [Int.fdiv_eq_ediv_of_nonneg _ (by omega)]; omega
      rw [this]; decide
    rw [e1, e2]
    simp only [ibits, zigT, if_neg hz]
    have h2 : BitVec.ofInt IntKind.u64.bits 18446744073709551615 = BitVec.allOnes 64 := show BitVec.ofInt 64 18446744073709551615 = BitVec.allOnes 64 from by decide
    rw [h2]
    obtain ⟨k, hk⟩ : ∃ k : Nat, 2 * z + 18446744073709551616 = k := ⟨(2 * z + 18446744073709551616).toNat, by omega⟩
    rw [hk]
    show IntKind.u64.wrap (((BitVec.ofInt 64 (k : Int)) ^^^ BitVec.allOnes 64).toNat : Int) = _
    rw [BitVec.xor_allOnes, BitVec.toNat_not, BitVec.toNat_ofInt]
    simp only [IntKind.wrap, IntKind.bits, IntKind.signed]
    simp
    omega
end Go.Proofs.YtnpgcmeclkncnaaDoor.X
/- Plain laws: which values are values of a message of a schema. No condition. -/
set_option linter.unusedVariables false
set_option linter.unusedSimpArgs false
namespace Go.Proofs.YtnpgcmeclkncnaaDoor.X
open Go Go.RowKit
theorem ixFrom_cases {α : Type} (p : α → Bool) : ∀ (l : List α) (k : Nat), (ixFrom p l k = -1 ∧ l.find? p = none) ∨ ∃ (i : Nat) (h : i < l.length), ixFrom p l k = ((k + i : Nat) : Int) ∧ l.find? p = some l[i] ∧ p l[i] = true
  | [], k => .inl ⟨rfl, rfl⟩
  | a :: l, k => by
    by_cases h : p a = true
    · refine .inr ⟨0, by simp, ?_, ?_, h⟩
      · simp [ixFrom, h]
      · simp [h]
    · have h' : p a = false := by simpa using h
      rcases ixFrom_cases p l (k + 1) with ⟨h1, h2⟩ | ⟨i, hi, h1, h2, h3⟩
      · exact .inl ⟨by simp [ixFrom, h', h1], by simp [h', h2]⟩
      · exact .inr ⟨i + 1, by simp; omega, by simp [ixFrom, h', h1]; omega, by simp [h', h2], by simpa using h3⟩
def Msg.fix (m : Msg) (num : Int) : Option Fld := m.fields.find? (fun f => f.num == num)
def Msg.at (m : Msg) (num : Int) : Int := ixFrom (fun f : Fld => f.num == num) m.fields 0
theorem Msg.at_cases (m : Msg) (num : Int) : (m.at num = -1 ∧ m.fix num = none) ∨ ∃ (i : Nat) (h : i < m.fields.length), m.at num = (i : Int) ∧ m.fix num = some m.fields[i] ∧ m.fields[i].num = num := by
  rcases ixFrom_cases (fun f : Fld => f.num == num) m.fields 0 with h | ⟨i, h, h1, h2, h3⟩
  · exact .inl h
  · exact .inr ⟨i, h, by simpa [Msg.at] using h1, h2, by simpa using h3⟩
def Msg.ixN (m : Msg) (num : Int) : Nat := (m.at num).toNat
theorem Msg.at_nn {m : Msg} {num : Int} (h : decide (m.at num < 0) = false) : 0 ≤ m.at num := by have := of_decide_eq_false h; omega
theorem Msg.at_eq {m : Msg} {num : Int} (h : decide (m.at num < 0) = false) : m.at num = (m.ixN num : Int) := by have := of_decide_eq_false h; unfold Msg.ixN; omega
theorem Msg.at_lt {m : Msg} {num : Int} (h : decide (m.at num < 0) = false) : m.ixN num < m.fields.length := by
  have h := of_decide_eq_false h
  rcases m.at_cases num with ⟨h1, _⟩ | ⟨i, hi, h1, _⟩
  · omega
  · unfold Msg.ixN; rw [h1]; simpa using hi
theorem Msg.at_fix {m : Msg} {num : Int} (h : decide (m.at num < 0) = false) : m.fix num = some (m.fields[m.ixN num]'(Msg.at_lt h)) := by
  have h' := of_decide_eq_false h
  rcases m.at_cases num with ⟨h1, _⟩ | ⟨i, hi, h1, h2, _⟩
  · omega
  · rw [h2]; congr 1; have : m.ixN num = i := by unfold Msg.ixN; rw [h1]; simp
    simp [this]
theorem Msg.at_no {m : Msg} {num : Int} (h : decide (m.at num < 0) = true) : m.fix num = none := by
  have h := of_decide_eq_true h
  rcases m.at_cases num with ⟨h1, h2⟩ | ⟨i, hi, h1, _⟩
  · exact h2
  · omega
def Sch.msgAt (s : Sch) (name : Str) : Option Msg := s.msgs.find? (fun m => m.name == name)
theorem Sch.ix_cases (s : Sch) (name : Str) : (s.msgIx name = -1 ∧ s.msgAt name = Option.none) ∨ ∃ (i : Nat) (h : i < s.msgs.length), s.msgIx name = (i : Int) ∧ s.msgAt name = some s.msgs[i] ∧ s.msgs[i].name = name := by
  rcases ixFrom_cases (fun m : Msg => m.name == name) s.msgs 0 with h | ⟨i, h, h1, h2, h3⟩
  · exact .inl h
  · exact .inr ⟨i, h, by simpa [Sch.msgIx] using h1, h2, by simpa using h3⟩
def Sch.ixN (s : Sch) (name : Str) : Nat := (s.msgIx name).toNat
theorem Sch.ix_nn {s : Sch} {name : Str} (h : decide (s.msgIx name < 0) = false) : 0 ≤ s.msgIx name := by have := of_decide_eq_false h; omega
theorem Sch.ix_eq {s : Sch} {name : Str} (h : decide (s.msgIx name < 0) = false) : s.msgIx name = (s.ixN name : Int) := by have := of_decide_eq_false h; unfold Sch.ixN; omega
theorem Sch.ix_lt {s : Sch} {name : Str} (h : decide (s.msgIx name < 0) = false) : s.ixN name < s.msgs.length := by
  have h := of_decide_eq_false h
  rcases s.ix_cases name with ⟨h1, _⟩ | ⟨i, hi, h1, _⟩
  · omega
  · unfold Sch.ixN; rw [h1]; simpa using hi
theorem Sch.ix_at {s : Sch} {name : Str} (h : decide (s.msgIx name < 0) = false) : s.msgAt name = some (s.msgs[s.ixN name]'(Sch.ix_lt h)) := by
  have h' := of_decide_eq_false h
  rcases s.ix_cases name with ⟨h1, _⟩ | ⟨i, hi, h1, h2, _⟩
  · omega
  · rw [h2]; congr 1; have : s.ixN name = i := by unfold Sch.ixN; rw [h1]; simp
    simp [this]
theorem Sch.ix_no {s : Sch} {name : Str} (h : decide (s.msgIx name < 0) = true) : s.msgAt name = Option.none := by
  have h := of_decide_eq_true h
  rcases s.ix_cases name with ⟨h1, h2⟩ | ⟨i, hi, h1, _⟩
  · exact h2
  · omega
theorem ntr {b : Bool} (h : (!b) = true) : b = false := by cases b <;> simp_all
theorem nfl {b : Bool} (h : (!b) = false) : b = true := by cases b <;> simp_all
theorem dge {a : Int} (h : decide (0 ≤ a) = true) : decide (a < 0) = false := by have := of_decide_eq_true h; simp; omega
theorem dlt {a : Int} (h : decide (0 ≤ a) = false) : decide (a < 0) = true := by have := of_decide_eq_false h; simp; omega
/-- what the walks ask of a schema -/
structure Sch.fine (s : Sch) : Prop where
  m : s.msgs.length ≤ 1000
  f : ∀ m ∈ s.msgs, m.fields.length ≤ 1000
  o : ∀ m ∈ s.msgs, ∀ f ∈ m.fields, f.one.length ≤ 1000
theorem wf64 (n : Int) : (Lit.int .i64 (IntKind.i64.wrap n)).wf = true := by
  simp only [Lit.wf, IntKind.min, IntKind.max, IntKind.wrap, IntKind.bits, IntKind.signed]; simp; omega
def Fld.hidden (f : Fld) : Bool := !f.rep && f.one == [] && !decide (f.ty = 15)
def Fld.packed (f : Fld) : Bool := f.rep && numT f.ty && !f.loose
def Rw.right (r : Rw) : Bool := tagOK r.num r.wire && (if r.wire = 2 then decide (r.n = 0) else r.s == [] && (!decide (r.wire = 5) || decide (r.n < 4294967296)))
def restOK (m : Msg) (r : Rw) : Bool := r.right && (m.fix r.num).isNone
/-- the name of a slot's oneof -/
def Msg.oneOf (m : Msg) (x : Slot) : Str := ((m.fix x.num).map (·.one)).getD []
def newOne (ones : List Str) (one : Str) : Bool := one == [] || !ones.any (· == one)
mutual
def Val.ok (s : Sch) (f : Fld) : Val → Bool
  | .mk n str m =>
    if numT f.ty then mayT f.ty n && str == [] && decide (m.length = 0)
    else if f.ty = 12 then decide (n = 0) && decide (m.length = 0) && Lib.validD str
    else if f.ty = 13 then decide (n = 0) && decide (m.length = 0)
    else if f.ty = 15 then decide (n = 0) && str == [] && treeOk1 s f.ref m
    else false
def Slot.ok (s : Sch) (m : Msg) : Slot → Bool
  | .mk num vs => match m.fix num with
    | none => false
    | some f => decide (0 < vs.length) && (f.rep || decide (vs.length = 1)) && valsOk s f vs && (!f.hidden || (!decide ((vs.head?.map Val.n).getD 0 = 0) || !((vs.head?.map Val.s).getD [] == [])))
def Tree.ok (s : Sch) (name : Str) : Tree → Bool
  | .mk ss r => match s.msgAt name with
    | none => false
    | some m => slotsOk s m ss none [] && r.all (restOK m)
def valsOk (s : Sch) (f : Fld) : List Val → Bool
  | [] => true
  | v :: l => v.ok s f && valsOk s f l
def slotsOk (s : Sch) (m : Msg) : List Slot → Option Int → List Str → Bool
  | [], _, _ => true
  | x :: l, last, ones => (match last with | none => true | some n => decide (n < x.num)) && x.ok s m && newOne ones (m.oneOf x) && slotsOk s m l (some x.num) (ones ++ [m.oneOf x])
def treeOk1 (s : Sch) (name : Str) : List Tree → Bool
  | [t] => t.ok s name
  | _ => false
end
theorem Val.ok_eq (s : Sch) (f : Fld) (v : Val) : v.ok s f = if numT f.ty then mayT f.ty v.n && v.s == [] && decide (v.m.length = 0)
    else if f.ty = 12 then decide (v.n = 0) && decide (v.m.length = 0) && Lib.validD v.s
    else if f.ty = 13 then decide (v.n = 0) && decide (v.m.length = 0)
    else if f.ty = 15 then decide (v.n = 0) && v.s == [] && treeOk1 s f.ref v.m
    else false := by cases v; simp only [Val.ok, Val.n, Val.s, Val.m]; rfl
theorem Slot.ok_eq (s : Sch) (m : Msg) (x : Slot) : x.ok s m = match m.fix x.num with
    | none => false
    | some f => decide (0 < x.vals.length) && (f.rep || decide (x.vals.length = 1)) && valsOk s f x.vals && (!f.hidden || (!decide ((x.vals.head?.map Val.n).getD 0 = 0) || !((x.vals.head?.map Val.s).getD [] == []))) := by
  cases x; simp only [Slot.ok, Slot.num, Slot.vals]; rfl
theorem Tree.ok_eq (s : Sch) (name : Str) (t : Tree) : t.ok s name = match s.msgAt name with
    | none => false
    | some m => slotsOk s m t.slots none [] && t.rest.all (restOK m) := by cases t; simp only [Tree.ok, Tree.slots, Tree.rest]
theorem treeOk1_one (s : Sch) (name : Str) {l : List Tree} (h : l.length = 1) : treeOk1 s name l = (l[0]'(by omega)).ok s name := by
  match l, h with
  | [t], _ => simp [treeOk1]
theorem treeOk1_no (s : Sch) (name : Str) {l : List Tree} (h : l.length ≠ 1) : treeOk1 s name l = false := by
  match l, h with
  | [], _ => simp [treeOk1]
  | _ :: _ :: _, _ => simp [treeOk1]
theorem valsOk_all (s : Sch) (f : Fld) (l : List Val) : valsOk s f l = l.all (Val.ok s f) := by
  induction l with
  | nil => simp [valsOk]
  | cons v l ih => simp [valsOk, ih]
def lastN (l : List Slot) (i : Nat) : Option Int := if h : 0 < i ∧ i ≤ l.length then some (l[i - 1]'(by omega)).num else none
theorem lastN_step {l : List Slot} {i : Nat} (h : i < l.length) : lastN l (i + 1) = some l[i].num := by
  unfold lastN; rw [dif_pos ⟨by omega, by omega⟩]; simp
theorem lastN_zero (l : List Slot) : lastN l 0 = none := by unfold lastN; simp
theorem lastN_pos {l : List Slot} {i : Nat} (h0 : 0 < i) (h : i < l.length) : lastN l i = some (l[i - 1]'(by omega)).num := by
  unfold lastN; rw [dif_pos ⟨h0, by omega⟩]
theorem Slot.ok_vals {s : Sch} {m : Msg} {x : Slot} {f : Fld} (hf : m.fix x.num = some f) : x.ok s m = (decide (0 < x.vals.length) && (f.rep || decide (x.vals.length = 1)) && x.vals.all fun v => v.ok s f && (!f.hidden || (!decide (v.n = 0) || !(v.s == [])))) := by
  rw [Slot.ok_eq, hf]
  simp only [valsOk_all]
  cases hv : x.vals with
  | nil => simp
  | cons v r =>
    cases hh : f.hidden with
    | false => simp
    | true =>
      have hr : f.rep = false := by unfold Fld.hidden at hh; simp at hh; exact hh.1.1
      cases r with
      | nil => simp [hr]; first | done | rfl
      | cons w r => simp [hr]
theorem Slot.ok_at {s : Sch} {m : Msg} {x : Slot} (h : x.ok s m = true) : decide (m.at x.num < 0) = false := by
  by_cases hd : decide (m.at x.num < 0) = true
  · rw [Slot.ok_eq, Msg.at_no hd] at h; cases h
  · simpa using hd
theorem any_count {l : List Str} {a : Str} : l.any (· == a) = decide (0 < l.count a) := by
  rw [Bool.eq_iff_iff]; simp [List.count_pos_iff]
theorem oneOf_fix {m : Msg} {x : Slot} {f : Fld} (h : m.fix x.num = some f) : m.oneOf x = f.one := by unfold Msg.oneOf; rw [h]; rfl
theorem cnt_step {m : Msg} {l : List Slot} {i : Nat} {f : List UInt8 → Int} {one : Str} (hi : i < l.length) (hf : ∀ key, f key = ((((l.take i).map m.oneOf).count key : Nat) : Int)) (ho : m.oneOf l[i] = one) (hb : i < 9223372036854775807) :
    ∀ key, (if key = one then IntKind.i64.wrap (f one + 1) else f key) = ((((l.take (i + 1)).map m.oneOf).count key : Nat) : Int) := by
  intro key
  rw [List.take_succ_eq_append_getElem hi, List.map_append, List.count_append]
  have hle : ((l.take i).map m.oneOf).count one ≤ i := by
    have := List.count_le_length (a := one) (l := (l.take i).map m.oneOf)
    rw [List.length_map, List.length_take] at this; omega
  split
  · rename_i e; subst e
    rw [hf, inc (by omega)]
    simp [ho]
  · rename_i e
    rw [hf]
    have : [l[i]].map m.oneOf = [one] := by simp [ho]
    rw [this, List.count_singleton, if_neg (by simpa using Ne.symm e)]
    simp
theorem cnt_new {m : Msg} {l : List Slot} {i : Nat} {f : List UInt8 → Int} {one : Str} (hf : ∀ key, f key = ((((l.take i).map m.oneOf).count key : Nat) : Int)) (hb : i < 9223372036854775807) :
    decide (1 < IntKind.i64.wrap (f one + 1)) = ((l.take i).map m.oneOf).any (· == one) := by
  have hle : ((l.take i).map m.oneOf).count one ≤ i := by
    have := List.count_le_length (a := one) (l := (l.take i).map m.oneOf)
    rw [List.length_map, List.length_take] at this; omega
  have key : ∀ c : Nat, decide ((1 : Int) < ((c + 1 : Nat) : Int)) = decide (0 < c) := fun c => by rw [Bool.eq_iff_iff]; simp; omega
  rw [hf, inc (by omega), any_count]
  exact key _
def slotsAt (s : Sch) (m : Msg) (l : List Slot) (i : Nat) : Bool := slotsOk s m (l.drop i) (lastN l i) ((l.take i).map m.oneOf)
theorem slotsAt_step {s : Sch} {m : Msg} {l : List Slot} {i : Nat} (h : i < l.length) : slotsAt s m l i = ((match lastN l i with | none => true | some n => decide (n < l[i].num)) && l[i].ok s m && newOne ((l.take i).map m.oneOf) (m.oneOf l[i]) && slotsAt s m l (i + 1)) := by
  unfold slotsAt
  rw [List.drop_eq_getElem_cons h, lastN_step h, List.take_succ_eq_append_getElem h, List.map_append]
  simp [slotsOk]
theorem slotsAt_end {s : Sch} {m : Msg} {l : List Slot} {i : Nat} (h : l.length ≤ i) : slotsAt s m l i = true := by
  unfold slotsAt; rw [List.drop_of_length_le h]; simp [slotsOk]
theorem slotsAt_zero (s : Sch) (m : Msg) (l : List Slot) : slotsAt s m l 0 = slotsOk s m l none [] := by
  unfold slotsAt lastN; simp
theorem rising_len : ∀ {l1 l2 : List Int}, l1.Pairwise (· < ·) → (∀ a ∈ l1, a ∈ l2) → l1.length ≤ l2.length
  | [], _, _, _ => by simp
  | a :: l1, l2, h, hs => by
    have ha : a ∈ l2 := hs a (by simp)
    have h2 := List.pairwise_cons.1 h
    have := rising_len (l1 := l1) (l2 := l2.erase a) h2.2 fun b hb => (List.mem_erase_of_ne (by have := h2.1 b hb; omega)).2 (hs b (by simp [hb]))
    rw [List.length_erase_of_mem ha] at this
    have : 0 < l2.length := List.length_pos_of_mem ha
    simp; omega
/-- the slots so far are known, and rise -/
structure goodS (m : Msg) (l : List Slot) (i : Nat) : Prop where
  le : i ≤ l.length
  kn : ∀ x ∈ l.take i, (m.fix x.num).isSome = true
  up : ((l.take i).map Slot.num).Pairwise (· < ·)
theorem goodS.zero (m : Msg) (l : List Slot) : goodS m l 0 := ⟨by omega, by simp, by simp⟩
theorem goodS.step {m : Msg} {l : List Slot} {i : Nat} (g : goodS m l i) (h : i < l.length) (hl : (match lastN l i with | none => true | some n => decide (n < l[i].num)) = true) (hf : (m.fix l[i].num).isSome = true) : goodS m l (i + 1) := by
  refine ⟨h, fun x hx => ?_, ?_⟩
  · rw [List.take_succ_eq_append_getElem h] at hx
    rcases List.mem_append.1 hx with hx | hx
    · exact g.kn x hx
    · rw [List.mem_singleton.1 hx]; exact hf
  · rw [List.take_succ_eq_append_getElem h, List.map_append, List.pairwise_append]
    refine ⟨g.up, by simp, fun a ha b hb => ?_⟩
    simp at hb
    subst hb
    by_cases h0 : 0 < i
    · rw [lastN_pos h0 h] at hl
      have hlt : (l[i - 1]'(by omega)).num < l[i].num := by simpa using hl
      obtain ⟨j, hj, rfl⟩ := List.getElem_of_mem ha
      rw [List.length_map, List.length_take] at hj
      by_cases hji : j = i - 1
      · subst hji; simpa using hlt
      · have hp := List.pairwise_iff_getElem.1 g.up j (i - 1) (by simp; omega) (by simp; omega) (by omega)
        simp at hp
        simp
        omega
    · have : i = 0 := by omega
      subst this
      simp at ha
theorem goodS.len {m : Msg} {l : List Slot} {i : Nat} (g : goodS m l i) : i ≤ m.fields.length := by
  have h1 := rising_len (l2 := m.fields.map (·.num)) g.up fun a ha => by
    obtain ⟨x, hx, rfl⟩ := List.mem_map.1 ha
    have hk := g.kn x hx
    rcases m.at_cases x.num with ⟨_, h2⟩ | ⟨q, hq, _, h2, h3⟩
    · rw [h2] at hk; cases hk
    · exact List.mem_map.2 ⟨_, List.getElem_mem hq, h3⟩
  rw [List.length_map, List.length_map, List.length_take] at h1
  have := g.le
  omega
end Go.Proofs.YtnpgcmeclkncnaaDoor.X
/- unicode/utf8.ValidString: the library's contract laid at this program. No condition. -/
namespace Go.Proofs
open Go.Shelf
def Tryd.laysVS_ren : Go.Shelf.Ren := ⟨fun | 196 => 74 | 259 => 83 | n => n, fun | 0 => 0 | 3 => 3 | 4 => 4 | 5 => 5 | 9 => 9 | 12 => 12 | 46 => 92 | 53 => 40 | 119 => 121 | 138 => 123 | 139 => 124 | n => n, fun | 3 => 0 | 4 => 1 | n => n⟩
theorem Tryd.laysVS : Go.Proofs.Lays.n196 Tryd.prog Tryd.laysVS_ren := {
  mixed := by kernel_rfl
  f196 := Tryd.func74.trans (congrArg some (by kernel_rfl))
  f259 := Tryd.func83.trans (congrArg some (by kernel_rfl))
  t0 := Tryd.underlying0
  a0 := Tryd.isAgg0
  z0 := Tryd.sizeOf0
  v0 := Tryd.zeroValue0
  t3 := Tryd.underlying3
  a3 := Tryd.isAgg3
  z3 := Tryd.sizeOf3
  v3 := Tryd.zeroValue3
  t4 := Tryd.underlying4
  a4 := Tryd.isAgg4
  z4 := Tryd.sizeOf4
  v4 := Tryd.zeroValue4
  t5 := Tryd.underlying5
  a5 := Tryd.isAgg5
  z5 := Tryd.sizeOf5
  v5 := Tryd.zeroValue5
  t9 := Tryd.underlying9
  a9 := Tryd.isAgg9
  z9 := Tryd.sizeOf9
  v9 := Tryd.zeroValue9
  t12 := Tryd.underlying12
  a12 := Tryd.isAgg12
  z12 := Tryd.sizeOf12
  v12 := Tryd.zeroValue12
  t46 := Tryd.underlying92
  a46 := Tryd.isAgg92
  z46 := Tryd.sizeOf92
  v46 := Tryd.zeroValue92
  t53 := Tryd.underlying40
  a53 := Tryd.isAgg40
  z53 := Tryd.sizeOf40
  v53 := Tryd.zeroValue40
  t119 := Tryd.underlying121
  a119 := Tryd.isAgg121
  z119 := Tryd.sizeOf121
  t138 := Tryd.underlying123
  a138 := Tryd.isAgg123
  z138 := Tryd.sizeOf123
  v138 := Tryd.zeroValue123
  t139 := Tryd.underlying124
  a139 := Tryd.isAgg124
  z139 := Tryd.sizeOf124
  v139 := Tryd.zeroValue124
  g3 := by kernel_rfl
  g4 := by kernel_rfl }
end Go.Proofs
namespace Go.Proofs.YtnpgcmeclkncnaaDoor.X
open Go Go.RowKit Go.Proofs
theorem p_validS (s : Str) (hs : s.length ≤ 9223372036854775807) : Pure Tryd.prog 74 [.str s] (.bool (Lib.validD s)) :=
  Pure.of_calls fun G w cargs hg hn hk hV => by
    obtain ⟨x, rfl, hx⟩ := hV.one
    have e := hx.str_eq
    subst e
    refine (Any.utf8_ValidString Tryd.laysVS ⟨s.toArray⟩ w (by simpa [ByteArray.size] using hs) hg).mono ?_
    rintro e w' ⟨rfl, hb⟩
    exact ⟨_, rfl, .bool _, hb⟩
end Go.Proofs.YtnpgcmeclkncnaaDoor.X
/- the document: names, numbers, types, fields. -/
set_option linter.unusedVariables false
set_option linter.unusedSimpArgs false
set_option linter.unusedSectionVars false
set_option maxRecDepth 100000
namespace Go.Proofs.YtnpgcmeclkncnaaDoor.X
open Go Go.RowKit Go.Proofs
theorem fn30_M1 : isFn Tryd.prog 30 = true := by kernel_rfl
theorem r_wholeT (n : Int) : Pure Tryd.prog 30 [.int .i64 n] (.bool (wholeT n)) := by
  refine Pure.of_tri Tryd.func30 rfl rfl (ltb rfl) fun H => ?_
  refine Tri.seq ?_
  refine Tri.region ?_
  refine TriL.c1 rfl (op_as (ltb rfl) rfl) ?_
  refine TriL.nil ?_
  refine Tri.seq ?_
  refine Tri.region ?_
  refine TriL.c1 rfl (op_mv (ltb rfl) rfl) ?_
  refine TriL.c1 rfl (op_bin (ltb rfl) rfl rfl rfl) ?_
  refine TriL.c1 rfl (op_mv (ltb rfl) rfl) ?_
  refine TriL.split (d := 5) rfl (fun hg1 => ?_) (fun hg1 => ?_)
  · refine TriL.g1 rfl (ltb rfl) rfl hg1 (op_mv (ltb rfl) rfl) ?_
    refine TriL.g1 rfl (ltb rfl) rfl hg1 (op_bin (ltb rfl) rfl rfl rfl) ?_
    refine TriL.c1 rfl (op_pickt (ltb rfl) rfl hg1 rfl) ?_
    refine TriL.c1 rfl (op_mv (ltb rfl) rfl) ?_
    refine TriL.split (d := 9) rfl (fun hg2 => ?_) (fun hg2 => ?_)
    · refine TriL.skipu rfl rfl (ltb rfl) (ltb rfl) rfl hg2 ?_
      refine TriL.skipu rfl rfl (ltb rfl) (ltb rfl) rfl hg2 ?_
      refine TriL.skipu rfl rfl (ltb rfl) (ltb rfl) rfl hg2 ?_
      refine TriL.skipg rfl rfl (ltb rfl) (ltb rfl) rfl ?_
      refine TriL.skipg rfl rfl (ltb rfl) (ltb rfl) rfl ?_
      refine TriL.skipu rfl rfl (ltb rfl) (ltb rfl) rfl hg2 ?_
      refine TriL.c1 rfl (op_pickt (ltb rfl) rfl hg2 rfl) ?_
      refine TriL.c1 rfl (op_as (ltb rfl) rfl) ?_
      refine TriL.nil ?_
      refine Tri.ret ?_
      exact ⟨.inr rfl, (ResOK.r1 rfl (.tmp rfl .nil)).cast (congrArg AV.bool (by grind [wholeT])), rfl⟩
    · refine TriL.g1 rfl (ltb rfl) rfl hg2 (op_mv (ltb rfl) rfl) ?_
      refine TriL.g1 rfl (ltb rfl) rfl hg2 (op_bin (ltb rfl) rfl rfl rfl) ?_
      refine TriL.g1 rfl (ltb rfl) rfl hg2 (op_mv (ltb rfl) rfl) ?_
      refine TriL.split (d := 12) rfl (fun hg3 => ?_) (fun hg3 => ?_)
      · refine TriL.g1 rfl (ltb rfl) rfl hg3 (op_mv (ltb rfl) rfl) ?_
        refine TriL.g1 rfl (ltb rfl) rfl hg3 (op_bin (ltb rfl) rfl rfl rfl) ?_
        refine TriL.g1 rfl (ltb rfl) rfl hg2 (op_pickt (ltb rfl) rfl hg3 rfl) ?_
        refine TriL.c1 rfl (op_pickf (ltb rfl) rfl hg2 rfl) ?_
        refine TriL.c1 rfl (op_as (ltb rfl) rfl) ?_
        refine TriL.nil ?_
        refine Tri.ret ?_
        exact ⟨.inr rfl, (ResOK.r1 rfl (.tmp rfl .nil)).cast (congrArg AV.bool (by grind [wholeT])), rfl⟩
      · refine TriL.skipu rfl rfl (ltb rfl) (ltb rfl) rfl hg3 ?_
        refine TriL.skipu rfl rfl (ltb rfl) (ltb rfl) rfl hg3 ?_
        refine TriL.g1 rfl (ltb rfl) rfl hg2 (op_pickf (ltb rfl) rfl hg3 rfl) ?_
        refine TriL.c1 rfl (op_pickf (ltb rfl) rfl hg2 rfl) ?_
        refine TriL.c1 rfl (op_as (ltb rfl) rfl) ?_
        refine TriL.nil ?_
        refine Tri.ret ?_
        exact ⟨.inr rfl, (ResOK.r1 rfl (.tmp rfl .nil)).cast (congrArg AV.bool (by grind [wholeT])), rfl⟩
  · refine TriL.skipu rfl rfl (ltb rfl) (ltb rfl) rfl hg1 ?_
    refine TriL.skipu rfl rfl (ltb rfl) (ltb rfl) rfl hg1 ?_
    refine TriL.c1 rfl (op_pickf (ltb rfl) rfl hg1 rfl) ?_
    refine TriL.c1 rfl (op_mv (ltb rfl) rfl) ?_
    refine TriL.g1 rfl (ltb rfl) rfl rfl (op_mv (ltb rfl) rfl) ?_
    refine TriL.g1 rfl (ltb rfl) rfl rfl (op_bin (ltb rfl) rfl rfl rfl) ?_
    refine TriL.g1 rfl (ltb rfl) rfl rfl (op_mv (ltb rfl) rfl) ?_
    refine TriL.split (d := 12) rfl (fun hg4 => ?_) (fun hg4 => ?_)
    · refine TriL.g1 rfl (ltb rfl) rfl hg4 (op_mv (ltb rfl) rfl) ?_
      refine TriL.g1 rfl (ltb rfl) rfl hg4 (op_bin (ltb rfl) rfl rfl rfl) ?_
      refine TriL.g1 rfl (ltb rfl) rfl rfl (op_pickt (ltb rfl) rfl hg4 rfl) ?_
      refine TriL.c1 rfl (op_pickf (ltb rfl) rfl rfl rfl) ?_
      refine TriL.c1 rfl (op_as (ltb rfl) rfl) ?_
      refine TriL.nil ?_
      refine Tri.ret ?_
      exact ⟨.inr rfl, (ResOK.r1 rfl (.tmp rfl .nil)).cast (congrArg AV.bool (by grind [wholeT])), rfl⟩
    · refine TriL.skipu rfl rfl (ltb rfl) (ltb rfl) rfl hg4 ?_
      refine TriL.skipu rfl rfl (ltb rfl) (ltb rfl) rfl hg4 ?_
      refine TriL.g1 rfl (ltb rfl) rfl rfl (op_pickf (ltb rfl) rfl hg4 rfl) ?_
      refine TriL.c1 rfl (op_pickf (ltb rfl) rfl rfl rfl) ?_
      refine TriL.c1 rfl (op_as (ltb rfl) rfl) ?_
      refine TriL.nil ?_
      refine Tri.ret ?_
      exact ⟨.inr rfl, (ResOK.r1 rfl (.tmp rfl .nil)).cast (congrArg AV.bool (by grind [wholeT])), rfl⟩
theorem r_numT (n : Int) : Pure Tryd.prog 12 [.int .i64 n] (.bool (numT n)) := by
  refine Pure.of_tri Tryd.func12 rfl rfl (ltb rfl) fun H => ?_
  refine Tri.seq ?_
  refine Tri.region ?_
  refine TriL.c1 rfl (op_as (ltb rfl) rfl) ?_
  refine TriL.nil ?_
  refine Tri.seq ?_
  refine Tri.region ?_
  refine TriL.c1 rfl (op_mv (ltb rfl) rfl) ?_
  refine TriL.c1 rfl (op_call (ltb rfl) fn30_M1 rfl (r_wholeT _)) ?_
  refine TriL.c1 rfl (op_mv (ltb rfl) rfl) ?_
  refine TriL.split (d := 5) rfl (fun hg1 => ?_) (fun hg1 => ?_)
  · refine TriL.skipu rfl rfl (ltb rfl) (ltb rfl) rfl hg1 ?_
    refine TriL.skipu rfl rfl (ltb rfl) (ltb rfl) rfl hg1 ?_
    refine TriL.c1 rfl (op_pickt (ltb rfl) rfl hg1 rfl) ?_
    refine TriL.c1 rfl (op_mv (ltb rfl) rfl) ?_
    refine TriL.skipu rfl rfl (ltb rfl) (ltb rfl) rfl rfl ?_
    refine TriL.skipu rfl rfl (ltb rfl) (ltb rfl) rfl rfl ?_
    refine TriL.c1 rfl (op_pickt (ltb rfl) rfl rfl rfl) ?_
    refine TriL.c1 rfl (op_as (ltb rfl) rfl) ?_
    refine TriL.nil ?_
    refine Tri.ret ?_
    exact ⟨.inr rfl, (ResOK.r1 rfl (.tmp rfl .nil)).cast (congrArg AV.bool (by grind [numT])), rfl⟩
  · refine TriL.g1 rfl (ltb rfl) rfl hg1 (op_mv (ltb rfl) rfl) ?_
    refine TriL.g1 rfl (ltb rfl) rfl hg1 (op_bin (ltb rfl) rfl rfl rfl) ?_
    refine TriL.c1 rfl (op_pickf (ltb rfl) rfl hg1 rfl) ?_
    refine TriL.c1 rfl (op_mv (ltb rfl) rfl) ?_
    refine TriL.split (d := 9) rfl (fun hg2 => ?_) (fun hg2 => ?_)
    · refine TriL.skipu rfl rfl (ltb rfl) (ltb rfl) rfl hg2 ?_
      refine TriL.skipu rfl rfl (ltb rfl) (ltb rfl) rfl hg2 ?_
      refine TriL.c1 rfl (op_pickt (ltb rfl) rfl hg2 rfl) ?_
      refine TriL.c1 rfl (op_as (ltb rfl) rfl) ?_
      refine TriL.nil ?_
      refine Tri.ret ?_
      exact ⟨.inr rfl, (ResOK.r1 rfl (.tmp rfl .nil)).cast (congrArg AV.bool (by grind [numT])), rfl⟩
    · refine TriL.g1 rfl (ltb rfl) rfl hg2 (op_mv (ltb rfl) rfl) ?_
      refine TriL.g1 rfl (ltb rfl) rfl hg2 (op_bin (ltb rfl) rfl rfl rfl) ?_
      refine TriL.c1 rfl (op_pickf (ltb rfl) rfl hg2 rfl) ?_
      refine TriL.c1 rfl (op_as (ltb rfl) rfl) ?_
      refine TriL.nil ?_
      refine Tri.ret ?_
      exact ⟨.inr rfl, (ResOK.r1 rfl (.tmp rfl .nil)).cast (congrArg AV.bool (by grind [numT])), rfl⟩
theorem r_wireT (n : Int) : Pure Tryd.prog 14 [.int .i64 n] (.int .i64 (wireT n)) := by
  refine Pure.of_tri Tryd.func14 rfl rfl (ltb rfl) fun H => ?_
  refine Tri.seq ?_
  refine Tri.region ?_
  refine TriL.c1 rfl (op_as (ltb rfl) rfl) ?_
  refine TriL.nil ?_
  refine Tri.seq ?_
  refine Tri.seq ?_
  refine Tri.region ?_
  refine TriL.c1 rfl (op_mv (ltb rfl) rfl) ?_
  refine TriL.nil ?_
  refine Tri.blk ?_
  refine Tri.seq ?_
  refine Tri.seq ?_
  refine Tri.region ?_
  refine TriL.c1 rfl (op_bin (ltb rfl) rfl rfl rfl) ?_
  refine TriL.c1 rfl (op_as (ltb rfl) rfl) ?_
  refine TriL.nil ?_
  refine Tri.cond rfl (fun hc1 => ?_) (fun hc1 => ?_)
  · refine Tri.skip ?_
    refine Tri.condT rfl hc1 ?_
    refine Tri.seq ?_
    refine Tri.region ?_
    refine TriL.c1 rfl (op_as (ltb rfl) rfl) ?_
    refine TriL.nil ?_
    refine Tri.ret ?_
    exact ⟨.inr rfl, (ResOK.r1 rfl (.tmp rfl .nil)).cast (congrArg (AV.int .i64) (by grind [wireT])), rfl⟩
  · -- region 3 ref.go:33
    refine Tri.region ?_
    refine TriL.c1 rfl (op_bin (ltb rfl) rfl rfl rfl) ?_
    refine TriL.c1 rfl (op_as (ltb rfl) rfl) ?_
    refine TriL.nil ?_
    refine Tri.cond rfl (fun hc2 => ?_) (fun hc2 => ?_)
    · refine Tri.seq ?_
      refine Tri.region ?_
      refine TriL.c1 rfl (op_as (ltb rfl) rfl) ?_
      refine TriL.nil ?_
      refine Tri.ret ?_
      exact ⟨.inr rfl, (ResOK.r1 rfl (.tmp rfl .nil)).cast (congrArg (AV.int .i64) (by grind [wireT])), rfl⟩
    · refine Tri.seq ?_
      refine Tri.seq ?_
      refine Tri.region ?_
      refine TriL.c1 rfl (op_bin (ltb rfl) rfl rfl rfl) ?_
      refine TriL.c1 rfl (op_as (ltb rfl) rfl) ?_
      refine TriL.nil ?_
      refine Tri.cond rfl (fun hc3 => ?_) (fun hc3 => ?_)
      · refine Tri.skip ?_
        refine Tri.condT rfl hc3 ?_
        refine Tri.seq ?_
        refine Tri.region ?_
        refine TriL.c1 rfl (op_as (ltb rfl) rfl) ?_
        refine TriL.nil ?_
        refine Tri.ret ?_
        exact ⟨.inr rfl, (ResOK.r1 rfl (.tmp rfl .nil)).cast (congrArg (AV.int .i64) (by grind [wireT])), rfl⟩
      · -- region 6 ref.go:35
        refine Tri.region ?_
        refine TriL.c1 rfl (op_bin (ltb rfl) rfl rfl rfl) ?_
        refine TriL.c1 rfl (op_as (ltb rfl) rfl) ?_
        refine TriL.nil ?_
        refine Tri.cond rfl (fun hc4 => ?_) (fun hc4 => ?_)
        · refine Tri.seq ?_
          refine Tri.region ?_
          refine TriL.c1 rfl (op_as (ltb rfl) rfl) ?_
          refine TriL.nil ?_
          refine Tri.ret ?_
          exact ⟨.inr rfl, (ResOK.r1 rfl (.tmp rfl .nil)).cast (congrArg (AV.int .i64) (by grind [wireT])), rfl⟩
        · refine Tri.seq ?_
          refine Tri.seq ?_
          refine Tri.region ?_
          refine TriL.c1 rfl (op_bin (ltb rfl) rfl rfl rfl) ?_
          refine TriL.c1 rfl (op_as (ltb rfl) rfl) ?_
          refine TriL.nil ?_
          refine Tri.cond rfl (fun hc5 => ?_) (fun hc5 => ?_)
          · refine Tri.skip ?_
            refine Tri.condT rfl hc5 ?_
            refine Tri.seq ?_
            refine Tri.region ?_
            refine TriL.c1 rfl (op_as (ltb rfl) rfl) ?_
            refine TriL.nil ?_
            refine Tri.ret ?_
            exact ⟨.inr rfl, (ResOK.r1 rfl (.tmp rfl .nil)).cast (congrArg (AV.int .i64) (by grind [wireT])), rfl⟩
          · refine Tri.seq ?_
            refine Tri.region ?_
            refine TriL.c1 rfl (op_bin (ltb rfl) rfl rfl rfl) ?_
            refine TriL.c1 rfl (op_as (ltb rfl) rfl) ?_
            refine TriL.nil ?_
            refine Tri.cond rfl (fun hc6 => ?_) (fun hc6 => ?_)
            · refine Tri.skip ?_
              refine Tri.condT rfl hc6 ?_
              refine Tri.seq ?_
              refine Tri.region ?_
              refine TriL.c1 rfl (op_as (ltb rfl) rfl) ?_
              refine TriL.nil ?_
              refine Tri.ret ?_
              exact ⟨.inr rfl, (ResOK.r1 rfl (.tmp rfl .nil)).cast (congrArg (AV.int .i64) (by grind [wireT])), rfl⟩
            · -- region 10 ref.go:37
              refine Tri.region ?_
              refine TriL.c1 rfl (op_bin (ltb rfl) rfl rfl rfl) ?_
              refine TriL.c1 rfl (op_as (ltb rfl) rfl) ?_
              refine TriL.nil ?_
              refine Tri.cond rfl (fun hc7 => ?_) (fun hc7 => ?_)
              · refine Tri.seq ?_
                refine Tri.region ?_
                refine TriL.c1 rfl (op_as (ltb rfl) rfl) ?_
                refine TriL.nil ?_
                refine Tri.ret ?_
                exact ⟨.inr rfl, (ResOK.r1 rfl (.tmp rfl .nil)).cast (congrArg (AV.int .i64) (by grind [wireT])), rfl⟩
              · refine Tri.skip ?_
                refine Tri.seq ?_
                refine Tri.region ?_
                refine TriL.c1 rfl (op_as (ltb rfl) rfl) ?_
                refine TriL.nil ?_
                refine Tri.ret ?_
                exact ⟨.inr rfl, (ResOK.r1 rfl (.tmp rfl .nil)).cast (congrArg (AV.int .i64) (by grind [wireT])), rfl⟩
end Go.Proofs.YtnpgcmeclkncnaaDoor.X
/- the document: names, lists, fields. -/
set_option linter.unusedVariables false
set_option linter.unusedSimpArgs false
set_option linter.unusedSectionVars false
set_option maxRecDepth 100000
namespace Go.Proofs.YtnpgcmeclkncnaaDoor.X
open Go Go.RowKit Go.Proofs
end Go.Proofs.YtnpgcmeclkncnaaDoor.X
/- the document: what is asked of a schema. -/
set_option linter.unusedVariables false
set_option linter.unusedSimpArgs false
set_option linter.unusedSectionVars false
set_option maxRecDepth 100000
namespace Go.Proofs.YtnpgcmeclkncnaaDoor.X
open Go Go.RowKit Go.Proofs
end Go.Proofs.YtnpgcmeclkncnaaDoor.X
/- the document: names that stand twice, order, what is asked of a schema. -/
set_option linter.unusedVariables false
set_option linter.unusedSimpArgs false
set_option linter.unusedSectionVars false
set_option maxRecDepth 100000
namespace Go.Proofs.YtnpgcmeclkncnaaDoor.X
open Go Go.RowKit Go.Proofs
end Go.Proofs.YtnpgcmeclkncnaaDoor.X
/- the document: a schema checked; values: how great, the same, how deep. -/
set_option linter.unusedVariables false
set_option linter.unusedSimpArgs false
set_option linter.unusedSectionVars false
set_option maxRecDepth 100000
namespace Go.Proofs.YtnpgcmeclkncnaaDoor.X
open Go Go.RowKit Go.Proofs
end Go.Proofs.YtnpgcmeclkncnaaDoor.X
/- the document: values: the same, how deep. -/
set_option linter.unusedVariables false
set_option linter.unusedSimpArgs false
set_option linter.unusedSectionVars false
set_option maxRecDepth 100000
set_option maxHeartbeats 400000
namespace Go.Proofs.YtnpgcmeclkncnaaDoor.X
open Go Go.RowKit Go.Proofs
end Go.Proofs.YtnpgcmeclkncnaaDoor.X
/- numbers of types, in the program and in the document. -/
set_option linter.unusedVariables false
set_option linter.unusedSimpArgs false
set_option linter.unusedSectionVars false
set_option maxRecDepth 100000
namespace Go.Proofs.YtnpgcmeclkncnaaDoor.X
open Go Go.RowKit Go.Proofs
theorem asz86_M7 : asz Tryd.prog 86 = some (16, 3, 1) := by kernel_rfl
theorem fn10_M7 : isFn Tryd.prog 10 = true := by kernel_rfl
theorem fn12_M7 : isFn Tryd.prog 12 = true := by kernel_rfl
theorem fn24_M7 : isFn Tryd.prog 24 = true := by kernel_rfl
theorem fn31_M7 : isFn Tryd.prog 31 = true := by kernel_rfl
theorem fn45_M7 : isFn Tryd.prog 45 = true := by kernel_rfl
theorem fn46_M7 : isFn Tryd.prog 46 = true := by kernel_rfl
theorem fn58_M7 : isFn Tryd.prog 58 = true := by kernel_rfl
theorem fn59_M7 : isFn Tryd.prog 59 = true := by kernel_rfl
theorem fn60_M7 : isFn Tryd.prog 60 = true := by kernel_rfl
theorem fn61_M7 : isFn Tryd.prog 61 = true := by kernel_rfl
theorem fn79_M7 : isFn Tryd.prog 79 = true := by kernel_rfl
theorem fn80_M7 : isFn Tryd.prog 80 = true := by kernel_rfl
theorem fn81_M7 : isFn Tryd.prog 81 = true := by kernel_rfl
theorem fn82_M7 : isFn Tryd.prog 82 = true := by kernel_rfl
theorem lk3_M7 : lk Tryd.prog 3 = some (false, 1) := by kernel_rfl
theorem un104_M7 : Tryd.prog.underlying 104 = some (TypeDesc.int IntKind.u64) := Tryd.underlying104
theorem un2_M7 : Tryd.prog.underlying 2 = some (TypeDesc.int IntKind.i64) := Tryd.underlying2
theorem un21_M7 : Tryd.prog.underlying 21 = some (TypeDesc.int IntKind.i32) := Tryd.underlying21
theorem un40_M7 : Tryd.prog.underlying 40 = some (TypeDesc.int IntKind.u64) := Tryd.underlying40
theorem un70_M7 : Tryd.prog.underlying 70 = some (TypeDesc.int IntKind.u32) := Tryd.underlying70
theorem zA86_M7 : zeroA Tryd.prog 86 = some [AV.int IntKind.i64 (0), AV.int IntKind.i64 (0), AV.int IntKind.i64 (0), AV.int IntKind.i64 (0), AV.int IntKind.i64 (0), AV.int IntKind.i64 (0), AV.int IntKind.i64 (0), AV.int IntKind.i64 (0), AV.int IntKind.i64 (0), AV.int IntKind.i64 (0), AV.int IntKind.i64 (0), AV.int IntKind.i64 (0), AV.int IntKind.i64 (0), AV.int IntKind.i64 (0), AV.int IntKind.i64 (0), AV.int IntKind.i64 (0)] := by kernel_rfl
theorem r_zig (z : Int) (h0 : -9223372036854775808 ≤ z) (h1 : z < 9223372036854775808) : Pure Tryd.prog 31 [.int .i64 z] (.int .u64 (zigT z : Int)) := by
  refine Pure.of_tri Tryd.func31 rfl rfl (ltb rfl) fun H => ?_
  refine Tri.seq ?_
  refine Tri.region ?_
  refine TriL.c1 rfl (op_as (ltb rfl) rfl) ?_
  refine TriL.nil ?_
  refine Tri.seq ?_
  refine Tri.seq ?_
  refine Tri.region ?_
  refine TriL.c1 rfl (op_mv (ltb rfl) rfl) ?_
  refine TriL.c1 rfl (op_bin (ltb rfl) rfl rfl rfl) ?_
  refine TriL.nil ?_
  refine Tri.cond rfl (fun hc1 => ?_) (fun hc1 => ?_)
  · refine Tri.seq ?_
    refine Tri.region ?_
    refine TriL.c1 rfl (op_mv (ltb rfl) rfl) ?_
    refine TriL.c1 rfl (op_cvi (ltb rfl) un2_M7 un40_M7 rfl) ?_
    refine TriL.c1 rfl (op_bin (ltb rfl) rfl rfl rfl) ?_
    refine TriL.c1 rfl (op_as (ltb rfl) rfl) ?_
    refine TriL.nil ?_
    refine Tri.ret ?_
    exact ⟨.inr rfl, (ResOK.r1 rfl (.tmp rfl .nil)).cast (congrArg (AV.int .u64) (by rw [zigT, if_pos (of_decide_eq_true hc1)]; have := of_decide_eq_true hc1; simp only [IntKind.wrap, IntKind.bits, IntKind.signed]; simp; omega)), rfl⟩
  · refine Tri.skip ?_
    refine Tri.seq ?_
    refine Tri.region ?_
    refine TriL.c1 rfl (op_mv (ltb rfl) rfl) ?_
    refine TriL.c1 rfl (op_bin (ltb rfl) rfl rfl rfl) ?_
    refine TriL.c1 rfl (op_un (ltb rfl) rfl rfl) ?_
    refine TriL.c1 rfl (op_cvi (ltb rfl) un2_M7 un40_M7 rfl) ?_
    refine TriL.c1 rfl (op_bin (ltb rfl) rfl rfl rfl) ?_
    refine TriL.c1 rfl (op_bin (ltb rfl) rfl rfl rfl) ?_
    refine TriL.c1 rfl (op_as (ltb rfl) rfl) ?_
    refine TriL.nil ?_
    refine Tri.ret ?_
    exact ⟨.inr rfl, (ResOK.r1 rfl (.tmp rfl .nil)).cast (congrArg (AV.int .u64) (by rw [zigT, if_neg (of_decide_eq_false hc1)]; have := of_decide_eq_false hc1; simp only [IntKind.wrap, IntKind.bits, IntKind.signed]; simp; omega)), rfl⟩
theorem r_to (t : Int) (n : Nat) (hn : n < 18446744073709551616) : Pure Tryd.prog 13 [.int .i64 t, .int .u64 (n : Int)] (.int .u64 (toT t n : Int)) := by
  have := s64_range hn
  refine Pure.of_tri Tryd.func13 rfl rfl (ltb rfl) fun H => ?_
  refine Tri.seq ?_
  refine Tri.region ?_
  refine TriL.c1 rfl (op_as (ltb rfl) rfl) ?_
  refine TriL.nil ?_
  refine Tri.seq ?_
  refine Tri.seq ?_
  refine Tri.region ?_
  refine TriL.c1 rfl (op_mv (ltb rfl) rfl) ?_
  refine TriL.nil ?_
  refine Tri.blk ?_
  refine Tri.seq ?_
  refine Tri.seq ?_
  refine Tri.region ?_
  refine TriL.c1 rfl (op_bin (ltb rfl) rfl rfl rfl) ?_
  refine TriL.c1 rfl (op_as (ltb rfl) rfl) ?_
  refine TriL.nil ?_
  refine Tri.cond rfl (fun hc1 => ?_) (fun hc1 => ?_)
  · refine Tri.skip ?_
    refine Tri.condT rfl hc1 ?_
    refine Tri.seq ?_
    refine Tri.region ?_
    refine TriL.c1 rfl (op_mv (ltb rfl) rfl) ?_
    refine TriL.c1 rfl (op_bin (ltb rfl) rfl rfl rfl) ?_
    refine TriL.c1 rfl (op_as (ltb rfl) rfl) ?_
    refine TriL.nil ?_
    refine Tri.ret ?_
    exact ⟨.inr rfl, (ResOK.r1 rfl (.tmp rfl .nil)).cast (congrArg (AV.int .u64) (by grind [toT, s64])), rfl⟩
  · refine Tri.seq ?_
    refine Tri.region ?_
    refine TriL.c1 rfl (op_bin (ltb rfl) rfl rfl rfl) ?_
    refine TriL.c1 rfl (op_as (ltb rfl) rfl) ?_
    refine TriL.nil ?_
    refine Tri.cond rfl (fun hc2 => ?_) (fun hc2 => ?_)
    · refine Tri.skip ?_
      refine Tri.condT rfl hc2 ?_
      refine Tri.seq ?_
      refine Tri.region ?_
      refine TriL.c1 rfl (op_mv (ltb rfl) rfl) ?_
      refine TriL.c1 rfl (op_bin (ltb rfl) rfl rfl rfl) ?_
      refine TriL.c1 rfl (op_as (ltb rfl) rfl) ?_
      refine TriL.nil ?_
      refine Tri.ret ?_
      exact ⟨.inr rfl, (ResOK.r1 rfl (.tmp rfl .nil)).cast (congrArg (AV.int .u64) (by grind [toT, s64])), rfl⟩
    · -- region 4 ref.go:35
      refine Tri.region ?_
      refine TriL.c1 rfl (op_bin (ltb rfl) rfl rfl rfl) ?_
      refine TriL.c1 rfl (op_as (ltb rfl) rfl) ?_
      refine TriL.nil ?_
      refine Tri.cond rfl (fun hc3 => ?_) (fun hc3 => ?_)
      · refine Tri.seq ?_
        refine Tri.region ?_
        refine TriL.c1 rfl (op_mv (ltb rfl) rfl) ?_
        refine TriL.c1 rfl (op_bin (ltb rfl) rfl rfl rfl) ?_
        refine TriL.c1 rfl (op_as (ltb rfl) rfl) ?_
        refine TriL.nil ?_
        refine Tri.ret ?_
        exact ⟨.inr rfl, (ResOK.r1 rfl (.tmp rfl .nil)).cast (congrArg (AV.int .u64) (by grind [toT, s64])), rfl⟩
      · refine Tri.seq ?_
        refine Tri.seq ?_
        refine Tri.region ?_
        refine TriL.c1 rfl (op_bin (ltb rfl) rfl rfl rfl) ?_
        refine TriL.c1 rfl (op_as (ltb rfl) rfl) ?_
        refine TriL.nil ?_
        refine Tri.cond rfl (fun hc4 => ?_) (fun hc4 => ?_)
        · refine Tri.skip ?_
          refine Tri.condT rfl hc4 ?_
          refine Tri.seq ?_
          refine Tri.region ?_
          refine TriL.c1 rfl (op_mv (ltb rfl) rfl) ?_
          refine TriL.c1 rfl (op_cvi (ltb rfl) un40_M7 un2_M7 rfl) ?_
          refine TriL.c1 rfl (op_call (ltb rfl) fn31_M7 rfl (r_zig _ this.1 this.2)) ?_
          refine TriL.c1 rfl (op_as (ltb rfl) rfl) ?_
          refine TriL.nil ?_
          refine Tri.ret ?_
          exact ⟨.inr rfl, (ResOK.r1 rfl (.tmp rfl .nil)).cast (congrArg (AV.int .u64) (by grind [toT, s64])), rfl⟩
        · -- region 7 ref.go:37
          refine Tri.region ?_
          refine TriL.c1 rfl (op_bin (ltb rfl) rfl rfl rfl) ?_
          refine TriL.c1 rfl (op_as (ltb rfl) rfl) ?_
          refine TriL.nil ?_
          refine Tri.cond rfl (fun hc5 => ?_) (fun hc5 => ?_)
          · refine Tri.seq ?_
            refine Tri.region ?_
            refine TriL.c1 rfl (op_mv (ltb rfl) rfl) ?_
            refine TriL.c1 rfl (op_cvi (ltb rfl) un40_M7 un2_M7 rfl) ?_
            refine TriL.c1 rfl (op_call (ltb rfl) fn31_M7 rfl (r_zig _ this.1 this.2)) ?_
            refine TriL.c1 rfl (op_as (ltb rfl) rfl) ?_
            refine TriL.nil ?_
            refine Tri.ret ?_
            exact ⟨.inr rfl, (ResOK.r1 rfl (.tmp rfl .nil)).cast (congrArg (AV.int .u64) (by grind [toT, s64])), rfl⟩
          · refine Tri.skip ?_
            refine Tri.seq ?_
            refine Tri.seq ?_
            refine Tri.region ?_
            refine TriL.c1 rfl (op_mv (ltb rfl) rfl) ?_
            refine TriL.c1 rfl (op_call (ltb rfl) fn12_M7 rfl (r_numT _)) ?_
            refine TriL.nil ?_
            refine Tri.cond rfl (fun hc6 => ?_) (fun hc6 => ?_)
            · refine Tri.seq ?_
              refine Tri.region ?_
              refine TriL.c1 rfl (op_mv (ltb rfl) rfl) ?_
              refine TriL.c1 rfl (op_as (ltb rfl) rfl) ?_
              refine TriL.nil ?_
              refine Tri.ret ?_
              exact ⟨.inr rfl, (ResOK.r1 rfl (.tmp rfl .nil)).cast (congrArg (AV.int .u64) (by grind [toT, s64])), rfl⟩
            · refine Tri.skip ?_
              refine Tri.seq ?_
              refine Tri.region ?_
              refine TriL.c1 rfl (op_as (ltb rfl) rfl) ?_
              refine TriL.nil ?_
              refine Tri.ret ?_
              exact ⟨.inr rfl, (ResOK.r1 rfl (.tmp rfl .nil)).cast (congrArg (AV.int .u64) (by grind [toT, s64])), rfl⟩
theorem p_kind (t : Int) : Pure Tryd.prog 24 [.int .i64 t] (.int .i64 (kindT t)) := by
  refine Pure.of_tri Tryd.func24 rfl rfl (ltb rfl) fun H => ?_
  refine Tri.seq ?_
  refine Tri.region ?_
  refine TriL.c1 rfl (op_as (ltb rfl) rfl) ?_
  refine TriL.nil ?_
  refine Tri.seq ?_
  refine Tri.seq ?_
  refine Tri.region ?_
  refine TriL.c1 rfl (op_mv (ltb rfl) rfl) ?_
  refine TriL.c1 rfl (op_bin (ltb rfl) rfl rfl rfl) ?_
  refine TriL.c1 rfl (op_mv (ltb rfl) rfl) ?_
  refine TriL.split (d := 5) rfl (fun hg1 => ?_) (fun hg1 => ?_)
  · refine TriL.skipu rfl rfl (ltb rfl) (ltb rfl) rfl hg1 ?_
    refine TriL.skipu rfl rfl (ltb rfl) (ltb rfl) rfl hg1 ?_
    refine TriL.c1 rfl (op_pickt (ltb rfl) rfl hg1 rfl) ?_
    refine TriL.nil ?_
    refine Tri.condT rfl rfl ?_
    refine Tri.seq ?_
    refine Tri.region ?_
    refine TriL.c1 rfl (op_as (ltb rfl) rfl) ?_
    refine TriL.nil ?_
    refine Tri.ret ?_
    exact ⟨.inr rfl, (ResOK.r1 rfl (.tmp rfl .nil)).cast (congrArg (AV.int .i64) (by grind [kindT_out])), rfl⟩
  · refine TriL.g1 rfl (ltb rfl) rfl hg1 (op_mv (ltb rfl) rfl) ?_
    refine TriL.g1 rfl (ltb rfl) rfl hg1 (op_bin (ltb rfl) rfl rfl rfl) ?_
    refine TriL.c1 rfl (op_pickf (ltb rfl) rfl hg1 rfl) ?_
    refine TriL.nil ?_
    refine Tri.cond rfl (fun hc2 => ?_) (fun hc2 => ?_)
    · refine Tri.seq ?_
      refine Tri.region ?_
      refine TriL.c1 rfl (op_as (ltb rfl) rfl) ?_
      refine TriL.nil ?_
      refine Tri.ret ?_
      exact ⟨.inr rfl, (ResOK.r1 rfl (.tmp rfl .nil)).cast (congrArg (AV.int .i64) (by grind [kindT_out])), rfl⟩
    · refine Tri.skip ?_
      refine Tri.seq ?_
      refine Tri.region ?_
      refine TriL.c1 rfl (op_blda (ltb rfl) asz86_M7 zA86_M7 rfl rfl) ?_
      refine TriL.c1 rfl (op_mv (ltb rfl) rfl) ?_
      refine TriL.c1 rfl (op_ixa (ltb rfl) asz86_M7 lk3_M7 rfl rfl (by grind) (by grind) (kind_cell (by grind) (by grind))) ?_
      refine TriL.c1 rfl (op_as (ltb rfl) rfl) ?_
      refine TriL.nil ?_
      refine Tri.ret ?_
      exact ⟨.inr rfl, (ResOK.r1 rfl (.tmp rfl .nil)).cast (congrArg (AV.int .i64) (by grind [kindT_out])), rfl⟩
theorem p_numT (t : Int) : Pure Tryd.prog 10 [.int .i64 t] (.bool (numT t)) := by
  refine Pure.of_tri Tryd.func10 rfl rfl (ltb rfl) fun H => ?_
  refine Tri.seq ?_
  refine Tri.region ?_
  refine TriL.c1 rfl (op_as (ltb rfl) rfl) ?_
  refine TriL.nil ?_
  refine Tri.seq ?_
  refine Tri.region ?_
  refine TriL.c1 rfl (op_mv (ltb rfl) rfl) ?_
  refine TriL.c1 rfl (op_call (ltb rfl) fn24_M7 rfl (p_kind _)) ?_
  refine TriL.c1 rfl (op_bin (ltb rfl) rfl rfl rfl) ?_
  refine TriL.c1 rfl (op_bin (ltb rfl) rfl rfl rfl) ?_
  refine TriL.c1 rfl (op_as (ltb rfl) rfl) ?_
  refine TriL.nil ?_
  refine Tri.ret ?_
  exact ⟨.inr rfl, (ResOK.r1 rfl (.tmp rfl .nil)).cast (congrArg AV.bool (kind_num t)), rfl⟩
theorem p_wholeT (t : Int) : Pure Tryd.prog 82 [.int .i64 t] (.bool (wholeT t)) := by
  refine Pure.of_tri Tryd.func82 rfl rfl (ltb rfl) fun H => ?_
  refine Tri.seq ?_
  refine Tri.region ?_
  refine TriL.c1 rfl (op_as (ltb rfl) rfl) ?_
  refine TriL.nil ?_
  refine Tri.seq ?_
  refine Tri.region ?_
  refine TriL.c1 rfl (op_mv (ltb rfl) rfl) ?_
  refine TriL.c1 rfl (op_call (ltb rfl) fn24_M7 rfl (p_kind _)) ?_
  refine TriL.c1 rfl (op_bin (ltb rfl) rfl rfl rfl) ?_
  refine TriL.c1 rfl (op_bin (ltb rfl) rfl rfl rfl) ?_
  refine TriL.c1 rfl (op_as (ltb rfl) rfl) ?_
  refine TriL.nil ?_
  refine Tri.ret ?_
  exact ⟨.inr rfl, (ResOK.r1 rfl (.tmp rfl .nil)).cast (congrArg AV.bool (kind_whole t)), rfl⟩
theorem p_signT (t : Int) : Pure Tryd.prog 80 [.int .i64 t] (.bool (signT t)) := by
  refine Pure.of_tri Tryd.func80 rfl rfl (ltb rfl) fun H => ?_
  refine Tri.seq ?_
  refine Tri.region ?_
  refine TriL.c1 rfl (op_as (ltb rfl) rfl) ?_
  refine TriL.nil ?_
  refine Tri.seq ?_
  refine Tri.region ?_
  refine TriL.c1 rfl (op_mv (ltb rfl) rfl) ?_
  refine TriL.c1 rfl (op_call (ltb rfl) fn24_M7 rfl (p_kind _)) ?_
  refine TriL.c1 rfl (op_bin (ltb rfl) rfl rfl rfl) ?_
  refine TriL.c1 rfl (op_bin (ltb rfl) rfl rfl rfl) ?_
  refine TriL.c1 rfl (op_as (ltb rfl) rfl) ?_
  refine TriL.nil ?_
  refine Tri.ret ?_
  exact ⟨.inr rfl, (ResOK.r1 rfl (.tmp rfl .nil)).cast (congrArg AV.bool (kind_sign t)), rfl⟩
theorem p_wideT (t : Int) : Pure Tryd.prog 79 [.int .i64 t] (.bool (wideT t)) := by
  refine Pure.of_tri Tryd.func79 rfl rfl (ltb rfl) fun H => ?_
  refine Tri.seq ?_
  refine Tri.region ?_
  refine TriL.c1 rfl (op_as (ltb rfl) rfl) ?_
  refine TriL.nil ?_
  refine Tri.seq ?_
  refine Tri.region ?_
  refine TriL.c1 rfl (op_mv (ltb rfl) rfl) ?_
  refine TriL.c1 rfl (op_call (ltb rfl) fn24_M7 rfl (p_kind _)) ?_
  refine TriL.c1 rfl (op_bin (ltb rfl) rfl rfl rfl) ?_
  refine TriL.c1 rfl (op_bin (ltb rfl) rfl rfl rfl) ?_
  refine TriL.c1 rfl (op_as (ltb rfl) rfl) ?_
  refine TriL.nil ?_
  refine Tri.ret ?_
  exact ⟨.inr rfl, (ResOK.r1 rfl (.tmp rfl .nil)).cast (congrArg AV.bool (kind_wide t)), rfl⟩
theorem p_wire (t : Int) : Pure Tryd.prog 26 [.int .i64 t] (.int .i64 (wireT t)) := by
  refine Pure.of_tri Tryd.func26 rfl rfl (ltb rfl) fun H => ?_
  refine Tri.seq ?_
  refine Tri.region ?_
  refine TriL.c1 rfl (op_as (ltb rfl) rfl) ?_
  refine TriL.nil ?_
  refine Tri.seq ?_
  refine Tri.seq ?_
  refine Tri.region ?_
  refine TriL.c1 rfl (op_mv (ltb rfl) rfl) ?_
  refine TriL.nil ?_
  refine Tri.blk ?_
  refine Tri.seq ?_
  refine Tri.seq ?_
  refine Tri.region ?_
  refine TriL.c1 rfl (op_bin (ltb rfl) rfl rfl rfl) ?_
  refine TriL.c1 rfl (op_as (ltb rfl) rfl) ?_
  refine TriL.nil ?_
  refine Tri.cond rfl (fun hc1 => ?_) (fun hc1 => ?_)
  · refine Tri.skip ?_
    refine Tri.condT rfl hc1 ?_
    refine Tri.seq ?_
    refine Tri.region ?_
    refine TriL.c1 rfl (op_as (ltb rfl) rfl) ?_
    refine TriL.nil ?_
    refine Tri.ret ?_
    exact ⟨.inr rfl, (ResOK.r1 rfl (.tmp rfl .nil)).cast (congrArg (AV.int .i64) (by grind [wireT])), rfl⟩
  · -- region 3 scalar.go:75
    refine Tri.region ?_
    refine TriL.c1 rfl (op_bin (ltb rfl) rfl rfl rfl) ?_
    refine TriL.c1 rfl (op_as (ltb rfl) rfl) ?_
    refine TriL.nil ?_
    refine Tri.cond rfl (fun hc2 => ?_) (fun hc2 => ?_)
    · refine Tri.seq ?_
      refine Tri.region ?_
      refine TriL.c1 rfl (op_as (ltb rfl) rfl) ?_
      refine TriL.nil ?_
      refine Tri.ret ?_
      exact ⟨.inr rfl, (ResOK.r1 rfl (.tmp rfl .nil)).cast (congrArg (AV.int .i64) (by grind [wireT])), rfl⟩
    · refine Tri.seq ?_
      refine Tri.seq ?_
      refine Tri.region ?_
      refine TriL.c1 rfl (op_bin (ltb rfl) rfl rfl rfl) ?_
      refine TriL.c1 rfl (op_as (ltb rfl) rfl) ?_
      refine TriL.nil ?_
      refine Tri.cond rfl (fun hc3 => ?_) (fun hc3 => ?_)
      · refine Tri.skip ?_
        refine Tri.condT rfl hc3 ?_
        refine Tri.seq ?_
        refine Tri.region ?_
        refine TriL.c1 rfl (op_as (ltb rfl) rfl) ?_
        refine TriL.nil ?_
        refine Tri.ret ?_
        exact ⟨.inr rfl, (ResOK.r1 rfl (.tmp rfl .nil)).cast (congrArg (AV.int .i64) (by grind [wireT])), rfl⟩
      · -- region 6 scalar.go:77
        refine Tri.region ?_
        refine TriL.c1 rfl (op_bin (ltb rfl) rfl rfl rfl) ?_
        refine TriL.c1 rfl (op_as (ltb rfl) rfl) ?_
        refine TriL.nil ?_
        refine Tri.cond rfl (fun hc4 => ?_) (fun hc4 => ?_)
        · refine Tri.seq ?_
          refine Tri.region ?_
          refine TriL.c1 rfl (op_as (ltb rfl) rfl) ?_
          refine TriL.nil ?_
          refine Tri.ret ?_
          exact ⟨.inr rfl, (ResOK.r1 rfl (.tmp rfl .nil)).cast (congrArg (AV.int .i64) (by grind [wireT])), rfl⟩
        · refine Tri.seq ?_
          refine Tri.seq ?_
          refine Tri.region ?_
          refine TriL.c1 rfl (op_bin (ltb rfl) rfl rfl rfl) ?_
          refine TriL.c1 rfl (op_as (ltb rfl) rfl) ?_
          refine TriL.nil ?_
          refine Tri.cond rfl (fun hc5 => ?_) (fun hc5 => ?_)
          · refine Tri.skip ?_
            refine Tri.condT rfl hc5 ?_
            refine Tri.seq ?_
            refine Tri.region ?_
            refine TriL.c1 rfl (op_as (ltb rfl) rfl) ?_
            refine TriL.nil ?_
            refine Tri.ret ?_
            exact ⟨.inr rfl, (ResOK.r1 rfl (.tmp rfl .nil)).cast (congrArg (AV.int .i64) (by grind [wireT])), rfl⟩
          · refine Tri.seq ?_
            refine Tri.region ?_
            refine TriL.c1 rfl (op_bin (ltb rfl) rfl rfl rfl) ?_
            refine TriL.c1 rfl (op_as (ltb rfl) rfl) ?_
            refine TriL.nil ?_
            refine Tri.cond rfl (fun hc6 => ?_) (fun hc6 => ?_)
            · refine Tri.skip ?_
              refine Tri.condT rfl hc6 ?_
              refine Tri.seq ?_
              refine Tri.region ?_
              refine TriL.c1 rfl (op_as (ltb rfl) rfl) ?_
              refine TriL.nil ?_
              refine Tri.ret ?_
              exact ⟨.inr rfl, (ResOK.r1 rfl (.tmp rfl .nil)).cast (congrArg (AV.int .i64) (by grind [wireT])), rfl⟩
            · -- region 10 scalar.go:79
              refine Tri.region ?_
              refine TriL.c1 rfl (op_bin (ltb rfl) rfl rfl rfl) ?_
              refine TriL.c1 rfl (op_as (ltb rfl) rfl) ?_
              refine TriL.nil ?_
              refine Tri.cond rfl (fun hc7 => ?_) (fun hc7 => ?_)
              · refine Tri.seq ?_
                refine Tri.region ?_
                refine TriL.c1 rfl (op_as (ltb rfl) rfl) ?_
                refine TriL.nil ?_
                refine Tri.ret ?_
                exact ⟨.inr rfl, (ResOK.r1 rfl (.tmp rfl .nil)).cast (congrArg (AV.int .i64) (by grind [wireT])), rfl⟩
              · refine Tri.skip ?_
                refine Tri.seq ?_
                refine Tri.region ?_
                refine TriL.c1 rfl (op_as (ltb rfl) rfl) ?_
                refine TriL.nil ?_
                refine Tri.ret ?_
                exact ⟨.inr rfl, (ResOK.r1 rfl (.tmp rfl .nil)).cast (congrArg (AV.int .i64) (by grind [wireT])), rfl⟩
theorem p_fits (z : Int) : Pure Tryd.prog 81 [.int .i64 z] (.bool (fitsT z)) := by
  refine Pure.of_tri Tryd.func81 rfl rfl (ltb rfl) fun H => ?_
  refine Tri.seq ?_
  refine Tri.region ?_
  refine TriL.c1 rfl (op_as (ltb rfl) rfl) ?_
  refine TriL.nil ?_
  refine Tri.seq ?_
  refine Tri.region ?_
  refine TriL.c1 rfl (op_mv (ltb rfl) rfl) ?_
  refine TriL.c1 rfl (op_cvi (ltb rfl) un2_M7 un21_M7 rfl) ?_
  refine TriL.c1 rfl (op_cvi (ltb rfl) un21_M7 un2_M7 rfl) ?_
  refine TriL.c1 rfl (op_mv (ltb rfl) rfl) ?_
  refine TriL.c1 rfl (op_bin (ltb rfl) rfl rfl rfl) ?_
  refine TriL.c1 rfl (op_as (ltb rfl) rfl) ?_
  refine TriL.nil ?_
  refine Tri.ret ?_
  exact ⟨.inr rfl, (ResOK.r1 rfl (.tmp rfl .nil)).cast (congrArg AV.bool (fits_wrap z)), rfl⟩
theorem p_may (t : Int) (n : Nat) : Pure Tryd.prog 73 [.int .i64 t, .int .u64 (n : Int)] (.bool (mayT t n)) := by
  refine Pure.of_tri Tryd.func73 rfl rfl (ltb rfl) fun H => ?_
  refine Tri.seq ?_
  refine Tri.region ?_
  refine TriL.c1 rfl (op_as (ltb rfl) rfl) ?_
  refine TriL.nil ?_
  refine Tri.seq ?_
  refine Tri.blk ?_
  refine Tri.seq ?_
  refine Tri.region ?_
  refine TriL.c1 rfl (op_mv (ltb rfl) rfl) ?_
  refine TriL.c1 rfl (op_bin (ltb rfl) rfl rfl rfl) ?_
  refine TriL.c1 rfl (op_mv (ltb rfl) rfl) ?_
  refine TriL.split (d := 8) rfl (fun hg1 => ?_) (fun hg1 => ?_)
  · refine TriL.skipu rfl rfl (ltb rfl) (ltb rfl) rfl hg1 ?_
    refine TriL.skipu rfl rfl (ltb rfl) (ltb rfl) rfl hg1 ?_
    refine TriL.c1 rfl (op_pickt (ltb rfl) rfl hg1 rfl) ?_
    refine TriL.c1 rfl (op_as (ltb rfl) rfl) ?_
    refine TriL.nil ?_
    refine Tri.condT rfl rfl ?_
    refine Tri.seq ?_
    refine Tri.region ?_
    refine TriL.c1 rfl (op_as (ltb rfl) rfl) ?_
    refine TriL.nil ?_
    refine Tri.ret ?_
    exact ⟨.inr rfl, (ResOK.r1 rfl (.tmp rfl .nil)).cast (congrArg AV.bool (by grind [mayT])), rfl⟩
  · refine TriL.g1 rfl (ltb rfl) rfl hg1 (op_mv (ltb rfl) rfl) ?_
    refine TriL.g1 rfl (ltb rfl) rfl hg1 (op_bin (ltb rfl) rfl rfl rfl) ?_
    refine TriL.c1 rfl (op_pickf (ltb rfl) rfl hg1 rfl) ?_
    refine TriL.c1 rfl (op_as (ltb rfl) rfl) ?_
    refine TriL.nil ?_
    refine Tri.cond rfl (fun hc2 => ?_) (fun hc2 => ?_)
    · refine Tri.seq ?_
      refine Tri.region ?_
      refine TriL.c1 rfl (op_as (ltb rfl) rfl) ?_
      refine TriL.nil ?_
      refine Tri.ret ?_
      exact ⟨.inr rfl, (ResOK.r1 rfl (.tmp rfl .nil)).cast (congrArg AV.bool (by grind [mayT])), rfl⟩
    · refine Tri.seq ?_
      refine Tri.region ?_
      refine TriL.c1 rfl (op_mv (ltb rfl) rfl) ?_
      refine TriL.c1 rfl (op_call (ltb rfl) fn79_M7 rfl (p_wideT _)) ?_
      refine TriL.c1 rfl (op_as (ltb rfl) rfl) ?_
      refine TriL.nil ?_
      refine Tri.cond rfl (fun hc3 => ?_) (fun hc3 => ?_)
      · refine Tri.seq ?_
        refine Tri.region ?_
        refine TriL.c1 rfl (op_as (ltb rfl) rfl) ?_
        refine TriL.nil ?_
        refine Tri.ret ?_
        exact ⟨.inr rfl, (ResOK.r1 rfl (.tmp rfl .nil)).cast (congrArg AV.bool (by grind [mayT])), rfl⟩
      · refine Tri.seq ?_
        refine Tri.region ?_
        refine TriL.c1 rfl (op_mv (ltb rfl) rfl) ?_
        refine TriL.c1 rfl (op_call (ltb rfl) fn80_M7 rfl (p_signT _)) ?_
        refine TriL.c1 rfl (op_as (ltb rfl) rfl) ?_
        refine TriL.nil ?_
        refine Tri.cond rfl (fun hc4 => ?_) (fun hc4 => ?_)
        · refine Tri.seq ?_
          refine Tri.region ?_
          refine TriL.c1 rfl (op_mv (ltb rfl) rfl) ?_
          refine TriL.c1 rfl (op_cvi (ltb rfl) un40_M7 un2_M7 rfl) ?_
          refine TriL.c1 rfl (op_call (ltb rfl) fn81_M7 rfl (p_fits _)) ?_
          refine TriL.c1 rfl (op_as (ltb rfl) rfl) ?_
          refine TriL.nil ?_
          refine Tri.ret ?_
          exact ⟨.inr rfl, (ResOK.r1 rfl (.tmp rfl .nil)).cast (congrArg AV.bool (by have := ty_cases t; grind [mayT, s64])), rfl⟩
        · refine Tri.seq ?_
          refine Tri.region ?_
          refine TriL.c1 rfl (op_mv (ltb rfl) rfl) ?_
          refine TriL.c1 rfl (op_call (ltb rfl) fn82_M7 rfl (p_wholeT _)) ?_
          refine TriL.c1 rfl (op_as (ltb rfl) rfl) ?_
          refine TriL.nil ?_
          refine Tri.cond rfl (fun hc5 => ?_) (fun hc5 => ?_)
          · refine Tri.seq ?_
            refine Tri.region ?_
            refine TriL.c1 rfl (op_mv (ltb rfl) rfl) ?_
            refine TriL.c1 rfl (op_shr (ltb rfl) rfl rfl (by decide)) ?_
            refine TriL.c1 rfl (op_bin (ltb rfl) rfl rfl rfl) ?_
            refine TriL.c1 rfl (op_as (ltb rfl) rfl) ?_
            refine TriL.nil ?_
            refine Tri.ret ?_
            exact ⟨.inr rfl, (ResOK.r1 rfl (.tmp rfl .nil)).cast (congrArg AV.bool (by have h2 : ((((n / 2 ^ (min ((32 : Int)).toNat IntKind.u64.bits) : Nat) : Int)) == 0) = decide (n < 4294967296) := (by rw [show 2 ^ (min ((32 : Int)).toNat IntKind.u64.bits) = 4294967296 by decide, Bool.eq_iff_iff]; simp; omega); rw [h2]; have := ty_cases t; grind [mayT, wholeT, wideT, signT])), rfl⟩
          · refine Tri.seq ?_
            refine Tri.region ?_
            refine TriL.c1 rfl (op_mv (ltb rfl) rfl) ?_
            refine TriL.c1 rfl (op_bin (ltb rfl) rfl rfl rfl) ?_
            refine TriL.c1 rfl (op_as (ltb rfl) rfl) ?_
            refine TriL.nil ?_
            refine Tri.cond rfl (fun hc6 => ?_) (fun hc6 => ?_)
            · refine Tri.seq ?_
              refine Tri.region ?_
              refine TriL.c1 rfl (op_mv (ltb rfl) rfl) ?_
              refine TriL.c1 rfl (op_bin (ltb rfl) rfl rfl rfl) ?_
              refine TriL.c1 rfl (op_as (ltb rfl) rfl) ?_
              refine TriL.nil ?_
              refine Tri.ret ?_
              exact ⟨.inr rfl, (ResOK.r1 rfl (.tmp rfl .nil)).cast (congrArg AV.bool (by have := ty_cases t; grind [mayT, wholeT, wideT, signT])), rfl⟩
            · refine Tri.skip ?_
              refine Tri.seq ?_
              refine Tri.region ?_
              refine TriL.c1 rfl (op_mv (ltb rfl) rfl) ?_
              refine TriL.c1 rfl (op_bin (ltb rfl) rfl rfl rfl) ?_
              refine TriL.c1 rfl (op_as (ltb rfl) rfl) ?_
              refine TriL.nil ?_
              refine Tri.ret ?_
              exact ⟨.inr rfl, (ResOK.r1 rfl (.tmp rfl .nil)).cast (congrArg AV.bool (by have := ty_cases t; grind [mayT, wholeT, wideT, signT])), rfl⟩
theorem p_twice (u : Int) : Pure Tryd.prog 59 [.int .u64 u] (.int .u64 (IntKind.u64.wrap (u * 2))) := by
  refine Pure.of_tri Tryd.func59 rfl rfl (ltb rfl) fun H => ?_
  refine Tri.seq ?_
  refine Tri.region ?_
  refine TriL.c1 rfl (op_as (ltb rfl) rfl) ?_
  refine TriL.nil ?_
  refine Tri.seq ?_
  refine Tri.region ?_
  refine TriL.c1 rfl (op_mv (ltb rfl) rfl) ?_
  refine TriL.c1 rfl (op_bin (ltb rfl) rfl rfl rfl) ?_
  refine TriL.c1 rfl (op_as (ltb rfl) rfl) ?_
  refine TriL.nil ?_
  refine Tri.ret ?_
  exact ⟨.inr rfl, (ResOK.r1 rfl (.tmp rfl .nil)).cast rfl, rfl⟩
theorem p_signs (u : Int) : Pure Tryd.prog 60 [.int .u64 u] (.int .u64 (IntKind.u64.wrap ((IntKind.i64.wrap u).fdiv (2 ^ 63)))) := by
  refine Pure.of_tri Tryd.func60 rfl rfl (ltb rfl) fun H => ?_
  refine Tri.seq ?_
  refine Tri.region ?_
  refine TriL.c1 rfl (op_as (ltb rfl) rfl) ?_
  refine TriL.nil ?_
  refine Tri.seq ?_
  refine Tri.region ?_
  refine TriL.c1 rfl (op_mv (ltb rfl) rfl) ?_
  refine TriL.c1 rfl (op_cvi (ltb rfl) un104_M7 un2_M7 rfl) ?_
  refine TriL.c1 rfl (op_bin (ltb rfl) rfl rfl rfl) ?_
  refine TriL.c1 rfl (op_cvi (ltb rfl) un2_M7 un104_M7 rfl) ?_
  refine TriL.c1 rfl (op_as (ltb rfl) rfl) ?_
  refine TriL.nil ?_
  refine Tri.ret ?_
  exact ⟨.inr rfl, (ResOK.r1 rfl (.tmp rfl .nil)).cast rfl, rfl⟩
theorem p_both (u : Int) : Pure Tryd.prog 58 [.int .u64 u, .fn 59 [], .fn 60 []] (.int .u64 (ibits .xor .u64 (IntKind.u64.wrap (u * 2)) (IntKind.u64.wrap ((IntKind.i64.wrap u).fdiv (2 ^ 63))))) := by
  refine Pure.of_tri Tryd.func58 rfl rfl (ltb rfl) fun H => ?_
  refine Tri.seq ?_
  refine Tri.region ?_
  refine TriL.c1 rfl (op_as (ltb rfl) rfl) ?_
  refine TriL.nil ?_
  refine Tri.seq ?_
  refine Tri.region ?_
  refine TriL.c1 rfl (op_mv (ltb rfl) rfl) ?_
  refine TriL.c1 rfl (op_mv (ltb rfl) rfl) ?_
  refine TriL.c1 rfl (op_callc (ltb rfl) fn59_M7 rfl rfl (p_twice _)) ?_
  refine TriL.c1 rfl (op_mv (ltb rfl) rfl) ?_
  refine TriL.c1 rfl (op_mv (ltb rfl) rfl) ?_
  refine TriL.c1 rfl (op_callc (ltb rfl) fn60_M7 rfl rfl (p_signs _)) ?_
  refine TriL.c1 rfl (op_bin (ltb rfl) rfl rfl rfl) ?_
  refine TriL.c1 rfl (op_as (ltb rfl) rfl) ?_
  refine TriL.nil ?_
  refine Tri.ret ?_
  exact ⟨.inr rfl, (ResOK.r1 rfl (.tmp rfl .nil)).cast rfl, rfl⟩
theorem p_zig (z : Int) (h0 : -9223372036854775808 ≤ z) (h1 : z < 9223372036854775808) : Pure Tryd.prog 45 [.int .i64 z] (.int .u64 (zigT z : Int)) := by
  refine Pure.of_tri Tryd.func45 rfl rfl (ltb rfl) fun H => ?_
  refine Tri.seq ?_
  refine Tri.region ?_
  refine TriL.c1 rfl (op_as (ltb rfl) rfl) ?_
  refine TriL.nil ?_
  refine Tri.seq ?_
  refine Tri.region ?_
  refine TriL.c1 rfl (op_mv (ltb rfl) rfl) ?_
  refine TriL.c1 rfl (op_cvi (ltb rfl) un2_M7 un104_M7 rfl) ?_
  refine TriL.c1 rfl (op_call (ltb rfl) fn58_M7 rfl (p_both _)) ?_
  refine TriL.c1 rfl (op_as (ltb rfl) rfl) ?_
  refine TriL.nil ?_
  refine Tri.ret ?_
  exact ⟨.inr rfl, (ResOK.r1 rfl (.tmp rfl .nil)).cast (congrArg (AV.int .u64) (zig_xor h0 h1)), rfl⟩
theorem p_low0 (z : Int) : Pure Tryd.prog 61 [.int .i64 z] (.int .u32 (IntKind.u32.wrap z)) := by
  refine Pure.of_tri Tryd.func61 rfl rfl (ltb rfl) fun H => ?_
  refine Tri.seq ?_
  refine Tri.region ?_
  refine TriL.c1 rfl (op_as (ltb rfl) rfl) ?_
  refine TriL.nil ?_
  refine Tri.seq ?_
  refine Tri.region ?_
  refine TriL.c1 rfl (op_mv (ltb rfl) rfl) ?_
  refine TriL.c1 rfl (op_cvi (ltb rfl) un2_M7 un70_M7 rfl) ?_
  refine TriL.c1 rfl (op_as (ltb rfl) rfl) ?_
  refine TriL.nil ?_
  refine Tri.ret ?_
  exact ⟨.inr rfl, (ResOK.r1 rfl (.tmp rfl .nil)).cast rfl, rfl⟩
theorem p_low (n : Nat) (hn : n < 18446744073709551616) : Pure Tryd.prog 46 [.int .u64 (n : Int)] (.int .u64 ((n % 4294967296 : Nat) : Int)) := by
  refine Pure.of_tri Tryd.func46 rfl rfl (ltb rfl) fun H => ?_
  refine Tri.seq ?_
  refine Tri.region ?_
  refine TriL.c1 rfl (op_as (ltb rfl) rfl) ?_
  refine TriL.nil ?_
  refine Tri.seq ?_
  refine Tri.region ?_
  refine TriL.c1 rfl (op_mv (ltb rfl) rfl) ?_
  refine TriL.c1 rfl (op_cvi (ltb rfl) un40_M7 un2_M7 rfl) ?_
  refine TriL.c1 rfl (op_call (ltb rfl) fn61_M7 rfl (p_low0 _)) ?_
  refine TriL.c1 rfl (op_cvi (ltb rfl) un70_M7 un40_M7 rfl) ?_
  refine TriL.c1 rfl (op_as (ltb rfl) rfl) ?_
  refine TriL.nil ?_
  refine Tri.ret ?_
  exact ⟨.inr rfl, (ResOK.r1 rfl (.tmp rfl .nil)).cast (congrArg (AV.int .u64) (by simp only [IntKind.wrap, IntKind.bits, IntKind.signed]; simp; omega)), rfl⟩
theorem p_to (t : Int) (n : Nat) (hn : n < 18446744073709551616) : Pure Tryd.prog 25 [.int .i64 t, .int .u64 (n : Int)] (.int .u64 (toT t n : Int)) := by
  have := s64_range hn
  refine Pure.of_tri Tryd.func25 rfl rfl (ltb rfl) fun H => ?_
  refine Tri.seq ?_
  refine Tri.region ?_
  refine TriL.c1 rfl (op_as (ltb rfl) rfl) ?_
  refine TriL.nil ?_
  refine Tri.seq ?_
  refine Tri.seq ?_
  refine Tri.region ?_
  refine TriL.c1 rfl (op_mv (ltb rfl) rfl) ?_
  refine TriL.nil ?_
  refine Tri.blk ?_
  refine Tri.seq ?_
  refine Tri.seq ?_
  refine Tri.region ?_
  refine TriL.c1 rfl (op_bin (ltb rfl) rfl rfl rfl) ?_
  refine TriL.c1 rfl (op_as (ltb rfl) rfl) ?_
  refine TriL.nil ?_
  refine Tri.cond rfl (fun hc1 => ?_) (fun hc1 => ?_)
  · refine Tri.skip ?_
    refine Tri.condT rfl hc1 ?_
    refine Tri.seq ?_
    refine Tri.region ?_
    refine TriL.c1 rfl (op_mv (ltb rfl) rfl) ?_
    refine TriL.c1 rfl (op_cvi (ltb rfl) un40_M7 un2_M7 rfl) ?_
    refine TriL.c1 rfl (op_call (ltb rfl) fn45_M7 rfl (p_zig _ this.1 this.2)) ?_
    refine TriL.c1 rfl (op_as (ltb rfl) rfl) ?_
    refine TriL.nil ?_
    refine Tri.ret ?_
    exact ⟨.inr rfl, (ResOK.r1 rfl (.tmp rfl .nil)).cast (congrArg (AV.int .u64) (by grind [toT, s64])), rfl⟩
  · -- region 3 num.go:39
    refine Tri.region ?_
    refine TriL.c1 rfl (op_bin (ltb rfl) rfl rfl rfl) ?_
    refine TriL.c1 rfl (op_as (ltb rfl) rfl) ?_
    refine TriL.nil ?_
    refine Tri.cond rfl (fun hc2 => ?_) (fun hc2 => ?_)
    · refine Tri.seq ?_
      refine Tri.region ?_
      refine TriL.c1 rfl (op_mv (ltb rfl) rfl) ?_
      refine TriL.c1 rfl (op_cvi (ltb rfl) un40_M7 un2_M7 rfl) ?_
      refine TriL.c1 rfl (op_call (ltb rfl) fn45_M7 rfl (p_zig _ this.1 this.2)) ?_
      refine TriL.c1 rfl (op_as (ltb rfl) rfl) ?_
      refine TriL.nil ?_
      refine Tri.ret ?_
      exact ⟨.inr rfl, (ResOK.r1 rfl (.tmp rfl .nil)).cast (congrArg (AV.int .u64) (by grind [toT, s64])), rfl⟩
    · refine Tri.seq ?_
      refine Tri.seq ?_
      refine Tri.region ?_
      refine TriL.c1 rfl (op_bin (ltb rfl) rfl rfl rfl) ?_
      refine TriL.c1 rfl (op_as (ltb rfl) rfl) ?_
      refine TriL.nil ?_
      refine Tri.cond rfl (fun hc3 => ?_) (fun hc3 => ?_)
      · refine Tri.skip ?_
        refine Tri.condT rfl hc3 ?_
        refine Tri.seq ?_
        refine Tri.region ?_
        refine TriL.c1 rfl (op_mv (ltb rfl) rfl) ?_
        refine TriL.c1 rfl (op_call (ltb rfl) fn46_M7 rfl (p_low _ hn)) ?_
        refine TriL.c1 rfl (op_as (ltb rfl) rfl) ?_
        refine TriL.nil ?_
        refine Tri.ret ?_
        exact ⟨.inr rfl, (ResOK.r1 rfl (.tmp rfl .nil)).cast (congrArg (AV.int .u64) (by grind [toT, s64])), rfl⟩
      · refine Tri.seq ?_
        refine Tri.region ?_
        refine TriL.c1 rfl (op_bin (ltb rfl) rfl rfl rfl) ?_
        refine TriL.c1 rfl (op_as (ltb rfl) rfl) ?_
        refine TriL.nil ?_
        refine Tri.cond rfl (fun hc4 => ?_) (fun hc4 => ?_)
        · refine Tri.skip ?_
          refine Tri.condT rfl hc4 ?_
          refine Tri.seq ?_
          refine Tri.region ?_
          refine TriL.c1 rfl (op_mv (ltb rfl) rfl) ?_
          refine TriL.c1 rfl (op_call (ltb rfl) fn46_M7 rfl (p_low _ hn)) ?_
          refine TriL.c1 rfl (op_as (ltb rfl) rfl) ?_
          refine TriL.nil ?_
          refine Tri.ret ?_
          exact ⟨.inr rfl, (ResOK.r1 rfl (.tmp rfl .nil)).cast (congrArg (AV.int .u64) (by grind [toT, s64])), rfl⟩
        · -- region 7 num.go:41
          refine Tri.region ?_
          refine TriL.c1 rfl (op_bin (ltb rfl) rfl rfl rfl) ?_
          refine TriL.c1 rfl (op_as (ltb rfl) rfl) ?_
          refine TriL.nil ?_
          refine Tri.cond rfl (fun hc5 => ?_) (fun hc5 => ?_)
          · refine Tri.seq ?_
            refine Tri.region ?_
            refine TriL.c1 rfl (op_mv (ltb rfl) rfl) ?_
            refine TriL.c1 rfl (op_call (ltb rfl) fn46_M7 rfl (p_low _ hn)) ?_
            refine TriL.c1 rfl (op_as (ltb rfl) rfl) ?_
            refine TriL.nil ?_
            refine Tri.ret ?_
            exact ⟨.inr rfl, (ResOK.r1 rfl (.tmp rfl .nil)).cast (congrArg (AV.int .u64) (by grind [toT, s64])), rfl⟩
          · refine Tri.skip ?_
            refine Tri.seq ?_
            refine Tri.seq ?_
            refine Tri.region ?_
            refine TriL.c1 rfl (op_mv (ltb rfl) rfl) ?_
            refine TriL.c1 rfl (op_call (ltb rfl) fn10_M7 rfl (p_numT _)) ?_
            refine TriL.c1 rfl (op_un (ltb rfl) rfl rfl) ?_
            refine TriL.nil ?_
            refine Tri.cond rfl (fun hc6 => ?_) (fun hc6 => ?_)
            · refine Tri.seq ?_
              refine Tri.region ?_
              refine TriL.c1 rfl (op_as (ltb rfl) rfl) ?_
              refine TriL.nil ?_
              refine Tri.ret ?_
              exact ⟨.inr rfl, (ResOK.r1 rfl (.tmp rfl .nil)).cast (congrArg (AV.int .u64) (by grind [toT, s64])), rfl⟩
            · refine Tri.skip ?_
              refine Tri.seq ?_
              refine Tri.region ?_
              refine TriL.c1 rfl (op_mv (ltb rfl) rfl) ?_
              refine TriL.c1 rfl (op_as (ltb rfl) rfl) ?_
              refine TriL.nil ?_
              refine Tri.ret ?_
              exact ⟨.inr rfl, (ResOK.r1 rfl (.tmp rfl .nil)).cast (congrArg (AV.int .u64) (by grind [toT, s64])), rfl⟩
end Go.Proofs.YtnpgcmeclkncnaaDoor.X
/- fields and places, in the program and in the document. -/
set_option linter.unusedVariables false
set_option linter.unusedSimpArgs false
set_option linter.unusedSectionVars false
set_option maxRecDepth 100000
namespace Go.Proofs.YtnpgcmeclkncnaaDoor.X
open Go Go.RowKit Go.Proofs
theorem fn10_M8 : isFn Tryd.prog 10 = true := by kernel_rfl
theorem fn32_M8 : isFn Tryd.prog 32 = true := by kernel_rfl
theorem fn33_M8 : isFn Tryd.prog 33 = true := by kernel_rfl
theorem fn55_M8 : isFn Tryd.prog 55 = true := by kernel_rfl
theorem fn56_M8 : isFn Tryd.prog 56 = true := by kernel_rfl
theorem fn65_M8 : isFn Tryd.prog 65 = true := by kernel_rfl
theorem fn75_M8 : isFn Tryd.prog 75 = true := by kernel_rfl
theorem fo23_1_M8 : fo Tryd.prog 23 1 = some 1 := by kernel_rfl
theorem fo23_2_M8 : fo Tryd.prog 23 2 = some 2 := by kernel_rfl
theorem fo23_4_M8 : fo Tryd.prog 23 4 = some 4 := by kernel_rfl
theorem fo23_5_M8 : fo Tryd.prog 23 5 = some 5 := by kernel_rfl
theorem fo23_6_M8 : fo Tryd.prog 23 6 = some 6 := by kernel_rfl
theorem fo31_0_M8 : fo Tryd.prog 31 0 = some 0 := by kernel_rfl
theorem fo31_1_M8 : fo Tryd.prog 31 1 = some 1 := by kernel_rfl
theorem fo35_1_M8 : fo Tryd.prog 35 1 = some 1 := by kernel_rfl
theorem fo96_0_M8 : fo Tryd.prog 96 0 = some 0 := by kernel_rfl
theorem fo96_1_M8 : fo Tryd.prog 96 1 = some 1 := by kernel_rfl
theorem fo96_2_M8 : fo Tryd.prog 96 2 = some 2 := by kernel_rfl
theorem fo96_3_M8 : fo Tryd.prog 96 3 = some 3 := by kernel_rfl
theorem ie28_M8 : ie Tryd.prog 28 = some 7 := by kernel_rfl
theorem ie32_M8 : ie Tryd.prog 32 = some 3 := by kernel_rfl
theorem lk23_M8 : lk Tryd.prog 23 = some (true, 7) := by kernel_rfl
theorem lk28_M8 : lk Tryd.prog 28 = some (false, 1) := by kernel_rfl
theorem lk3_M8 : lk Tryd.prog 3 = some (false, 1) := by kernel_rfl
theorem lk31_M8 : lk Tryd.prog 31 = some (true, 3) := by kernel_rfl
theorem lk32_M8 : lk Tryd.prog 32 = some (false, 1) := by kernel_rfl
theorem lk4_M8 : lk Tryd.prog 4 = some (false, 1) := by kernel_rfl
theorem lk40_M8 : lk Tryd.prog 40 = some (false, 1) := by kernel_rfl
theorem lk9_M8 : lk Tryd.prog 9 = some (false, 1) := by kernel_rfl
theorem un28_M8 : Tryd.prog.underlying 28 = some (TypeDesc.slice 23) := Tryd.underlying28
theorem un32_M8 : Tryd.prog.underlying 32 = some (TypeDesc.slice 31) := Tryd.underlying32
theorem p_packed (f : Fld) : Pure Tryd.prog 52 [f.av] (.bool f.packed) := by
  refine Pure.of_tri Tryd.func52 rfl rfl (ltb rfl) fun H => ?_
  refine Tri.seq ?_
  refine Tri.region ?_
  refine TriL.c2 rfl (op_box (ltb rfl) rfl rfl rfl) ?_
  refine TriL.c1 rfl (op_as (ltb rfl) rfl) ?_
  refine TriL.nil ?_
  refine Tri.seq ?_
  refine Tri.region ?_
  refine TriL.c1 rfl (op_fal (ltb rfl) fo23_4_M8 rfl) ?_
  refine TriL.c1 rfl (op_ldl (ltb rfl) lk4_M8 rfl rfl rfl) ?_
  refine TriL.c1 rfl (op_mv (ltb rfl) rfl) ?_
  refine TriL.split (d := 5) rfl (fun hg1 => ?_) (fun hg1 => ?_)
  · refine TriL.g1 rfl (ltb rfl) rfl hg1 (op_fal (ltb rfl) fo23_5_M8 rfl) ?_
    refine TriL.g1 rfl (ltb rfl) rfl hg1 (op_ldl (ltb rfl) lk4_M8 rfl rfl rfl) ?_
    refine TriL.g1 rfl (ltb rfl) rfl hg1 (op_un (ltb rfl) rfl rfl) ?_
    refine TriL.c1 rfl (op_pickt (ltb rfl) rfl hg1 rfl) ?_
    refine TriL.c1 rfl (op_mv (ltb rfl) rfl) ?_
    refine TriL.split (d := 10) rfl (fun hg2 => ?_) (fun hg2 => ?_)
    · refine TriL.g1 rfl (ltb rfl) rfl hg2 (op_fal (ltb rfl) fo23_2_M8 rfl) ?_
      refine TriL.g1 rfl (ltb rfl) rfl hg2 (op_ldl (ltb rfl) lk3_M8 rfl rfl rfl) ?_
      refine TriL.g1 rfl (ltb rfl) rfl hg2 (op_call (ltb rfl) fn10_M8 rfl (p_numT _)) ?_
      refine TriL.c1 rfl (op_pickt (ltb rfl) rfl hg2 rfl) ?_
      refine TriL.c1 rfl (op_as (ltb rfl) rfl) ?_
      refine TriL.nil ?_
      refine Tri.ret ?_
      exact ⟨.inr rfl, (ResOK.r1 rfl (.tmp rfl .nil)).cast (congrArg AV.bool (by grind [Fld.packed])), rfl⟩
    · refine TriL.skipu rfl rfl (ltb rfl) (ltb rfl) rfl hg2 ?_
      refine TriL.skipu rfl rfl (ltb rfl) (ltb rfl) rfl hg2 ?_
      refine TriL.skipu rfl rfl (ltb rfl) (ltb rfl) rfl hg2 ?_
      refine TriL.c1 rfl (op_pickf (ltb rfl) rfl hg2 rfl) ?_
      refine TriL.c1 rfl (op_as (ltb rfl) rfl) ?_
      refine TriL.nil ?_
      refine Tri.ret ?_
      exact ⟨.inr rfl, (ResOK.r1 rfl (.tmp rfl .nil)).cast (congrArg AV.bool (by grind [Fld.packed])), rfl⟩
  · refine TriL.skipu rfl rfl (ltb rfl) (ltb rfl) rfl hg1 ?_
    refine TriL.skipu rfl rfl (ltb rfl) (ltb rfl) rfl hg1 ?_
    refine TriL.skipu rfl rfl (ltb rfl) (ltb rfl) rfl hg1 ?_
    refine TriL.c1 rfl (op_pickf (ltb rfl) rfl hg1 rfl) ?_
    refine TriL.c1 rfl (op_mv (ltb rfl) rfl) ?_
    refine TriL.skipu rfl rfl (ltb rfl) (ltb rfl) rfl rfl ?_
    refine TriL.skipu rfl rfl (ltb rfl) (ltb rfl) rfl rfl ?_
    refine TriL.skipu rfl rfl (ltb rfl) (ltb rfl) rfl rfl ?_
    refine TriL.c1 rfl (op_pickf (ltb rfl) rfl rfl rfl) ?_
    refine TriL.c1 rfl (op_as (ltb rfl) rfl) ?_
    refine TriL.nil ?_
    refine Tri.ret ?_
    exact ⟨.inr rfl, (ResOK.r1 rfl (.tmp rfl .nil)).cast (congrArg AV.bool (by grind [Fld.packed])), rfl⟩
theorem p_hidden (f : Fld) : Pure Tryd.prog 64 [f.av] (.bool f.hidden) := by
  refine Pure.of_tri Tryd.func64 rfl rfl (ltb rfl) fun H => ?_
  refine Tri.seq ?_
  refine Tri.region ?_
  refine TriL.c2 rfl (op_box (ltb rfl) rfl rfl rfl) ?_
  refine TriL.c1 rfl (op_as (ltb rfl) rfl) ?_
  refine TriL.nil ?_
  refine Tri.seq ?_
  refine Tri.region ?_
  refine TriL.c1 rfl (op_fal (ltb rfl) fo23_4_M8 rfl) ?_
  refine TriL.c1 rfl (op_ldl (ltb rfl) lk4_M8 rfl rfl rfl) ?_
  refine TriL.c1 rfl (op_un (ltb rfl) rfl rfl) ?_
  refine TriL.c1 rfl (op_mv (ltb rfl) rfl) ?_
  refine TriL.split (d := 6) rfl (fun hg1 => ?_) (fun hg1 => ?_)
  · refine TriL.g1 rfl (ltb rfl) rfl hg1 (op_fal (ltb rfl) fo23_6_M8 rfl) ?_
    refine TriL.g1 rfl (ltb rfl) rfl hg1 (op_ldl (ltb rfl) lk9_M8 rfl rfl rfl) ?_
    refine TriL.g1 rfl (ltb rfl) rfl hg1 (op_bin (ltb rfl) rfl rfl rfl) ?_
    refine TriL.c1 rfl (op_pickt (ltb rfl) rfl hg1 rfl) ?_
    refine TriL.c1 rfl (op_mv (ltb rfl) rfl) ?_
    refine TriL.split (d := 11) rfl (fun hg2 => ?_) (fun hg2 => ?_)
    · refine TriL.g1 rfl (ltb rfl) rfl hg2 (op_fal (ltb rfl) fo23_2_M8 rfl) ?_
      refine TriL.g1 rfl (ltb rfl) rfl hg2 (op_ldl (ltb rfl) lk3_M8 rfl rfl rfl) ?_
      refine TriL.g1 rfl (ltb rfl) rfl hg2 (op_bin (ltb rfl) rfl rfl rfl) ?_
      refine TriL.c1 rfl (op_pickt (ltb rfl) rfl hg2 rfl) ?_
      refine TriL.c1 rfl (op_as (ltb rfl) rfl) ?_
      refine TriL.nil ?_
      refine Tri.ret ?_
      exact ⟨.inr rfl, (ResOK.r1 rfl (.tmp rfl .nil)).cast (congrArg AV.bool (by grind [Fld.hidden])), rfl⟩
    · refine TriL.skipu rfl rfl (ltb rfl) (ltb rfl) rfl hg2 ?_
      refine TriL.skipu rfl rfl (ltb rfl) (ltb rfl) rfl hg2 ?_
      refine TriL.skipu rfl rfl (ltb rfl) (ltb rfl) rfl hg2 ?_
      refine TriL.c1 rfl (op_pickf (ltb rfl) rfl hg2 rfl) ?_
      refine TriL.c1 rfl (op_as (ltb rfl) rfl) ?_
      refine TriL.nil ?_
      refine Tri.ret ?_
      exact ⟨.inr rfl, (ResOK.r1 rfl (.tmp rfl .nil)).cast (congrArg AV.bool (by grind [Fld.hidden])), rfl⟩
  · refine TriL.skipu rfl rfl (ltb rfl) (ltb rfl) rfl hg1 ?_
    refine TriL.skipu rfl rfl (ltb rfl) (ltb rfl) rfl hg1 ?_
    refine TriL.skipu rfl rfl (ltb rfl) (ltb rfl) rfl hg1 ?_
    refine TriL.c1 rfl (op_pickf (ltb rfl) rfl hg1 rfl) ?_
    refine TriL.c1 rfl (op_mv (ltb rfl) rfl) ?_
    refine TriL.skipu rfl rfl (ltb rfl) (ltb rfl) rfl rfl ?_
    refine TriL.skipu rfl rfl (ltb rfl) (ltb rfl) rfl rfl ?_
    refine TriL.skipu rfl rfl (ltb rfl) (ltb rfl) rfl rfl ?_
    refine TriL.c1 rfl (op_pickf (ltb rfl) rfl rfl rfl) ?_
    refine TriL.c1 rfl (op_as (ltb rfl) rfl) ?_
    refine TriL.nil ?_
    refine Tri.ret ?_
    exact ⟨.inr rfl, (ResOK.r1 rfl (.tmp rfl .nil)).cast (congrArg AV.bool (by grind [Fld.hidden])), rfl⟩
theorem p_tnum (n : Int) : Pure Tryd.prog 75 [.int .i64 n] (.bool (decide (1 ≤ n) && decide (n ≤ 536870911))) := by
  refine Pure.of_tri Tryd.func75 rfl rfl (ltb rfl) fun H => ?_
  refine Tri.seq ?_
  refine Tri.region ?_
  refine TriL.c1 rfl (op_as (ltb rfl) rfl) ?_
  refine TriL.nil ?_
  refine Tri.seq ?_
  refine Tri.region ?_
  refine TriL.c1 rfl (op_mv (ltb rfl) rfl) ?_
  refine TriL.c1 rfl (op_bin (ltb rfl) rfl rfl rfl) ?_
  refine TriL.c1 rfl (op_mv (ltb rfl) rfl) ?_
  refine TriL.split (d := 5) rfl (fun hg1 => ?_) (fun hg1 => ?_)
  · refine TriL.g1 rfl (ltb rfl) rfl hg1 (op_mv (ltb rfl) rfl) ?_
    refine TriL.g1 rfl (ltb rfl) rfl hg1 (op_bin (ltb rfl) rfl rfl rfl) ?_
    refine TriL.c1 rfl (op_pickt (ltb rfl) rfl hg1 rfl) ?_
    refine TriL.c1 rfl (op_as (ltb rfl) rfl) ?_
    refine TriL.nil ?_
    refine Tri.ret ?_
    exact ⟨.inr rfl, (ResOK.r1 rfl (.tmp rfl .nil)).cast (congrArg AV.bool (by grind [])), rfl⟩
  · refine TriL.skipu rfl rfl (ltb rfl) (ltb rfl) rfl hg1 ?_
    refine TriL.skipu rfl rfl (ltb rfl) (ltb rfl) rfl hg1 ?_
    refine TriL.c1 rfl (op_pickf (ltb rfl) rfl hg1 rfl) ?_
    refine TriL.c1 rfl (op_as (ltb rfl) rfl) ?_
    refine TriL.nil ?_
    refine Tri.ret ?_
    exact ⟨.inr rfl, (ResOK.r1 rfl (.tmp rfl .nil)).cast (congrArg AV.bool (by grind [])), rfl⟩
theorem p_tagOK (n w : Int) : Pure Tryd.prog 65 [.int .i64 n, .int .i64 w] (.bool (tagOK n w)) := by
  refine Pure.of_tri Tryd.func65 rfl rfl (ltb rfl) fun H => ?_
  refine Tri.seq ?_
  refine Tri.region ?_
  refine TriL.c1 rfl (op_as (ltb rfl) rfl) ?_
  refine TriL.nil ?_
  refine Tri.seq ?_
  refine Tri.region ?_
  refine TriL.c1 rfl (op_as (ltb rfl) rfl) ?_
  refine TriL.nil ?_
  refine Tri.seq ?_
  refine Tri.seq ?_
  refine Tri.region ?_
  refine TriL.c1 rfl (op_mv (ltb rfl) rfl) ?_
  refine TriL.nil ?_
  refine Tri.blk ?_
  refine Tri.seq ?_
  refine Tri.blk ?_
  refine Tri.blk ?_
  refine Tri.blk ?_
  refine Tri.seq ?_
  refine Tri.seq ?_
  refine Tri.seq ?_
  refine Tri.seq ?_
  refine Tri.region ?_
  refine TriL.c1 rfl (op_bin (ltb rfl) rfl rfl rfl) ?_
  refine TriL.c1 rfl (op_as (ltb rfl) rfl) ?_
  refine TriL.nil ?_
  refine Tri.cond rfl (fun hc1 => ?_) (fun hc1 => ?_)
  · refine Tri.skip ?_
    refine Tri.condT rfl hc1 ?_
    refine Tri.exit ?_
    refine Tri.seq ?_
    refine Tri.region ?_
    refine TriL.c1 rfl (op_as (ltb rfl) rfl) ?_
    refine TriL.nil ?_
    refine Tri.exit ?_
    refine Tri.seq ?_
    refine Tri.region ?_
    refine TriL.c1 rfl (op_mv (ltb rfl) rfl) ?_
    refine TriL.c1 rfl (op_mv (ltb rfl) rfl) ?_
    refine TriL.g1 rfl (ltb rfl) rfl rfl (op_mv (ltb rfl) rfl) ?_
    refine TriL.g1 rfl (ltb rfl) rfl rfl (op_call (ltb rfl) fn75_M8 rfl (p_tnum _)) ?_
    refine TriL.c1 rfl (op_pickt (ltb rfl) rfl rfl rfl) ?_
    refine TriL.c1 rfl (op_as (ltb rfl) rfl) ?_
    refine TriL.nil ?_
    refine Tri.ret ?_
    exact ⟨.inr rfl, (ResOK.r1 rfl (.tmp rfl .nil)).cast (congrArg AV.bool (by grind [tagOK])), rfl⟩
  · -- region 4 tag.go:20
    refine Tri.region ?_
    refine TriL.c1 rfl (op_bin (ltb rfl) rfl rfl rfl) ?_
    refine TriL.c1 rfl (op_as (ltb rfl) rfl) ?_
    refine TriL.nil ?_
    refine Tri.cond rfl (fun hc2 => ?_) (fun hc2 => ?_)
    · refine Tri.exit ?_
      refine Tri.seq ?_
      refine Tri.region ?_
      refine TriL.c1 rfl (op_as (ltb rfl) rfl) ?_
      refine TriL.nil ?_
      refine Tri.exit ?_
      refine Tri.seq ?_
      refine Tri.region ?_
      refine TriL.c1 rfl (op_mv (ltb rfl) rfl) ?_
      refine TriL.c1 rfl (op_mv (ltb rfl) rfl) ?_
      refine TriL.g1 rfl (ltb rfl) rfl rfl (op_mv (ltb rfl) rfl) ?_
      refine TriL.g1 rfl (ltb rfl) rfl rfl (op_call (ltb rfl) fn75_M8 rfl (p_tnum _)) ?_
      refine TriL.c1 rfl (op_pickt (ltb rfl) rfl rfl rfl) ?_
      refine TriL.c1 rfl (op_as (ltb rfl) rfl) ?_
      refine TriL.nil ?_
      refine Tri.ret ?_
      exact ⟨.inr rfl, (ResOK.r1 rfl (.tmp rfl .nil)).cast (congrArg AV.bool (by grind [tagOK])), rfl⟩
    · refine Tri.skip ?_
      refine Tri.seq ?_
      refine Tri.seq ?_
      refine Tri.region ?_
      refine TriL.c1 rfl (op_bin (ltb rfl) rfl rfl rfl) ?_
      refine TriL.c1 rfl (op_as (ltb rfl) rfl) ?_
      refine TriL.nil ?_
      refine Tri.cond rfl (fun hc3 => ?_) (fun hc3 => ?_)
      · refine Tri.exit ?_
        refine Tri.seq ?_
        refine Tri.region ?_
        refine TriL.c1 rfl (op_as (ltb rfl) rfl) ?_
        refine TriL.nil ?_
        refine Tri.exit ?_
        refine Tri.seq ?_
        refine Tri.region ?_
        refine TriL.c1 rfl (op_mv (ltb rfl) rfl) ?_
        refine TriL.c1 rfl (op_mv (ltb rfl) rfl) ?_
        refine TriL.g1 rfl (ltb rfl) rfl rfl (op_mv (ltb rfl) rfl) ?_
        refine TriL.g1 rfl (ltb rfl) rfl rfl (op_call (ltb rfl) fn75_M8 rfl (p_tnum _)) ?_
        refine TriL.c1 rfl (op_pickt (ltb rfl) rfl rfl rfl) ?_
        refine TriL.c1 rfl (op_as (ltb rfl) rfl) ?_
        refine TriL.nil ?_
        refine Tri.ret ?_
        exact ⟨.inr rfl, (ResOK.r1 rfl (.tmp rfl .nil)).cast (congrArg AV.bool (by grind [tagOK])), rfl⟩
      · refine Tri.skip ?_
        refine Tri.seq ?_
        refine Tri.region ?_
        refine TriL.c1 rfl (op_bin (ltb rfl) rfl rfl rfl) ?_
        refine TriL.c1 rfl (op_as (ltb rfl) rfl) ?_
        refine TriL.nil ?_
        refine Tri.cond rfl (fun hc4 => ?_) (fun hc4 => ?_)
        · refine Tri.exit ?_
          refine Tri.seq ?_
          refine Tri.region ?_
          refine TriL.c1 rfl (op_as (ltb rfl) rfl) ?_
          refine TriL.nil ?_
          refine Tri.exit ?_
          refine Tri.seq ?_
          refine Tri.region ?_
          refine TriL.c1 rfl (op_mv (ltb rfl) rfl) ?_
          refine TriL.c1 rfl (op_mv (ltb rfl) rfl) ?_
          refine TriL.g1 rfl (ltb rfl) rfl rfl (op_mv (ltb rfl) rfl) ?_
          refine TriL.g1 rfl (ltb rfl) rfl rfl (op_call (ltb rfl) fn75_M8 rfl (p_tnum _)) ?_
          refine TriL.c1 rfl (op_pickt (ltb rfl) rfl rfl rfl) ?_
          refine TriL.c1 rfl (op_as (ltb rfl) rfl) ?_
          refine TriL.nil ?_
          refine Tri.ret ?_
          exact ⟨.inr rfl, (ResOK.r1 rfl (.tmp rfl .nil)).cast (congrArg AV.bool (by grind [tagOK])), rfl⟩
        · refine Tri.skip ?_
          refine Tri.exit ?_
          refine Tri.seq ?_
          refine Tri.region ?_
          refine TriL.c1 rfl (op_mv (ltb rfl) rfl) ?_
          refine TriL.c1 rfl (op_mv (ltb rfl) rfl) ?_
          refine TriL.skipu rfl rfl (ltb rfl) (ltb rfl) rfl rfl ?_
          refine TriL.skipu rfl rfl (ltb rfl) (ltb rfl) rfl rfl ?_
          refine TriL.c1 rfl (op_pickf (ltb rfl) rfl rfl rfl) ?_
          refine TriL.c1 rfl (op_as (ltb rfl) rfl) ?_
          refine TriL.nil ?_
          refine Tri.ret ?_
          exact ⟨.inr rfl, (ResOK.r1 rfl (.tmp rfl .nil)).cast (congrArg AV.bool (by grind [tagOK])), rfl⟩
theorem p_rright (r : Rw) : Pure Tryd.prog 51 [r.av] (.bool r.right) := by
  have h2 : ((((r.n / 2 ^ (min ((32 : Int)).toNat IntKind.u64.bits) : Nat) : Int)) == 0) = decide (r.n < 4294967296) := (by rw [show 2 ^ (min ((32 : Int)).toNat IntKind.u64.bits) = 4294967296 by decide, Bool.eq_iff_iff]; simp; omega)
  refine Pure.of_tri Tryd.func51 rfl rfl (ltb rfl) fun H => ?_
  refine Tri.seq ?_
  refine Tri.region ?_
  refine TriL.c2 rfl (op_box (ltb rfl) rfl rfl rfl) ?_
  refine TriL.c1 rfl (op_as (ltb rfl) rfl) ?_
  refine TriL.nil ?_
  refine Tri.seq ?_
  refine Tri.blk ?_
  refine Tri.seq ?_
  refine Tri.region ?_
  refine TriL.c1 rfl (op_fal (ltb rfl) fo96_0_M8 rfl) ?_
  refine TriL.c1 rfl (op_ldl (ltb rfl) lk3_M8 rfl rfl rfl) ?_
  refine TriL.c1 rfl (op_fal (ltb rfl) fo96_1_M8 rfl) ?_
  refine TriL.c1 rfl (op_ldl (ltb rfl) lk3_M8 rfl rfl rfl) ?_
  refine TriL.c1 rfl (op_call (ltb rfl) fn65_M8 rfl (p_tagOK _ _)) ?_
  refine TriL.c1 rfl (op_un (ltb rfl) rfl rfl) ?_
  refine TriL.c1 rfl (op_as (ltb rfl) rfl) ?_
  refine TriL.nil ?_
  refine Tri.cond rfl (fun hc1 => ?_) (fun hc1 => ?_)
  · refine Tri.seq ?_
    refine Tri.region ?_
    refine TriL.c1 rfl (op_as (ltb rfl) rfl) ?_
    refine TriL.nil ?_
    refine Tri.ret ?_
    exact ⟨.inr rfl, (ResOK.r1 rfl (.tmp rfl .nil)).cast (congrArg AV.bool (by grind [Rw.right])), rfl⟩
  · refine Tri.seq ?_
    refine Tri.region ?_
    refine TriL.c1 rfl (op_fal (ltb rfl) fo96_1_M8 rfl) ?_
    refine TriL.c1 rfl (op_ldl (ltb rfl) lk3_M8 rfl rfl rfl) ?_
    refine TriL.c1 rfl (op_bin (ltb rfl) rfl rfl rfl) ?_
    refine TriL.c1 rfl (op_as (ltb rfl) rfl) ?_
    refine TriL.nil ?_
    refine Tri.cond rfl (fun hc2 => ?_) (fun hc2 => ?_)
    · refine Tri.seq ?_
      refine Tri.region ?_
      refine TriL.c1 rfl (op_fal (ltb rfl) fo96_2_M8 rfl) ?_
      refine TriL.c1 rfl (op_ldl (ltb rfl) lk40_M8 rfl rfl rfl) ?_
      refine TriL.c1 rfl (op_bin (ltb rfl) rfl rfl rfl) ?_
      refine TriL.c1 rfl (op_as (ltb rfl) rfl) ?_
      refine TriL.nil ?_
      refine Tri.ret ?_
      exact ⟨.inr rfl, (ResOK.r1 rfl (.tmp rfl .nil)).cast (congrArg AV.bool (by grind [Rw.right])), rfl⟩
    · refine Tri.seq ?_
      refine Tri.region ?_
      refine TriL.c1 rfl (op_fal (ltb rfl) fo96_1_M8 rfl) ?_
      refine TriL.c1 rfl (op_ldl (ltb rfl) lk3_M8 rfl rfl rfl) ?_
      refine TriL.c1 rfl (op_bin (ltb rfl) rfl rfl rfl) ?_
      refine TriL.c1 rfl (op_mv (ltb rfl) rfl) ?_
      refine TriL.split (d := 21) rfl (fun hg3 => ?_) (fun hg3 => ?_)
      · refine TriL.g1 rfl (ltb rfl) rfl hg3 (op_fal (ltb rfl) fo96_2_M8 rfl) ?_
        refine TriL.g1 rfl (ltb rfl) rfl hg3 (op_ldl (ltb rfl) lk40_M8 rfl rfl rfl) ?_
        refine TriL.g1 rfl (ltb rfl) rfl hg3 (op_shr (ltb rfl) rfl rfl (by decide)) ?_
        refine TriL.g1 rfl (ltb rfl) rfl hg3 (op_bin (ltb rfl) rfl rfl rfl) ?_
        refine TriL.c1 rfl (op_pickt (ltb rfl) rfl hg3 rfl) ?_
        refine TriL.c1 rfl (op_as (ltb rfl) rfl) ?_
        refine TriL.nil ?_
        refine Tri.cond rfl (fun hc4 => ?_) (fun hc4 => ?_)
        · refine Tri.seq ?_
          refine Tri.region ?_
          refine TriL.c1 rfl (op_as (ltb rfl) rfl) ?_
          refine TriL.nil ?_
          refine Tri.ret ?_
          exact ⟨.inr rfl, (ResOK.r1 rfl (.tmp rfl .nil)).cast (congrArg AV.bool (by grind [Rw.right])), rfl⟩
        · refine Tri.skip ?_
          refine Tri.seq ?_
          refine Tri.region ?_
          refine TriL.c1 rfl (op_fal (ltb rfl) fo96_3_M8 rfl) ?_
          refine TriL.c1 rfl (op_ldl (ltb rfl) lk9_M8 rfl rfl rfl) ?_
          refine TriL.c1 rfl (op_bin (ltb rfl) rfl rfl rfl) ?_
          refine TriL.c1 rfl (op_as (ltb rfl) rfl) ?_
          refine TriL.nil ?_
          refine Tri.ret ?_
          exact ⟨.inr rfl, (ResOK.r1 rfl (.tmp rfl .nil)).cast (congrArg AV.bool (by grind [Rw.right])), rfl⟩
      · refine TriL.skipu rfl rfl (ltb rfl) (ltb rfl) rfl hg3 ?_
        refine TriL.skipu rfl rfl (ltb rfl) (ltb rfl) rfl hg3 ?_
        refine TriL.skipu rfl rfl (ltb rfl) (ltb rfl) rfl hg3 ?_
        refine TriL.skipu rfl rfl (ltb rfl) (ltb rfl) rfl hg3 ?_
        refine TriL.c1 rfl (op_pickf (ltb rfl) rfl hg3 rfl) ?_
        refine TriL.c1 rfl (op_as (ltb rfl) rfl) ?_
        refine TriL.nil ?_
        refine Tri.condF rfl rfl ?_
        refine Tri.skip ?_
        refine Tri.seq ?_
        refine Tri.region ?_
        refine TriL.c1 rfl (op_fal (ltb rfl) fo96_3_M8 rfl) ?_
        refine TriL.c1 rfl (op_ldl (ltb rfl) lk9_M8 rfl rfl rfl) ?_
        refine TriL.c1 rfl (op_bin (ltb rfl) rfl rfl rfl) ?_
        refine TriL.c1 rfl (op_as (ltb rfl) rfl) ?_
        refine TriL.nil ?_
        refine Tri.ret ?_
        exact ⟨.inr rfl, (ResOK.r1 rfl (.tmp rfl .nil)).cast (congrArg AV.bool (by grind [Rw.right])), rfl⟩
theorem p_ixfM (l : List Msg) (hl : l.length ≤ 9223372036854775807) (F : FuncId) (caps : List AV) (p : Msg → Bool) (hF : isFn Tryd.prog F = true) (hp : ∀ x ∈ l, Pure Tryd.prog F ([x.av] ++ caps) (.bool (p x))) : Pure Tryd.prog 32 [.sl (l.map Msg.av), .fn F caps] (.int .i64 (ixFrom p l 0)) := by
  refine Pure.of_tri Tryd.func32 rfl rfl (ltb rfl) fun H => ?_
  refine Tri.seq ?_
  refine Tri.region ?_
  refine TriL.c1 rfl (op_as (ltb rfl) rfl) ?_
  refine TriL.nil ?_
  refine Tri.seq ?_
  refine Tri.seq ?_
  refine Tri.region ?_
  refine TriL.c1 rfl (op_mv (ltb rfl) rfl) ?_
  refine TriL.c1 rfl (op_lenl (ltb rfl) un32_M8 rfl) ?_
  refine TriL.c1 rfl (op_mv (ltb rfl) rfl) ?_
  refine TriL.nil ?_
  refine Tri.blk ?_
  refine Tri.ofKept (Kept.keep [.s 8, .h, .s 0, .s 1, .s 7] rfl (by decide) (Kept.now ?_))
  -- LOOP 1
  refine Tri.loopk (fun (i : Nat) => [(.s 8, .sv (.v (.int .i64 (i : Int))))]) _ (fun (i : Nat) => ixFrom p (l.drop i) i = ixFrom p l 0) (fun (i : Nat) => l.length - i) 0 rfl (by simp) ?_
  rintro i hI
  refine Tri.seq ?_
  refine Tri.region ?_
  refine TriL.c1 rfl (op_bin (ltb rfl) rfl rfl rfl) ?_
  refine TriL.nil ?_
  refine Tri.seq ?_
  refine Tri.cond rfl (fun hc1 => ?_) (fun hc1 => ?_)
  · have hi := ltm hc1
    have hS := ixFrom_step (p := p) hi
    refine Tri.skip ?_
    refine Tri.seq ?_
    refine Tri.blk ?_
    refine Tri.seq ?_
    refine Tri.region ?_
    refine TriL.c1 rfl (op_mv (ltb rfl) rfl) ?_
    refine TriL.c1 rfl (op_as (ltb rfl) rfl) ?_
    refine TriL.nil ?_
    refine Tri.seq ?_
    refine Tri.region ?_
    refine TriL.c1 rfl (op_mv (ltb rfl) rfl) ?_
    refine TriL.c1 rfl (op_mv (ltb rfl) rfl) ?_
    refine TriL.c1 rfl (op_mv (ltb rfl) rfl) ?_
    refine TriL.c1 rfl (op_iak (ltb rfl) ie32_M8 rfl rfl (Int.natCast_nonneg _) (ixm hi) rfl) ?_
    refine TriL.c1 rfl (op_ldk (ltb rfl) lk31_M8 rfl rfl) ?_
    refine TriL.c1 rfl (op_callc (ltb rfl) hF rfl rfl (hp _ (List.getElem_mem hi))) ?_
    refine TriL.nil ?_
    refine Tri.cond rfl (fun hc2 => ?_) (fun hc2 => ?_)
    · refine Tri.seq ?_
      refine Tri.region ?_
      refine TriL.c1 rfl (op_mv (ltb rfl) rfl) ?_
      refine TriL.c1 rfl (op_as (ltb rfl) rfl) ?_
      refine TriL.nil ?_
      refine Tri.ret ?_
      exact ⟨.inr rfl, (ResOK.r1 rfl (.tmp rfl .nil)).cast (congrArg (AV.int .i64) (by grind [])), rfl⟩
    · refine Tri.skip ?_
      refine Tri.region ?_
      refine TriL.c1 rfl (op_bin (ltb rfl) rfl rfl rfl) ?_
      refine TriL.c1 rfl (op_mv (ltb rfl) rfl) ?_
      refine TriL.kept (Kept.seti 8 rfl (inc (by omega)) (Kept.keep [.s 8, .h, .s 0, .s 1, .s 7] rfl (by decide) (Kept.now ?_)))
      exact ⟨i + 1, by omega, by grind, rfl⟩
  · have hi := gem hc1
    have hS := ixFrom_end (p := p) hi
    refine Tri.exit ?_
    refine Tri.seq ?_
    refine Tri.region ?_
    refine TriL.c1 rfl (op_as (ltb rfl) rfl) ?_
    refine TriL.nil ?_
    refine Tri.ret ?_
    exact ⟨.inr rfl, (ResOK.r1 rfl (.tmp rfl .nil)).cast (congrArg (AV.int .i64) (by grind [])), rfl⟩
theorem p_ixfF (l : List Fld) (hl : l.length ≤ 9223372036854775807) (F : FuncId) (caps : List AV) (p : Fld → Bool) (hF : isFn Tryd.prog F = true) (hp : ∀ x ∈ l, Pure Tryd.prog F ([x.av] ++ caps) (.bool (p x))) : Pure Tryd.prog 55 [.sl (l.map Fld.av), .fn F caps] (.int .i64 (ixFrom p l 0)) := by
  refine Pure.of_tri Tryd.func55 rfl rfl (ltb rfl) fun H => ?_
  refine Tri.seq ?_
  refine Tri.region ?_
  refine TriL.c1 rfl (op_as (ltb rfl) rfl) ?_
  refine TriL.nil ?_
  refine Tri.seq ?_
  refine Tri.seq ?_
  refine Tri.region ?_
  refine TriL.c1 rfl (op_mv (ltb rfl) rfl) ?_
  refine TriL.c1 rfl (op_lenl (ltb rfl) un28_M8 rfl) ?_
  refine TriL.c1 rfl (op_mv (ltb rfl) rfl) ?_
  refine TriL.nil ?_
  refine Tri.blk ?_
  refine Tri.ofKept (Kept.keep [.s 8, .h, .s 0, .s 1, .s 7] rfl (by decide) (Kept.now ?_))
  -- LOOP 1
  refine Tri.loopk (fun (i : Nat) => [(.s 8, .sv (.v (.int .i64 (i : Int))))]) _ (fun (i : Nat) => ixFrom p (l.drop i) i = ixFrom p l 0) (fun (i : Nat) => l.length - i) 0 rfl (by simp) ?_
  rintro i hI
  refine Tri.seq ?_
  refine Tri.region ?_
  refine TriL.c1 rfl (op_bin (ltb rfl) rfl rfl rfl) ?_
  refine TriL.nil ?_
  refine Tri.seq ?_
  refine Tri.cond rfl (fun hc1 => ?_) (fun hc1 => ?_)
  · have hi := ltm hc1
    have hS := ixFrom_step (p := p) hi
    refine Tri.skip ?_
    refine Tri.seq ?_
    refine Tri.blk ?_
    refine Tri.seq ?_
    refine Tri.region ?_
    refine TriL.c1 rfl (op_mv (ltb rfl) rfl) ?_
    refine TriL.c1 rfl (op_as (ltb rfl) rfl) ?_
    refine TriL.nil ?_
    refine Tri.seq ?_
    refine Tri.region ?_
    refine TriL.c1 rfl (op_mv (ltb rfl) rfl) ?_
    refine TriL.c1 rfl (op_mv (ltb rfl) rfl) ?_
    refine TriL.c1 rfl (op_mv (ltb rfl) rfl) ?_
    refine TriL.c1 rfl (op_iak (ltb rfl) ie28_M8 rfl rfl (Int.natCast_nonneg _) (ixm hi) rfl) ?_
    refine TriL.c1 rfl (op_ldk (ltb rfl) lk23_M8 rfl rfl) ?_
    refine TriL.c1 rfl (op_callc (ltb rfl) hF rfl rfl (hp _ (List.getElem_mem hi))) ?_
    refine TriL.nil ?_
    refine Tri.cond rfl (fun hc2 => ?_) (fun hc2 => ?_)
    · refine Tri.seq ?_
      refine Tri.region ?_
      refine TriL.c1 rfl (op_mv (ltb rfl) rfl) ?_
      refine TriL.c1 rfl (op_as (ltb rfl) rfl) ?_
      refine TriL.nil ?_
      refine Tri.ret ?_
      exact ⟨.inr rfl, (ResOK.r1 rfl (.tmp rfl .nil)).cast (congrArg (AV.int .i64) (by grind [])), rfl⟩
    · refine Tri.skip ?_
      refine Tri.region ?_
      refine TriL.c1 rfl (op_bin (ltb rfl) rfl rfl rfl) ?_
      refine TriL.c1 rfl (op_mv (ltb rfl) rfl) ?_
      refine TriL.kept (Kept.seti 8 rfl (inc (by omega)) (Kept.keep [.s 8, .h, .s 0, .s 1, .s 7] rfl (by decide) (Kept.now ?_)))
      exact ⟨i + 1, by omega, by grind, rfl⟩
  · have hi := gem hc1
    have hS := ixFrom_end (p := p) hi
    refine Tri.exit ?_
    refine Tri.seq ?_
    refine Tri.region ?_
    refine TriL.c1 rfl (op_as (ltb rfl) rfl) ?_
    refine TriL.nil ?_
    refine Tri.ret ?_
    exact ⟨.inr rfl, (ResOK.r1 rfl (.tmp rfl .nil)).cast (congrArg (AV.int .i64) (by grind [])), rfl⟩
theorem p_fm1 (m : Msg) (name : Str) : Pure Tryd.prog 33 ([m.av] ++ [.kp [.str name]]) (.bool (m.name == name)) := by
  refine Pure.of_tri Tryd.func33 rfl rfl (ltb rfl) fun H => ?_
  refine Tri.seq ?_
  refine Tri.region ?_
  refine TriL.c2 rfl (op_box (ltb rfl) rfl rfl rfl) ?_
  refine TriL.c1 rfl (op_as (ltb rfl) rfl) ?_
  refine TriL.nil ?_
  refine Tri.seq ?_
  refine Tri.region ?_
  refine TriL.c1 rfl (op_fal (ltb rfl) fo31_0_M8 rfl) ?_
  refine TriL.c1 rfl (op_ldl (ltb rfl) lk9_M8 rfl rfl rfl) ?_
  refine TriL.c1 rfl (op_ldk (ltb rfl) lk9_M8 rfl rfl) ?_
  refine TriL.c1 rfl (op_bin (ltb rfl) rfl rfl rfl) ?_
  refine TriL.c1 rfl (op_as (ltb rfl) rfl) ?_
  refine TriL.nil ?_
  refine Tri.ret ?_
  exact ⟨.inr rfl, (ResOK.r1 rfl (.tmp rfl .nil)).cast rfl, rfl⟩
theorem p_fn1 (f : Fld) (num : Int) : Pure Tryd.prog 56 ([f.av] ++ [.kp [.int .i64 num]]) (.bool (f.num == num)) := by
  refine Pure.of_tri Tryd.func56 rfl rfl (ltb rfl) fun H => ?_
  refine Tri.seq ?_
  refine Tri.region ?_
  refine TriL.c2 rfl (op_box (ltb rfl) rfl rfl rfl) ?_
  refine TriL.c1 rfl (op_as (ltb rfl) rfl) ?_
  refine TriL.nil ?_
  refine Tri.seq ?_
  refine Tri.region ?_
  refine TriL.c1 rfl (op_fal (ltb rfl) fo23_1_M8 rfl) ?_
  refine TriL.c1 rfl (op_ldl (ltb rfl) lk3_M8 rfl rfl rfl) ?_
  refine TriL.c1 rfl (op_ldk (ltb rfl) lk3_M8 rfl rfl) ?_
  refine TriL.c1 rfl (op_bin (ltb rfl) rfl rfl rfl) ?_
  refine TriL.c1 rfl (op_as (ltb rfl) rfl) ?_
  refine TriL.nil ?_
  refine Tri.ret ?_
  exact ⟨.inr rfl, (ResOK.r1 rfl (.tmp rfl .nil)).cast rfl, rfl⟩
theorem p_msgIx (s : Sch) (name : Str) (hl : s.msgs.length ≤ 9223372036854775807) : Pure Tryd.prog 17 [s.av, .str name] (.int .i64 (s.msgIx name)) := by
  refine Pure.of_tri Tryd.func17 rfl rfl (ltb rfl) fun H => ?_
  refine Tri.seq ?_
  refine Tri.region ?_
  refine TriL.c2 rfl (op_box (ltb rfl) rfl rfl rfl) ?_
  refine TriL.c2 rfl (op_box (ltb rfl) rfl rfl rfl) ?_
  refine TriL.c1 rfl (op_as (ltb rfl) rfl) ?_
  refine TriL.nil ?_
  refine Tri.seq ?_
  refine Tri.ofKept (Kept.fzb 3 rfl rfl (Kept.now ?_))
  refine Tri.region ?_
  refine TriL.c1 rfl (op_fal (ltb rfl) fo35_1_M8 rfl) ?_
  refine TriL.c1 rfl (op_ldl (ltb rfl) lk32_M8 rfl rfl rfl) ?_
  refine TriL.c1 rfl (op_mkf (ltb rfl) rfl) ?_
  refine TriL.c1 rfl (op_call (ltb rfl) fn32_M8 rfl (p_ixfM s.msgs hl _ _ (fun m => m.name == name) fn33_M8 (fun x _ => p_fm1 x name))) ?_
  refine TriL.c1 rfl (op_as (ltb rfl) rfl) ?_
  refine TriL.nil ?_
  refine Tri.ret ?_
  exact ⟨.inr rfl, (ResOK.r1 rfl (.tmp rfl .nil)).cast rfl, rfl⟩
theorem p_number (m : Msg) (num : Int) (hl : m.fields.length ≤ 1000) : Pure Tryd.prog 39 [m.av, .int .i64 num] (.int .i64 (m.at num)) := by
  refine Pure.of_tri Tryd.func39 rfl rfl (ltb rfl) fun H => ?_
  refine Tri.seq ?_
  refine Tri.region ?_
  refine TriL.c2 rfl (op_box (ltb rfl) rfl rfl rfl) ?_
  refine TriL.c2 rfl (op_box (ltb rfl) rfl rfl rfl) ?_
  refine TriL.c1 rfl (op_as (ltb rfl) rfl) ?_
  refine TriL.nil ?_
  refine Tri.seq ?_
  refine Tri.ofKept (Kept.fzb 3 rfl rfl (Kept.now ?_))
  refine Tri.region ?_
  refine TriL.c1 rfl (op_fal (ltb rfl) fo31_1_M8 rfl) ?_
  refine TriL.c1 rfl (op_ldl (ltb rfl) lk28_M8 rfl rfl rfl) ?_
  refine TriL.c1 rfl (op_mkf (ltb rfl) rfl) ?_
  refine TriL.c1 rfl (op_call (ltb rfl) fn55_M8 rfl (p_ixfF m.fields (by omega) _ _ (fun f => f.num == num) fn56_M8 (fun x _ => p_fn1 x num))) ?_
  refine TriL.c1 rfl (op_as (ltb rfl) rfl) ?_
  refine TriL.nil ?_
  refine Tri.ret ?_
  exact ⟨.inr rfl, (ResOK.r1 rfl (.tmp rfl .nil)).cast rfl, rfl⟩
end Go.Proofs.YtnpgcmeclkncnaaDoor.X
