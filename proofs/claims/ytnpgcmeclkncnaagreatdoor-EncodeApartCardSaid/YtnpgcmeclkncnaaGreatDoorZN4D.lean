/- Plain laws: names, numbers of fields, types, fields, schemas, as the document defines them. No condition. -/
import Derived.Test.YtnpgcmeclkncnaaGreatDoorZN4C
import Derived.Test.YtnpgcmeclkncnaaGreatDoorProg
import Derived.KernelRfl
import Derived.Lib.ValidU
set_option linter.unusedVariables false
namespace Go.Proofs.YtnpgcmeclkncnaaGreatDoor.X
open Go Go.RowKit Go.Proofs
theorem mixed : Tryz.prog.follows .mixedOrders = true := by kernel_rfl
/-- the place of the first one; -1: there is none -/
def ixFrom {α : Type} (p : α → Bool) : List α → Nat → Int
  | [], _ => -1
  | a :: l, i => if p a then i else ixFrom p l (i + 1)
theorem ixFrom_step {α : Type} {p : α → Bool} {l : List α} {i : Nat} (h : i < l.length) : ixFrom p (l.drop i) i = if p l[i] then (i : Int) else ixFrom p (l.drop (i + 1)) (i + 1) := by
  rw [List.drop_eq_getElem_cons h]; rfl
theorem ixFrom_end {α : Type} {p : α → Bool} {l : List α} {i : Nat} (h : l.length ≤ i) : ixFrom p (l.drop i) i = -1 := by
  rw [List.drop_of_length_le h]; rfl
theorem all_step {α : Type} {p : α → Bool} {l : List α} {i : Nat} (h : i < l.length) : (l.drop i).all p = (p l[i] && (l.drop (i + 1)).all p) := by
  rw [List.drop_eq_getElem_cons h]; rfl
theorem all_end {α : Type} {p : α → Bool} {l : List α} {i : Nat} (h : l.length ≤ i) : (l.drop i).all p = true := by
  rw [List.drop_of_length_le h]; rfl
theorem any_step {α : Type} {p : α → Bool} {l : List α} {i : Nat} (h : i < l.length) : (l.drop i).any p = (p l[i] || (l.drop (i + 1)).any p) := by
  rw [List.drop_eq_getElem_cons h]; rfl
theorem any_end {α : Type} {p : α → Bool} {l : List α} {i : Nat} (h : l.length ≤ i) : (l.drop i).any p = false := by
  rw [List.drop_of_length_le h]; rfl
theorem take_app {α : Type} {l : List α} {i : Nat} {f : α → AV} {acc : List AV} (h : i < l.length) (ha : acc = (l.take i).map f) : acc ++ [f l[i]] = (l.take (i + 1)).map f := by
  rw [ha, List.take_succ_eq_append_getElem h, List.map_append]; rfl
theorem take_app2 {α : Type} {l : List α} {i : Nat} {f : α → AV} {acc l0 : List AV} (h : i < l.length) (ha : acc = l0 ++ (l.take i).map f) : acc ++ [f l[i]] = l0 ++ (l.take (i + 1)).map f := by
  rw [ha, List.take_succ_eq_append_getElem h, List.map_append, List.append_assoc]; rfl
theorem take_end {α : Type} {l : List α} {i : Nat} (h : l.length ≤ i) : l.take i = l := List.take_of_length_le h
theorem Pure.at {P : Program} {f : FuncId} {a a' : List AV} {r : AV} (h : Pure P f a r) (e : a' = a) : Pure P f a' r := e ▸ h
theorem okEls_str {α : Type} (f : α → Str) (l : List α) : okEls 1 (l.map fun x => AV.str (f x)) = true := by
  simp [okEls, AV.cells, AV.flat]
theorem ixeq {α : Type} {f : α → AV} {xs : List α} {c : List AV} {i : Nat} (h : c = xs.map f) (hi : i < xs.length) : c[((i : Nat) : Int).toNat]? = some (f xs[i]) := by
  subst h; exact ixm hi
theorem ixeq1 {α : Type} {f : α → AV} {xs : List α} {c : List AV} {i : Nat} {j : Int} (hj : j = (i : Int)) (h : c = xs.map f) (hi : i < xs.length) : c[j.toNat]? = some (f xs[i]) := by
  subst h; subst hj; exact ixm hi
theorem headD_map {α β : Type} {f : α → β} {l : List α} {d : β} (h : 0 < l.length) : (l.map f).headD d = f l[0] := by
  cases l with
  | nil => simp at h
  | cons a l => rfl
theorem lastD_map {α β : Type} {f : α → β} {l : List α} {d : β} (h : 0 < l.length) : (l.map f).getLastD d = f (l[l.length - 1]'(by omega)) := by
  rw [List.getLastD_eq_getLast?, List.getLast?_map, List.getLast?_eq_getElem?, List.getElem?_eq_getElem (by omega)]; rfl
theorem headD_get {α : Type} {l : List α} {d : α} (h : 0 < l.length) : l.headD d = l[0] := by
  cases l with
  | nil => simp at h
  | cons a l => rfl
theorem lastD_get {α : Type} {l : List α} {d : α} (h : 0 < l.length) : l.getLastD d = l[l.length - 1]'(by omega) := by
  rw [List.getLastD_eq_getLast?, List.getLast?_eq_getElem?, List.getElem?_eq_getElem (by omega)]; rfl
theorem take_drop0 {α : Type} (l : List α) : (l.take (0 + 1)).drop 1 = [] := by cases l <;> simp
theorem take_drop1 {α : Type} {l : List α} {i : Nat} (h0 : 0 < i) (h : i < l.length) : (l.take (i + 1)).drop 1 = (l.take i).drop 1 ++ [l[i]] := by
  rw [List.take_succ_eq_append_getElem h, List.drop_append_of_le_length (by rw [List.length_take]; omega)]
/-! ### names -/
def letter (c : UInt8) : Bool := (decide (97 ≤ c.toNat) && decide (c.toNat ≤ 122)) || (decide (65 ≤ c.toNat) && decide (c.toNat ≤ 90))
def idc (c : UInt8) : Bool := letter c || (decide (48 ≤ c.toNat) && decide (c.toNat ≤ 57)) || decide (c.toNat = 95)
def wordsL : List Str := [[101, 110, 117, 109], [109, 101, 115, 115, 97, 103, 101], [111, 110, 101, 111, 102], [114, 101, 112, 101, 97, 116, 101, 100], [114, 101, 115, 101, 114, 118, 101, 100], [108, 111, 111, 115, 101], [105, 110, 116, 51, 50], [105, 110, 116, 54, 52], [117, 105, 110, 116, 51, 50], [117, 105, 110, 116, 54, 52], [115, 105, 110, 116, 51, 50], [115, 105, 110, 116, 54, 52], [98, 111, 111, 108], [102, 105, 120, 101, 100, 51, 50], [102, 105, 120, 101, 100, 54, 52], [115, 102, 105, 120, 101, 100, 51, 50], [115, 102, 105, 120, 101, 100, 54, 52], [115, 116, 114, 105, 110, 103], [98, 121, 116, 101, 115], [114, 101, 110, 97, 109, 101], [114, 101, 110, 117, 109, 98, 101, 114], [114, 101, 116, 121, 112, 101], [115, 112, 108, 105, 116], [106, 111, 105, 110], [119, 114, 97, 112], [117, 110, 119, 114, 97, 112], [97, 100, 100], [100, 114, 111, 112], [116, 111], [105, 110, 116, 111], [97, 115], [111, 102], [100, 101, 102, 97, 117, 108, 116], [116, 114, 117, 101], [102, 97, 108, 115, 101]]
def nameOK (s : Str) : Bool := decide (1 ≤ s.length) && decide (s.length ≤ 12) && letter (s.headD 0) && s.all idc && wordsL.all (fun w => !(w == s))
/-- none stands ahead again, from the i-th on -/
def onceFrom (l : List Str) : List Str → Nat → Bool
  | [], _ => true
  | a :: r, i => !((l.take i).any fun b => a == b) && onceFrom l r (i + 1)
def once (l : List Str) : Bool := onceFrom l l 0
def riseS : List Str → Bool
  | a :: b :: l => !(!lessB a b) && riseS (b :: l)
  | _ => true
def rises : List Int → Bool
  | a :: b :: l => decide (a < b) && rises (b :: l)
  | _ => true
theorem onceFrom_step {l : List Str} {i : Nat} (h : i < l.length) : onceFrom l (l.drop i) i = (!((l.take i).any fun b => l[i] == b) && onceFrom l (l.drop (i + 1)) (i + 1)) := by
  rw [List.drop_eq_getElem_cons h]; rfl
theorem onceFrom_end {l : List Str} {i : Nat} (h : l.length ≤ i) : onceFrom l (l.drop i) i = true := by
  rw [List.drop_of_length_le h]; rfl
theorem rises_step {l : List Int} {i : Nat} (h0 : 0 < i) (h : i < l.length) : rises (l.drop (i - 1)) = (decide (l[i - 1] < l[i]) && rises (l.drop (i + 1 - 1))) := by
  obtain ⟨k, rfl⟩ : ∃ k, i = k + 1 := ⟨i - 1, by omega⟩
  simp only [Nat.add_sub_cancel]
  rw [List.drop_eq_getElem_cons (show k < l.length by omega), List.drop_eq_getElem_cons h]
  rfl
theorem rises_end {l : List Int} {i : Nat} (h0 : 0 < i) (h : l.length ≤ i) : rises (l.drop (i - 1)) = true := by
  obtain ⟨k, rfl⟩ : ∃ k, i = k + 1 := ⟨i - 1, by omega⟩
  simp only [Nat.add_sub_cancel]
  by_cases hk : k < l.length
  · rw [List.drop_eq_getElem_cons hk, List.drop_of_length_le h]; rfl
  · rw [List.drop_of_length_le (by omega)]; rfl
theorem riseS_step {l : List Str} {i : Nat} (h0 : 0 < i) (h : i < l.length) : riseS (l.drop (i - 1)) = (!(!lessB l[i - 1] l[i]) && riseS (l.drop (i + 1 - 1))) := by
  obtain ⟨k, rfl⟩ : ∃ k, i = k + 1 := ⟨i - 1, by omega⟩
  simp only [Nat.add_sub_cancel]
  rw [List.drop_eq_getElem_cons (show k < l.length by omega), List.drop_eq_getElem_cons h]
  rfl
theorem riseS_end {l : List Str} {i : Nat} (h0 : 0 < i) (h : l.length ≤ i) : riseS (l.drop (i - 1)) = true := by
  obtain ⟨k, rfl⟩ : ∃ k, i = k + 1 := ⟨i - 1, by omega⟩
  simp only [Nat.add_sub_cancel]
  by_cases hk : k < l.length
  · rw [List.drop_eq_getElem_cons hk, List.drop_of_length_le h]; rfl
  · rw [List.drop_of_length_le (by omega)]; rfl
/-! ### numbers and types -/
def fnum (n : Int) : Bool := decide (1 ≤ n) && decide (n ≤ 536870911) && (decide (n < 19000) || decide (19999 < n))
def tagOK (n w : Int) : Bool := decide (1 ≤ n) && decide (n ≤ 536870911) && (decide (w = 0) || decide (w = 1) || decide (w = 2) || decide (w = 5))
def wholeT (t : Int) : Bool := (decide (1 ≤ t) && decide (t ≤ 6)) || (decide (8 ≤ t) && decide (t ≤ 11))
def numT (t : Int) : Bool := wholeT t || decide (t = 7) || decide (t = 14)
def signT (t : Int) : Bool := decide (t = 1) || decide (t = 2) || decide (t = 5) || decide (t = 6) || decide (t = 10) || decide (t = 11) || decide (t = 14)
def wideT (t : Int) : Bool := decide (t = 2) || decide (t = 4) || decide (t = 6) || decide (t = 9) || decide (t = 11)
def wireT (t : Int) : Int := if t = 8 ∨ t = 10 then 5 else if t = 9 ∨ t = 11 then 1 else if t = 12 ∨ t = 13 ∨ t = 15 then 2 else 0
/-! ### fields and schemas -/
/-- 0: right; 1: ErrArg; 2: ErrText -/
def Fld.chk (f : Fld) : Int :=
  if !nameOK f.name || (!(f.one == []) && !nameOK f.one) then 2
  else if (f.ty = 14 ∨ f.ty = 15) ∧ nameOK f.ref = false then 2
  else if ¬ (f.ty = 14 ∨ f.ty = 15) ∧ (f.ref == []) = false then 2
  else if !fnum f.num || decide (f.ty < 1) || decide (15 < f.ty) || (f.rep && !(f.one == [])) then 1
  else if f.loose && (!f.rep || !numT f.ty) then 1
  else 0
def Sch.many (s : Sch) : Bool := decide (3 < s.enums.length) || decide (6 < s.msgs.length) || s.enums.any (fun e => decide (8 < e.values.length)) || s.msgs.any (fun m => decide (10 < m.fields.length) || decide (8 < m.barred.length))
def Sch.none (s : Sch) : Bool := decide (s.msgs.length = 0) || s.enums.any (fun e => decide (e.values.length = 0))
def Sch.text (s : Sch) : Bool := s.enums.any (fun e => !nameOK e.name || e.values.any (fun v => !nameOK v.name)) || s.msgs.any (fun m => !nameOK m.name)
def chkFields : List Fld → Int
  | [] => 0
  | f :: l => if f.chk = 0 then chkFields l else f.chk
def chkMsgs : List Msg → Int
  | [] => 0
  | m :: l => if chkFields m.fields = 0 then chkMsgs l else chkFields m.fields
theorem chkFields_step {l : List Fld} {i : Nat} (h : i < l.length) : chkFields (l.drop i) = if l[i].chk = 0 then chkFields (l.drop (i + 1)) else l[i].chk := by
  rw [List.drop_eq_getElem_cons h]; rfl
theorem chkFields_end {l : List Fld} {i : Nat} (h : l.length ≤ i) : chkFields (l.drop i) = 0 := by
  rw [List.drop_of_length_le h]; rfl
theorem chkMsgs_step {l : List Msg} {i : Nat} (h : i < l.length) : chkMsgs (l.drop i) = if chkFields l[i].fields = 0 then chkMsgs (l.drop (i + 1)) else chkFields l[i].fields := by
  rw [List.drop_eq_getElem_cons h]; rfl
theorem chkMsgs_end {l : List Msg} {i : Nat} (h : l.length ≤ i) : chkMsgs (l.drop i) = 0 := by
  rw [List.drop_of_length_le h]; rfl
def Msg.twice (m : Msg) : Bool := !once (m.fields.map (·.name)) || m.fields.any (fun f => !(f.one == []) && !once (m.fields.map (·.name) ++ [f.one]))
def Sch.twice (s : Sch) : Bool := s.enums.any (fun e => !once (e.values.map (·.name))) || s.msgs.any Msg.twice || !once (s.enums.map (·.name) ++ s.msgs.map (·.name))
def Enm.order (e : Enm) : Bool := !rises (e.values.map (·.num)) || !decide ((e.values.map (·.num)).headD 0 = 0) || decide (1048576 < (e.values.map (·.num)).getLastD 0)
def Msg.order (m : Msg) : Bool := !rises (m.fields.map (·.num)) || !rises m.barred || (!(m.barred == []) && (decide (m.barred.headD 0 < 1) || decide (536870911 < m.barred.getLastD 0)))
def Sch.order (s : Sch) : Bool := s.enums.any Enm.order || !riseS (s.enums.map (·.name)) || s.msgs.any Msg.order || !riseS ((s.msgs.drop 1).map (·.name))
def Sch.barred (s : Sch) : Bool := s.msgs.any fun m => m.fields.any fun f => m.barred.any (· == f.num)
def Sch.msgIx (s : Sch) (name : Str) : Int := ixFrom (fun m : Msg => m.name == name) s.msgs 0
def Sch.enumIx (s : Sch) (name : Str) : Int := ixFrom (fun m : Enm => m.name == name) s.enums 0
def Sch.refs (s : Sch) : Bool := s.msgs.any fun m => m.fields.any fun f => (decide (f.ty = 14) && decide (s.enumIx f.ref < 0)) || (decide (f.ty = 15) && decide (s.msgIx f.ref < 0))
def Sch.chk (s : Sch) : Int :=
  if s.many then 4 else if s.none then 5 else if s.text then 2 else if chkMsgs s.msgs ≠ 0 then chkMsgs s.msgs else if s.twice then 6 else if s.order then 1 else if s.barred then 6 else if s.refs then 5 else 0
/-- a schema's lists are no longer than lists are -/
structure Sch.big (s : Sch) : Prop where
  e : s.enums.length ≤ 9223372036854775807
  m : s.msgs.length ≤ 9223372036854775807
/-- .. than may be -/
structure Sch.sm (s : Sch) : Prop where
  e : s.enums.length ≤ 3
  m : s.msgs.length ≤ 6
  v : ∀ x ∈ s.enums, x.values.length ≤ 8
  f : ∀ x ∈ s.msgs, x.fields.length ≤ 10
  b : ∀ x ∈ s.msgs, x.barred.length ≤ 8
theorem Sch.sm.vi {s : Sch} (h : s.sm) {i : Nat} (hi : i < s.enums.length) : s.enums[i].values.length ≤ 8 := h.v _ (List.getElem_mem hi)
theorem Sch.sm.fi {s : Sch} (h : s.sm) {i : Nat} (hi : i < s.msgs.length) : s.msgs[i].fields.length ≤ 10 := h.f _ (List.getElem_mem hi)
theorem Sch.sm.bi {s : Sch} (h : s.sm) {i : Nat} (hi : i < s.msgs.length) : s.msgs[i].barred.length ≤ 8 := h.b _ (List.getElem_mem hi)
theorem Sch.sm_of {s : Sch} (h : s.many = false) : s.sm := by
  simp only [Sch.many, Bool.or_eq_false_iff, List.any_eq_false, decide_eq_false_iff_not, Bool.or_eq_true, decide_eq_true_eq, not_or] at h
  obtain ⟨⟨⟨h1, h2⟩, h3⟩, h4⟩ := h
  exact ⟨by omega, by omega, fun x hx => by have := h3 x hx; omega, fun x hx => by have := h4 x hx; omega, fun x hx => by have := h4 x hx; omega⟩
theorem Sch.none_of {s : Sch} (h : s.none = false) : 0 < s.msgs.length ∧ ∀ x ∈ s.enums, 0 < x.values.length := by
  simp only [Sch.none, Bool.or_eq_false_iff, List.any_eq_false, decide_eq_false_iff_not, decide_eq_true_eq] at h
  exact ⟨by omega, fun x hx => by have := h.2 x hx; omega⟩
theorem Enm.order_pos {e : Enm} (h : 0 < e.values.length) : e.order = (!rises (e.values.map (·.num)) || !decide (e.values[0].num = 0) || decide (1048576 < (e.values[e.values.length - 1]'(by omega)).num)) := by
  unfold Enm.order; rw [headD_map h, lastD_map h]
theorem Msg.order_pos {m : Msg} (h : 0 < m.barred.length) : m.order = (!rises (m.fields.map (·.num)) || !rises m.barred || (decide (m.barred[0] < 1) || decide (536870911 < m.barred[m.barred.length - 1]'(by omega)))) := by
  unfold Msg.order; rw [headD_get h, lastD_get h]
  have : (m.barred == []) = false := by cases hb : m.barred with | nil => rw [hb] at h; simp at h | cons a l => rfl
  rw [this]; simp
theorem Msg.order_nil {m : Msg} (h : m.barred.length ≤ 0) : m.order = (!rises (m.fields.map (·.num)) || !rises m.barred) := by
  unfold Msg.order
  have : m.barred = [] := List.length_eq_zero_iff.1 (by omega)
  rw [this]; simp
end Go.Proofs.YtnpgcmeclkncnaaGreatDoor.X
/- Plain laws: values of messages: parts, sameness, how great and how deep. No condition. -/
set_option linter.unusedVariables false
namespace Go.Proofs.YtnpgcmeclkncnaaGreatDoor.X
open Go Go.RowKit
/-- within, at whatever depth -/
inductive Tree.Sub : Tree → Tree → Prop where
  | refl (t : Tree) : Sub t t
  | step {t t1 t2 : Tree} {v : Val} {x : Slot} (h1 : t1 ∈ v.m) (h2 : v ∈ x.vals) (h3 : x ∈ t2.slots) (h : Sub t t1) : Sub t t2
def Tree.Every (Q : Tree → Prop) (t : Tree) : Prop := ∀ u, Tree.Sub u t → Q u
theorem Tree.Every.here {Q : Tree → Prop} {t : Tree} (h : t.Every Q) : Q t := h t (.refl t)
theorem Tree.Every.sub {Q : Tree → Prop} {t t1 : Tree} {v : Val} {x : Slot} (h : t.Every Q) (h1 : t1 ∈ v.m) (h2 : v ∈ x.vals) (h3 : x ∈ t.slots) : t1.Every Q := fun u hu => h u (.step h1 h2 h3 hu)
theorem Tree.Every.mk {Q : Tree → Prop} {t : Tree} (h : Q t) (hs : ∀ x ∈ t.slots, ∀ v ∈ x.vals, ∀ u ∈ v.m, u.Every Q) : t.Every Q := by
  intro u hu
  cases hu with
  | refl => exact h
  | step h1 h2 h3 hh => exact hs _ h3 _ h2 _ h1 u hh
theorem Tree.sub_lt {t t1 : Tree} {v : Val} {x : Slot} (h1 : t1 ∈ v.m) (h2 : v ∈ x.vals) (h3 : x ∈ t.slots) : SizeOf.sizeOf t1 < SizeOf.sizeOf t := by
  cases t with
  | mk ss r =>
    cases x with
    | mk n vs =>
      cases v with
      | mk k s m =>
        have a1 : SizeOf.sizeOf t1 < SizeOf.sizeOf m := List.sizeOf_lt_of_mem h1
        have a2 : SizeOf.sizeOf (Val.mk k s m) < SizeOf.sizeOf vs := List.sizeOf_lt_of_mem h2
        have a3 : SizeOf.sizeOf (Slot.mk n vs) < SizeOf.sizeOf ss := List.sizeOf_lt_of_mem h3
        simp only [Val.mk.sizeOf_spec, Slot.mk.sizeOf_spec, Tree.mk.sizeOf_spec] at *
        omega
/-- By what is within. -/
theorem Tree.ind {Q : Tree → Prop} (h : ∀ t, (∀ x ∈ t.slots, ∀ v ∈ x.vals, ∀ u ∈ v.m, Q u) → Q t) : ∀ t, Q t := by
  have key : ∀ (n : Nat) t, SizeOf.sizeOf t < n → Q t := by
    intro n
    induction n with
    | zero => intro t ht; omega
    | succ n ih => intro t ht; exact h t fun x hx v hv u hu => ih u (by have := Tree.sub_lt hu hv hx; omega)
  exact fun t => key _ t (Nat.lt_succ_self _)
/-- its lists are no longer than lists are -/
structure Tree.big1 (t : Tree) : Prop where
  s : t.slots.length ≤ 9223372036854775807
  r : t.rest.length ≤ 9223372036854775807
  v : ∀ x ∈ t.slots, x.vals.length ≤ 9223372036854775807
  m : ∀ x ∈ t.slots, ∀ v ∈ x.vals, v.m.length ≤ 9223372036854775807
  vs : ∀ x ∈ t.slots, ∀ v ∈ x.vals, v.s.length ≤ 9223372036854775807
  vn : ∀ x ∈ t.slots, ∀ v ∈ x.vals, v.n < 18446744073709551616
  rs : ∀ r ∈ t.rest, r.s.length ≤ 9223372036854775807
  rn : ∀ r ∈ t.rest, r.n < 18446744073709551616
def Tree.big (t : Tree) : Prop := t.Every Tree.big1
noncomputable def eqb {α : Type} (a b : α) : Bool := @decide (a = b) (Classical.propDecidable _)
theorem eqb_true {α : Type} {a b : α} : eqb a b = true ↔ a = b := by unfold eqb; simp
theorem eqb_false {α : Type} {a b : α} : eqb a b = false ↔ ¬ a = b := by unfold eqb; simp
theorem eqb_self {α : Type} (a : α) : eqb a a = true := eqb_true.2 rfl
theorem Tree.ext {a b : Tree} (h1 : a.slots = b.slots) (h2 : a.rest = b.rest) : a = b := by cases a; cases b; simp [Tree.slots, Tree.rest] at *; exact ⟨h1, h2⟩
theorem Slot.ext {a b : Slot} (h1 : a.num = b.num) (h2 : a.vals = b.vals) : a = b := by cases a; cases b; simp [Slot.num, Slot.vals] at *; exact ⟨h1, h2⟩
theorem Val.ext {a b : Val} (h1 : a.n = b.n) (h2 : a.s = b.s) (h3 : a.m = b.m) : a = b := by cases a; cases b; simp [Val.n, Val.s, Val.m] at *; exact ⟨h1, h2, h3⟩
theorem take_eq_step {α : Type} {a b : List α} {i : Nat} (ha : i < a.length) (hb : i < b.length) (h : a.take i = b.take i) (e : a[i] = b[i]) : a.take (i + 1) = b.take (i + 1) := by
  rw [List.take_succ_eq_append_getElem ha, List.take_succ_eq_append_getElem hb, h, e]
theorem take_eq_end {α : Type} {a b : List α} {i : Nat} (hl : a.length = b.length) (hi : a.length ≤ i) (h : a.take i = b.take i) : a = b := by
  rwa [List.take_of_length_le hi, List.take_of_length_le (by omega)] at h
theorem ne_at {α : Type} {a b : List α} {i : Nat} (ha : i < a.length) (hb : i < b.length) (e : ¬ a[i] = b[i]) : ¬ a = b := by
  rintro rfl; exact e rfl
/-! ### how much of so much a value leaves (numbers wrap round) -/
abbrev w64 (n : Int) : Int := IntKind.i64.wrap n
def leftR : List Rw → Int → Int
  | [], n => n
  | x :: l, n => if 0 ≤ n then leftR l (w64 (n - w64 ((x.s.length : Int).tdiv 20))) else n
mutual
def Tree.left : Tree → Int → Int → Int
  | .mk ss r, n, d => if d ≤ 0 then -1 else leftS ss (leftR r (w64 (w64 (n - (r.length : Int)) - (ss.length : Int)))) d
def Slot.left : Slot → Int → Int → Int
  | .mk _ vs, n, d => leftV vs (w64 (n - (vs.length : Int))) d
def Val.left : Val → Int → Int → Int
  | .mk _ s m, n, d => leftT m (w64 (n - w64 ((s.length : Int).tdiv 20))) d
def leftS : List Slot → Int → Int → Int
  | [], n, _ => n
  | x :: l, n, d => if 0 ≤ n then leftS l (x.left n d) d else n
def leftV : List Val → Int → Int → Int
  | [], n, _ => n
  | x :: l, n, d => if 0 ≤ n then leftV l (x.left n d) d else n
def leftT : List Tree → Int → Int → Int
  | [], n, _ => n
  | x :: l, n, d => if 0 ≤ n then leftT l (x.left (w64 (n - 1)) (w64 (d - 1))) d else n
end
theorem Tree.left_eq (t : Tree) (n d : Int) : t.left n d = if d ≤ 0 then -1 else leftS t.slots (leftR t.rest (w64 (w64 (n - (t.rest.length : Int)) - (t.slots.length : Int)))) d := by
  cases t; simp [Tree.left, Tree.slots, Tree.rest]
theorem Slot.left_eq (x : Slot) (n d : Int) : x.left n d = leftV x.vals (w64 (n - (x.vals.length : Int))) d := by
  cases x; simp [Slot.left, Slot.vals]
theorem Val.left_eq (x : Val) (n d : Int) : x.left n d = leftT x.m (w64 (n - w64 ((x.s.length : Int).tdiv 20))) d := by
  cases x; simp [Val.left, Val.s, Val.m]
theorem leftR_step {l : List Rw} {i : Nat} {n : Int} (h : i < l.length) : leftR (l.drop i) n = if 0 ≤ n then leftR (l.drop (i + 1)) (w64 (n - w64 ((l[i].s.length : Int).tdiv 20))) else n := by
  rw [List.drop_eq_getElem_cons h]; rfl
theorem leftS_step {l : List Slot} {i : Nat} {n d : Int} (h : i < l.length) : leftS (l.drop i) n d = if 0 ≤ n then leftS (l.drop (i + 1)) (l[i].left n d) d else n := by
  rw [List.drop_eq_getElem_cons h]; simp [leftS]
theorem leftV_step {l : List Val} {i : Nat} {n d : Int} (h : i < l.length) : leftV (l.drop i) n d = if 0 ≤ n then leftV (l.drop (i + 1)) (l[i].left n d) d else n := by
  rw [List.drop_eq_getElem_cons h]; simp [leftV]
theorem leftT_step {l : List Tree} {i : Nat} {n d : Int} (h : i < l.length) : leftT (l.drop i) n d = if 0 ≤ n then leftT (l.drop (i + 1)) (l[i].left (w64 (n - 1)) (w64 (d - 1))) d else n := by
  rw [List.drop_eq_getElem_cons h]; simp [leftT]
theorem leftR_end {l : List Rw} {i : Nat} {n : Int} (h : l.length ≤ i) : leftR (l.drop i) n = n := by rw [List.drop_of_length_le h]; rfl
theorem leftS_end {l : List Slot} {i : Nat} {n d : Int} (h : l.length ≤ i) : leftS (l.drop i) n d = n := by rw [List.drop_of_length_le h]; simp [leftS]
theorem leftV_end {l : List Val} {i : Nat} {n d : Int} (h : l.length ≤ i) : leftV (l.drop i) n d = n := by rw [List.drop_of_length_le h]; simp [leftV]
theorem leftT_end {l : List Tree} {i : Nat} {n d : Int} (h : l.length ≤ i) : leftT (l.drop i) n d = n := by rw [List.drop_of_length_le h]; simp [leftT]
theorem leftR_neg {l : List Rw} {n : Int} (h : ¬ 0 ≤ n) : leftR l n = n := by cases l <;> simp [leftR]; omega
theorem leftS_neg {l : List Slot} {n d : Int} (h : ¬ 0 ≤ n) : leftS l n d = n := by cases l <;> simp [leftS]; omega
theorem leftV_neg {l : List Val} {n d : Int} (h : ¬ 0 ≤ n) : leftV l n d = n := by cases l <;> simp [leftV]; omega
theorem leftT_neg {l : List Tree} {n d : Int} (h : ¬ 0 ≤ n) : leftT l n d = n := by cases l <;> simp [leftT]; omega
/-! ### how deep -/
mutual
def Tree.deep : Tree → Nat
  | .mk ss _ => deepS ss + 1
def Slot.deep : Slot → Nat
  | .mk _ vs => deepV vs
def Val.deep : Val → Nat
  | .mk _ _ m => deepT m
def deepS : List Slot → Nat
  | [] => 0
  | x :: l => max x.deep (deepS l)
def deepV : List Val → Nat
  | [] => 0
  | x :: l => max x.deep (deepV l)
def deepT : List Tree → Nat
  | [] => 0
  | x :: l => max x.deep (deepT l)
end
theorem Tree.deep_eq (t : Tree) : t.deep = deepS t.slots + 1 := by cases t; simp [Tree.deep, Tree.slots]
theorem Slot.deep_eq (x : Slot) : x.deep = deepV x.vals := by cases x; simp [Slot.deep, Slot.vals]
theorem Val.deep_eq (x : Val) : x.deep = deepT x.m := by cases x; simp [Val.deep, Val.m]
theorem deepT_step {l : List Tree} {i : Nat} (h : i < l.length) : deepT (l.drop i) = max l[i].deep (deepT (l.drop (i + 1))) := by rw [List.drop_eq_getElem_cons h]; simp [deepT]
theorem deepT_end {l : List Tree} {i : Nat} (h : l.length ≤ i) : deepT (l.drop i) = 0 := by rw [List.drop_of_length_le h]; simp [deepT]
end Go.Proofs.YtnpgcmeclkncnaaGreatDoor.X
/- Plain laws: numbers of types, on the wire and in values. No condition. -/
set_option linter.unusedVariables false
set_option linter.unusedSimpArgs false
namespace Go.Proofs.YtnpgcmeclkncnaaGreatDoor.X
open Go Go.RowKit
def kindT (t : Int) : Int :=
  if t = 1 ∨ t = 5 ∨ t = 10 then 7 else if t = 2 ∨ t = 6 ∨ t = 11 then 15 else if t = 3 ∨ t = 8 then 3 else if t = 4 ∨ t = 9 then 11 else if t = 7 then 2 else if t = 14 then 6 else 0
theorem ty_cases (t : Int) : (t < 1 ∨ 15 < t) ∨ t = 1 ∨ t = 2 ∨ t = 3 ∨ t = 4 ∨ t = 5 ∨ t = 6 ∨ t = 7 ∨ t = 8 ∨ t = 9 ∨ t = 10 ∨ t = 11 ∨ t = 12 ∨ t = 13 ∨ t = 14 ∨ t = 15 := by omega
theorem kindT_out {t : Int} (h : t < 1 ∨ 15 < t) : kindT t = 0 := by unfold kindT; split <;> first | omega | (split <;> first | omega | (split <;> first | omega | (split <;> first | omega | (split <;> first | omega | (split <;> first | omega | rfl)))))
theorem kind_num (t : Int) : (!(ibits .and .i64 (kindT t) 2 == 0)) = numT t := by
  rcases ty_cases t with h | h
  · rw [kindT_out h, show ibits .and .i64 0 2 = 0 by decide]
    have : numT t = false := by unfold numT wholeT; simp; omega
    rw [this]; rfl
  · rcases h with rfl | rfl | rfl | rfl | rfl | rfl | rfl | rfl | rfl | rfl | rfl | rfl | rfl | rfl | rfl <;> decide
theorem kind_whole (t : Int) : (!(ibits .and .i64 (kindT t) 1 == 0)) = wholeT t := by
  rcases ty_cases t with h | h
  · rw [kindT_out h, show ibits .and .i64 0 1 = 0 by decide]
    have : wholeT t = false := by unfold wholeT; simp; omega
    rw [this]; rfl
  · rcases h with rfl | rfl | rfl | rfl | rfl | rfl | rfl | rfl | rfl | rfl | rfl | rfl | rfl | rfl | rfl <;> decide
theorem kind_sign (t : Int) : (!(ibits .and .i64 (kindT t) 4 == 0)) = signT t := by
  rcases ty_cases t with h | h
  · rw [kindT_out h, show ibits .and .i64 0 4 = 0 by decide]
    have : signT t = false := by unfold signT; simp; omega
    rw [this]; rfl
  · rcases h with rfl | rfl | rfl | rfl | rfl | rfl | rfl | rfl | rfl | rfl | rfl | rfl | rfl | rfl | rfl <;> decide
theorem kind_wide (t : Int) : (!(ibits .and .i64 (kindT t) 8 == 0)) = wideT t := by
  rcases ty_cases t with h | h
  · rw [kindT_out h, show ibits .and .i64 0 8 = 0 by decide]
    have : wideT t = false := by unfold wideT; simp; omega
    rw [this]; rfl
  · rcases h with rfl | rfl | rfl | rfl | rfl | rfl | rfl | rfl | rfl | rfl | rfl | rfl | rfl | rfl | rfl <;> decide
theorem kind_cell {t : Int} (h0 : 0 ≤ t) (h1 : t < 16) : ([.int .i64 0, .int .i64 7, .int .i64 15, .int .i64 3, .int .i64 11, .int .i64 7, .int .i64 15, .int .i64 2, .int .i64 3, .int .i64 11, .int .i64 7, .int .i64 15, .int .i64 0, .int .i64 0, .int .i64 6, .int .i64 0] : List AV)[t.toNat]? = some (.int .i64 (kindT t)) := by
  have : t = 0 ∨ t = 1 ∨ t = 2 ∨ t = 3 ∨ t = 4 ∨ t = 5 ∨ t = 6 ∨ t = 7 ∨ t = 8 ∨ t = 9 ∨ t = 10 ∨ t = 11 ∨ t = 12 ∨ t = 13 ∨ t = 14 ∨ t = 15 := by omega
  rcases this with rfl | rfl | rfl | rfl | rfl | rfl | rfl | rfl | rfl | rfl | rfl | rfl | rfl | rfl | rfl | rfl <;> rfl
/-- a number's sign -/
def s64 (n : Nat) : Int := IntKind.i64.wrap (n : Int)
theorem s64_eq {n : Nat} (h : n < 18446744073709551616) : s64 n = if n < 9223372036854775808 then (n : Int) else (n : Int) - 18446744073709551616 := by
  unfold s64; simp only [IntKind.wrap, IntKind.bits, IntKind.signed]; simp; omega
def fitsT (z : Int) : Bool := decide (-2147483648 ≤ z) && decide (z ≤ 2147483647)
theorem fits_wrap (z : Int) : (IntKind.i64.wrap (IntKind.i32.wrap z) == z) = fitsT z := by
  have h : IntKind.i64.wrap (IntKind.i32.wrap z) = IntKind.i32.wrap z := by simp only [IntKind.wrap, IntKind.bits, IntKind.signed]; simp; omega
  rw [h]
  simp only [IntKind.wrap, IntKind.bits, IntKind.signed, fitsT]
  rw [Bool.eq_iff_iff]
  simp
  omega
def zigT (z : Int) : Nat := if 0 ≤ z then (2 * z).toNat else (-2 * z - 1).toNat
def mayT (t : Int) (n : Nat) : Bool :=
  if t < 1 ∨ 15 < t then false else if wideT t then true else if signT t then fitsT (s64 n) else if t = 3 ∨ t = 8 then decide (n < 4294967296) else if t = 7 then decide (n < 2) else decide (n = 0)
def toT (t : Int) (n : Nat) : Nat :=
  if t = 3 ∨ t = 8 ∨ t = 10 then n % 4294967296 else if t = 5 ∨ t = 6 then zigT (s64 n) else if numT t then n else 0
theorem zigT_lt {z : Int} (h0 : -9223372036854775808 ≤ z) (h1 : z < 9223372036854775808) : zigT z < 18446744073709551616 := by unfold zigT; split <;> omega
theorem s64_range {n : Nat} (h : n < 18446744073709551616) : -9223372036854775808 ≤ s64 n ∧ s64 n < 9223372036854775808 := by rw [s64_eq h]; split <;> omega
theorem toT_lt {t : Int} {n : Nat} (h : n < 18446744073709551616) : toT t n < 18446744073709551616 := by
  have := s64_range h
  have := zigT_lt this.1 this.2
  unfold toT; split
  · omega
  · split
    · exact this
    · split <;> omega
/-- the program's zigzag -/
theorem zig_xor {z : Int} (h0 : -9223372036854775808 ≤ z) (h1 : z < 9223372036854775808) :
    ibits .xor .u64 (IntKind.u64.wrap (IntKind.u64.wrap z * 2)) (IntKind.u64.wrap ((IntKind.i64.wrap (IntKind.u64.wrap z)).fdiv (2 ^ 63))) = (zigT z : Int) := by
  have hw : IntKind.i64.wrap (IntKind.u64.wrap z) = z := by simp only [IntKind.wrap, IntKind.bits, IntKind.signed]; simp; omega
  rw [hw]
  by_cases hz : 0 ≤ z
  · have e1 : IntKind.u64.wrap (IntKind.u64.wrap z * 2) = 2 * z := by simp only [IntKind.wrap, IntKind.bits, IntKind.signed]; simp; omega
    have e2 : IntKind.u64.wrap (z.fdiv (2 ^ 63)) = 0 := by
      have : z.fdiv (2 ^ 63) = 0 := by rw [Int.fdiv_eq_ediv_of_nonneg _ (by omega)]; omega
      rw [this]; decide
    rw [e1, e2]
    simp only [ibits, zigT, if_pos hz]
    obtain ⟨k, hk⟩ : ∃ k : Nat, z = k := ⟨z.toNat, by omega⟩
    subst hk
    show IntKind.u64.wrap (((BitVec.ofInt 64 (2 * (k : Int))) ^^^ 0#64).toNat : Int) = _
    rw [BitVec.xor_zero, BitVec.toNat_ofInt]
    simp only [IntKind.wrap, IntKind.bits, IntKind.signed]
    simp
    omega
  · have e1 : IntKind.u64.wrap (IntKind.u64.wrap z * 2) = 2 * z + 18446744073709551616 := by simp only [IntKind.wrap, IntKind.bits, IntKind.signed]; simp; omega
    have e2 : IntKind.u64.wrap (z.fdiv (2 ^ 63)) = 18446744073709551615 := by
      have : z.fdiv (2 ^ 63) = -1 := by rw [Int.fdiv_eq_ediv_of_nonneg _ (by omega)]; omega
      rw [this]; decide
    rw [e1, e2]
    simp only [ibits, zigT, if_neg hz]
    have h2 : BitVec.ofInt IntKind.u64.bits 18446744073709551615 = BitVec.allOnes 64 := show BitVec.ofInt 64 18446744073709551615 = BitVec.allOnes 64 from by decide
    rw [h2]
    obtain ⟨k, hk⟩ : ∃ k : Nat, 2 * z + 18446744073709551616 = k := ⟨(2 * z + 18446744073709551616).toNat, by omega⟩
    rw [hk]
    show IntKind.u64.wrap (((BitVec.ofInt 64 (k : Int)) ^^^ BitVec.allOnes 64).toNat : Int) = _
    rw [BitVec.xor_allOnes, BitVec.toNat_not, BitVec.toNat_ofInt]
    simp only [IntKind.wrap, IntKind.bits, IntKind.signed]
    simp
    omega
end Go.Proofs.YtnpgcmeclkncnaaGreatDoor.X
/- Plain laws: which values are values of a message of a schema. No condition. -/
set_option linter.unusedVariables false
set_option linter.unusedSimpArgs false
namespace Go.Proofs.YtnpgcmeclkncnaaGreatDoor.X
open Go Go.RowKit
theorem ixFrom_cases {α : Type} (p : α → Bool) : ∀ (l : List α) (k : Nat), (ixFrom p l k = -1 ∧ l.find? p = none) ∨ ∃ (i : Nat) (h : i < l.length), ixFrom p l k = ((k + i : Nat) : Int) ∧ l.find? p = some l[i] ∧ p l[i] = true
  | [], k => .inl ⟨rfl, rfl⟩
  | a :: l, k => by
    by_cases h : p a = true
    · refine .inr ⟨0, by simp, ?_, ?_, h⟩
      · simp [ixFrom, h]
      · simp [h]
    · have h' : p a = false := by simpa using h
      rcases ixFrom_cases p l (k + 1) with ⟨h1, h2⟩ | ⟨i, hi, h1, h2, h3⟩
      · exact .inl ⟨by simp [ixFrom, h', h1], by simp [h', h2]⟩
      · exact .inr ⟨i + 1, by simp; omega, by simp [ixFrom, h', h1]; omega, by simp [h', h2], by simpa using h3⟩
def Msg.fix (m : Msg) (num : Int) : Option Fld := m.fields.find? (fun f => f.num == num)
def Msg.at (m : Msg) (num : Int) : Int := ixFrom (fun f : Fld => f.num == num) m.fields 0
theorem Msg.at_cases (m : Msg) (num : Int) : (m.at num = -1 ∧ m.fix num = none) ∨ ∃ (i : Nat) (h : i < m.fields.length), m.at num = (i : Int) ∧ m.fix num = some m.fields[i] ∧ m.fields[i].num = num := by
  rcases ixFrom_cases (fun f : Fld => f.num == num) m.fields 0 with h | ⟨i, h, h1, h2, h3⟩
  · exact .inl h
  · exact .inr ⟨i, h, by simpa [Msg.at] using h1, h2, by simpa using h3⟩
def Msg.ixN (m : Msg) (num : Int) : Nat := (m.at num).toNat
theorem Msg.at_nn {m : Msg} {num : Int} (h : decide (m.at num < 0) = false) : 0 ≤ m.at num := by have := of_decide_eq_false h; omega
theorem Msg.at_eq {m : Msg} {num : Int} (h : decide (m.at num < 0) = false) : m.at num = (m.ixN num : Int) := by have := of_decide_eq_false h; unfold Msg.ixN; omega
theorem Msg.at_lt {m : Msg} {num : Int} (h : decide (m.at num < 0) = false) : m.ixN num < m.fields.length := by
  have h := of_decide_eq_false h
  rcases m.at_cases num with ⟨h1, _⟩ | ⟨i, hi, h1, _⟩
  · omega
  · unfold Msg.ixN; rw [h1]; simpa using hi
theorem Msg.at_fix {m : Msg} {num : Int} (h : decide (m.at num < 0) = false) : m.fix num = some (m.fields[m.ixN num]'(Msg.at_lt h)) := by
  have h' := of_decide_eq_false h
  rcases m.at_cases num with ⟨h1, _⟩ | ⟨i, hi, h1, h2, _⟩
  · omega
  · rw [h2]; congr 1; have : m.ixN num = i := by unfold Msg.ixN; rw [h1]; simp
    simp [this]
theorem Msg.at_no {m : Msg} {num : Int} (h : decide (m.at num < 0) = true) : m.fix num = none := by
  have h := of_decide_eq_true h
  rcases m.at_cases num with ⟨h1, h2⟩ | ⟨i, hi, h1, _⟩
  · exact h2
  · omega
def Sch.msgAt (s : Sch) (name : Str) : Option Msg := s.msgs.find? (fun m => m.name == name)
theorem Sch.ix_cases (s : Sch) (name : Str) : (s.msgIx name = -1 ∧ s.msgAt name = Option.none) ∨ ∃ (i : Nat) (h : i < s.msgs.length), s.msgIx name = (i : Int) ∧ s.msgAt name = some s.msgs[i] ∧ s.msgs[i].name = name := by
  rcases ixFrom_cases (fun m : Msg => m.name == name) s.msgs 0 with h | ⟨i, h, h1, h2, h3⟩
  · exact .inl h
  · exact .inr ⟨i, h, by simpa [Sch.msgIx] using h1, h2, by simpa using h3⟩
def Sch.ixN (s : Sch) (name : Str) : Nat := (s.msgIx name).toNat
theorem Sch.ix_nn {s : Sch} {name : Str} (h : decide (s.msgIx name < 0) = false) : 0 ≤ s.msgIx name := by have := of_decide_eq_false h; omega
theorem Sch.ix_eq {s : Sch} {name : Str} (h : decide (s.msgIx name < 0) = false) : s.msgIx name = (s.ixN name : Int) := by have := of_decide_eq_false h; unfold Sch.ixN; omega
theorem Sch.ix_lt {s : Sch} {name : Str} (h : decide (s.msgIx name < 0) = false) : s.ixN name < s.msgs.length := by
  have h := of_decide_eq_false h
  rcases s.ix_cases name with ⟨h1, _⟩ | ⟨i, hi, h1, _⟩
  · omega
  · unfold Sch.ixN; rw [h1]; simpa using hi
theorem Sch.ix_at {s : Sch} {name : Str} (h : decide (s.msgIx name < 0) = false) : s.msgAt name = some (s.msgs[s.ixN name]'(Sch.ix_lt h)) := by
  have h' := of_decide_eq_false h
  rcases s.ix_cases name with ⟨h1, _⟩ | ⟨i, hi, h1, h2, _⟩
  · omega
  · rw [h2]; congr 1; have : s.ixN name = i := by unfold Sch.ixN; rw [h1]; simp
    simp [this]
theorem Sch.ix_no {s : Sch} {name : Str} (h : decide (s.msgIx name < 0) = true) : s.msgAt name = Option.none := by
  have h := of_decide_eq_true h
  rcases s.ix_cases name with ⟨h1, h2⟩ | ⟨i, hi, h1, _⟩
  · exact h2
  · omega
theorem ntr {b : Bool} (h : (!b) = true) : b = false := by cases b <;> simp_all
theorem nfl {b : Bool} (h : (!b) = false) : b = true := by cases b <;> simp_all
theorem dge {a : Int} (h : decide (0 ≤ a) = true) : decide (a < 0) = false := by have := of_decide_eq_true h; simp; omega
theorem dlt {a : Int} (h : decide (0 ≤ a) = false) : decide (a < 0) = true := by have := of_decide_eq_false h; simp; omega
/-- what the walks ask of a schema -/
structure Sch.fine (s : Sch) : Prop where
  m : s.msgs.length ≤ 1000
  f : ∀ m ∈ s.msgs, m.fields.length ≤ 1000
  o : ∀ m ∈ s.msgs, ∀ f ∈ m.fields, f.one.length ≤ 1000
theorem wf64 (n : Int) : (Lit.int .i64 (IntKind.i64.wrap n)).wf = true := by
  simp only [Lit.wf, IntKind.min, IntKind.max, IntKind.wrap, IntKind.bits, IntKind.signed]; simp; omega
def Fld.hidden (f : Fld) : Bool := !f.rep && f.one == [] && !decide (f.ty = 15)
def Fld.packed (f : Fld) : Bool := f.rep && numT f.ty && !f.loose
def Rw.right (r : Rw) : Bool := tagOK r.num r.wire && (if r.wire = 2 then decide (r.n = 0) else r.s == [] && (!decide (r.wire = 5) || decide (r.n < 4294967296)))
def restOK (m : Msg) (r : Rw) : Bool := r.right && (m.fix r.num).isNone
/-- the name of a slot's oneof -/
def Msg.oneOf (m : Msg) (x : Slot) : Str := ((m.fix x.num).map (·.one)).getD []
def newOne (ones : List Str) (one : Str) : Bool := one == [] || !ones.any (· == one)
mutual
def Val.ok (s : Sch) (f : Fld) : Val → Bool
  | .mk n str m =>
    if numT f.ty then mayT f.ty n && str == [] && decide (m.length = 0)
    else if f.ty = 12 then decide (n = 0) && decide (m.length = 0) && Lib.validD str
    else if f.ty = 13 then decide (n = 0) && decide (m.length = 0)
    else if f.ty = 15 then decide (n = 0) && str == [] && treeOk1 s f.ref m
    else false
def Slot.ok (s : Sch) (m : Msg) : Slot → Bool
  | .mk num vs => match m.fix num with
    | none => false
    | some f => decide (0 < vs.length) && (f.rep || decide (vs.length = 1)) && valsOk s f vs && (!f.hidden || (!decide ((vs.head?.map Val.n).getD 0 = 0) || !((vs.head?.map Val.s).getD [] == [])))
def Tree.ok (s : Sch) (name : Str) : Tree → Bool
  | .mk ss r => match s.msgAt name with
    | none => false
    | some m => slotsOk s m ss none [] && r.all (restOK m)
def valsOk (s : Sch) (f : Fld) : List Val → Bool
  | [] => true
  | v :: l => v.ok s f && valsOk s f l
def slotsOk (s : Sch) (m : Msg) : List Slot → Option Int → List Str → Bool
  | [], _, _ => true
  | x :: l, last, ones => (match last with | none => true | some n => decide (n < x.num)) && x.ok s m && newOne ones (m.oneOf x) && slotsOk s m l (some x.num) (ones ++ [m.oneOf x])
def treeOk1 (s : Sch) (name : Str) : List Tree → Bool
  | [t] => t.ok s name
  | _ => false
end
theorem Val.ok_eq (s : Sch) (f : Fld) (v : Val) : v.ok s f = if numT f.ty then mayT f.ty v.n && v.s == [] && decide (v.m.length = 0)
    else if f.ty = 12 then decide (v.n = 0) && decide (v.m.length = 0) && Lib.validD v.s
    else if f.ty = 13 then decide (v.n = 0) && decide (v.m.length = 0)
    else if f.ty = 15 then decide (v.n = 0) && v.s == [] && treeOk1 s f.ref v.m
    else false := by cases v; simp only [Val.ok, Val.n, Val.s, Val.m]; rfl
theorem Slot.ok_eq (s : Sch) (m : Msg) (x : Slot) : x.ok s m = match m.fix x.num with
    | none => false
    | some f => decide (0 < x.vals.length) && (f.rep || decide (x.vals.length = 1)) && valsOk s f x.vals && (!f.hidden || (!decide ((x.vals.head?.map Val.n).getD 0 = 0) || !((x.vals.head?.map Val.s).getD [] == []))) := by
  cases x; simp only [Slot.ok, Slot.num, Slot.vals]; rfl
theorem Tree.ok_eq (s : Sch) (name : Str) (t : Tree) : t.ok s name = match s.msgAt name with
    | none => false
    | some m => slotsOk s m t.slots none [] && t.rest.all (restOK m) := by cases t; simp only [Tree.ok, Tree.slots, Tree.rest]
theorem treeOk1_one (s : Sch) (name : Str) {l : List Tree} (h : l.length = 1) : treeOk1 s name l = (l[0]'(by omega)).ok s name := by
  match l, h with
  | [t], _ => simp [treeOk1]
theorem treeOk1_no (s : Sch) (name : Str) {l : List Tree} (h : l.length ≠ 1) : treeOk1 s name l = false := by
  match l, h with
  | [], _ => simp [treeOk1]
  | _ :: _ :: _, _ => simp [treeOk1]
theorem valsOk_all (s : Sch) (f : Fld) (l : List Val) : valsOk s f l = l.all (Val.ok s f) := by
  induction l with
  | nil => simp [valsOk]
  | cons v l ih => simp [valsOk, ih]
def lastN (l : List Slot) (i : Nat) : Option Int := if h : 0 < i ∧ i ≤ l.length then some (l[i - 1]'(by omega)).num else none
theorem lastN_step {l : List Slot} {i : Nat} (h : i < l.length) : lastN l (i + 1) = some l[i].num := by
  unfold lastN; rw [dif_pos ⟨by omega, by omega⟩]; simp
theorem lastN_zero (l : List Slot) : lastN l 0 = none := by unfold lastN; simp
theorem lastN_pos {l : List Slot} {i : Nat} (h0 : 0 < i) (h : i < l.length) : lastN l i = some (l[i - 1]'(by omega)).num := by
  unfold lastN; rw [dif_pos ⟨h0, by omega⟩]
theorem Slot.ok_vals {s : Sch} {m : Msg} {x : Slot} {f : Fld} (hf : m.fix x.num = some f) : x.ok s m = (decide (0 < x.vals.length) && (f.rep || decide (x.vals.length = 1)) && x.vals.all fun v => v.ok s f && (!f.hidden || (!decide (v.n = 0) || !(v.s == [])))) := by
  rw [Slot.ok_eq, hf]
  simp only [valsOk_all]
  cases hv : x.vals with
  | nil => simp
  | cons v r =>
    cases hh : f.hidden with
    | false => simp
    | true =>
      have hr : f.rep = false := by unfold Fld.hidden at hh; simp at hh; exact hh.1.1
      cases r with
      | nil => simp [hr]; first | done | rfl
      | cons w r => simp [hr]
theorem Slot.ok_at {s : Sch} {m : Msg} {x : Slot} (h : x.ok s m = true) : decide (m.at x.num < 0) = false := by
  by_cases hd : decide (m.at x.num < 0) = true
  · rw [Slot.ok_eq, Msg.at_no hd] at h; cases h
  · simpa using hd
theorem any_count {l : List Str} {a : Str} : l.any (· == a) = decide (0 < l.count a) := by
  rw [Bool.eq_iff_iff]; simp [List.count_pos_iff]
theorem oneOf_fix {m : Msg} {x : Slot} {f : Fld} (h : m.fix x.num = some f) : m.oneOf x = f.one := by unfold Msg.oneOf; rw [h]; rfl
theorem cnt_step {m : Msg} {l : List Slot} {i : Nat} {f : List UInt8 → Int} {one : Str} (hi : i < l.length) (hf : ∀ key, f key = ((((l.take i).map m.oneOf).count key : Nat) : Int)) (ho : m.oneOf l[i] = one) (hb : i < 9223372036854775807) :
    ∀ key, (if key = one then IntKind.i64.wrap (f one + 1) else f key) = ((((l.take (i + 1)).map m.oneOf).count key : Nat) : Int) := by
  intro key
  rw [List.take_succ_eq_append_getElem hi, List.map_append, List.count_append]
  have hle : ((l.take i).map m.oneOf).count one ≤ i := by
    have := List.count_le_length (a := one) (l := (l.take i).map m.oneOf)
    rw [List.length_map, List.length_take] at this; omega
  split
  · rename_i e; subst e
    rw [hf, inc (by omega)]
    simp [ho]
  · rename_i e
    rw [hf]
    have : [l[i]].map m.oneOf = [one] := by simp [ho]
    rw [this, List.count_singleton, if_neg (by simpa using Ne.symm e)]
    simp
theorem cnt_new {m : Msg} {l : List Slot} {i : Nat} {f : List UInt8 → Int} {one : Str} (hf : ∀ key, f key = ((((l.take i).map m.oneOf).count key : Nat) : Int)) (hb : i < 9223372036854775807) :
    decide (1 < IntKind.i64.wrap (f one + 1)) = ((l.take i).map m.oneOf).any (· == one) := by
  have hle : ((l.take i).map m.oneOf).count one ≤ i := by
    have := List.count_le_length (a := one) (l := (l.take i).map m.oneOf)
    rw [List.length_map, List.length_take] at this; omega
  have key : ∀ c : Nat, decide ((1 : Int) < ((c + 1 : Nat) : Int)) = decide (0 < c) := fun c => by rw [Bool.eq_iff_iff]; simp; omega
  rw [hf, inc (by omega), any_count]
  exact key _
def slotsAt (s : Sch) (m : Msg) (l : List Slot) (i : Nat) : Bool := slotsOk s m (l.drop i) (lastN l i) ((l.take i).map m.oneOf)
theorem slotsAt_step {s : Sch} {m : Msg} {l : List Slot} {i : Nat} (h : i < l.length) : slotsAt s m l i = ((match lastN l i with | none => true | some n => decide (n < l[i].num)) && l[i].ok s m && newOne ((l.take i).map m.oneOf) (m.oneOf l[i]) && slotsAt s m l (i + 1)) := by
  unfold slotsAt
  rw [List.drop_eq_getElem_cons h, lastN_step h, List.take_succ_eq_append_getElem h, List.map_append]
  simp [slotsOk]
theorem slotsAt_end {s : Sch} {m : Msg} {l : List Slot} {i : Nat} (h : l.length ≤ i) : slotsAt s m l i = true := by
  unfold slotsAt; rw [List.drop_of_length_le h]; simp [slotsOk]
theorem slotsAt_zero (s : Sch) (m : Msg) (l : List Slot) : slotsAt s m l 0 = slotsOk s m l none [] := by
  unfold slotsAt lastN; simp
theorem rising_len : ∀ {l1 l2 : List Int}, l1.Pairwise (· < ·) → (∀ a ∈ l1, a ∈ l2) → l1.length ≤ l2.length
  | [], _, _, _ => by simp
  | a :: l1, l2, h, hs => by
    have ha : a ∈ l2 := hs a (by simp)
    have h2 := List.pairwise_cons.1 h
    have := rising_len (l1 := l1) (l2 := l2.erase a) h2.2 fun b hb => (List.mem_erase_of_ne (by have := h2.1 b hb; omega)).2 (hs b (by simp [hb]))
    rw [List.length_erase_of_mem ha] at this
    have : 0 < l2.length := List.length_pos_of_mem ha
    simp; omega
/-- the slots so far are known, and rise -/
structure goodS (m : Msg) (l : List Slot) (i : Nat) : Prop where
  le : i ≤ l.length
  kn : ∀ x ∈ l.take i, (m.fix x.num).isSome = true
  up : ((l.take i).map Slot.num).Pairwise (· < ·)
theorem goodS.zero (m : Msg) (l : List Slot) : goodS m l 0 := ⟨by omega, by simp, by simp⟩
theorem goodS.step {m : Msg} {l : List Slot} {i : Nat} (g : goodS m l i) (h : i < l.length) (hl : (match lastN l i with | none => true | some n => decide (n < l[i].num)) = true) (hf : (m.fix l[i].num).isSome = true) : goodS m l (i + 1) := by
  refine ⟨h, fun x hx => ?_, ?_⟩
  · rw [List.take_succ_eq_append_getElem h] at hx
    rcases List.mem_append.1 hx with hx | hx
    · exact g.kn x hx
    · rw [List.mem_singleton.1 hx]; exact hf
  · rw [List.take_succ_eq_append_getElem h, List.map_append, List.pairwise_append]
    refine ⟨g.up, by simp, fun a ha b hb => ?_⟩
    simp at hb
    subst hb
    by_cases h0 : 0 < i
    · rw [lastN_pos h0 h] at hl
      have hlt : (l[i - 1]'(by omega)).num < l[i].num := by simpa using hl
      obtain ⟨j, hj, rfl⟩ := List.getElem_of_mem ha
      rw [List.length_map, List.length_take] at hj
      by_cases hji : j = i - 1
      · subst hji; simpa using hlt
      · have hp := List.pairwise_iff_getElem.1 g.up j (i - 1) (by simp; omega) (by simp; omega) (by omega)
        simp at hp
        simp
        omega
    · have : i = 0 := by omega
      subst this
      simp at ha
theorem goodS.len {m : Msg} {l : List Slot} {i : Nat} (g : goodS m l i) : i ≤ m.fields.length := by
  have h1 := rising_len (l2 := m.fields.map (·.num)) g.up fun a ha => by
    obtain ⟨x, hx, rfl⟩ := List.mem_map.1 ha
    have hk := g.kn x hx
    rcases m.at_cases x.num with ⟨_, h2⟩ | ⟨q, hq, _, h2, h3⟩
    · rw [h2] at hk; cases hk
    · exact List.mem_map.2 ⟨_, List.getElem_mem hq, h3⟩
  rw [List.length_map, List.length_map, List.length_take] at h1
  have := g.le
  omega
end Go.Proofs.YtnpgcmeclkncnaaGreatDoor.X
