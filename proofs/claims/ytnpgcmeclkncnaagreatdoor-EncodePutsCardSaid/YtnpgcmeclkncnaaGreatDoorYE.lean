/- Plain laws: which values are values of a message of a schema. No condition. -/
import Derived.Test.YtnpgcmeclkncnaaGreatDoorYD
import Derived.Lib.ValidU
import Derived.Shelf.Unicode.ValidAny
set_option linter.unusedVariables false
set_option linter.unusedSimpArgs false
namespace Go.Proofs.YtnpgcmeclkncnaaGreatDoor.X
open Go Go.RowKit
theorem ixFrom_cases {α : Type} (p : α → Bool) : ∀ (l : List α) (k : Nat), (ixFrom p l k = -1 ∧ l.find? p = none) ∨ ∃ (i : Nat) (h : i < l.length), ixFrom p l k = ((k + i : Nat) : Int) ∧ l.find? p = some l[i] ∧ p l[i] = true
  | [], k => .inl ⟨rfl, rfl⟩
  | a :: l, k => by
    by_cases h : p a = true
    · refine .inr ⟨0, by simp, ?_, ?_, h⟩
      · simp [ixFrom, h]
      · simp [h]
    · have h' : p a = false := by simpa using h
      rcases ixFrom_cases p l (k + 1) with ⟨h1, h2⟩ | ⟨i, hi, h1, h2, h3⟩
      · exact .inl ⟨by simp [ixFrom, h', h1], by simp [h', h2]⟩
      · exact .inr ⟨i + 1, by simp; omega, by simp [ixFrom, h', h1]; omega, by simp [h', h2], by simpa using h3⟩
def Msg.fix (m : Msg) (num : Int) : Option Fld := m.fields.find? (fun f => f.num == num)
def Msg.at (m : Msg) (num : Int) : Int := ixFrom (fun f : Fld => f.num == num) m.fields 0
theorem Msg.at_cases (m : Msg) (num : Int) : (m.at num = -1 ∧ m.fix num = none) ∨ ∃ (i : Nat) (h : i < m.fields.length), m.at num = (i : Int) ∧ m.fix num = some m.fields[i] ∧ m.fields[i].num = num := by
  rcases ixFrom_cases (fun f : Fld => f.num == num) m.fields 0 with h | ⟨i, h, h1, h2, h3⟩
  · exact .inl h
  · exact .inr ⟨i, h, by simpa [Msg.at] using h1, h2, by simpa using h3⟩
def Msg.ixN (m : Msg) (num : Int) : Nat := (m.at num).toNat
theorem Msg.at_nn {m : Msg} {num : Int} (h : decide (m.at num < 0) = false) : 0 ≤ m.at num := by have := of_decide_eq_false h; omega
theorem Msg.at_eq {m : Msg} {num : Int} (h : decide (m.at num < 0) = false) : m.at num = (m.ixN num : Int) := by have := of_decide_eq_false h; unfold Msg.ixN; omega
theorem Msg.at_lt {m : Msg} {num : Int} (h : decide (m.at num < 0) = false) : m.ixN num < m.fields.length := by
  have h := of_decide_eq_false h
  rcases m.at_cases num with ⟨h1, _⟩ | ⟨i, hi, h1, _⟩
  · omega
  · unfold Msg.ixN; rw [h1]; simpa using hi
theorem Msg.at_fix {m : Msg} {num : Int} (h : decide (m.at num < 0) = false) : m.fix num = some (m.fields[m.ixN num]'(Msg.at_lt h)) := by
  have h' := of_decide_eq_false h
  rcases m.at_cases num with ⟨h1, _⟩ | ⟨i, hi, h1, h2, _⟩
  · omega
  · rw [h2]; congr 1; have : m.ixN num = i := by unfold Msg.ixN; rw [h1]; simp
    simp [this]
theorem Msg.at_no {m : Msg} {num : Int} (h : decide (m.at num < 0) = true) : m.fix num = none := by
  have h := of_decide_eq_true h
  rcases m.at_cases num with ⟨h1, h2⟩ | ⟨i, hi, h1, _⟩
  · exact h2
  · omega
def Sch.msgAt (s : Sch) (name : Str) : Option Msg := s.msgs.find? (fun m => m.name == name)
theorem Sch.ix_cases (s : Sch) (name : Str) : (s.msgIx name = -1 ∧ s.msgAt name = Option.none) ∨ ∃ (i : Nat) (h : i < s.msgs.length), s.msgIx name = (i : Int) ∧ s.msgAt name = some s.msgs[i] ∧ s.msgs[i].name = name := by
  rcases ixFrom_cases (fun m : Msg => m.name == name) s.msgs 0 with h | ⟨i, h, h1, h2, h3⟩
  · exact .inl h
  · exact .inr ⟨i, h, by simpa [Sch.msgIx] using h1, h2, by simpa using h3⟩
def Sch.ixN (s : Sch) (name : Str) : Nat := (s.msgIx name).toNat
theorem Sch.ix_nn {s : Sch} {name : Str} (h : decide (s.msgIx name < 0) = false) : 0 ≤ s.msgIx name := by have := of_decide_eq_false h; omega
theorem Sch.ix_eq {s : Sch} {name : Str} (h : decide (s.msgIx name < 0) = false) : s.msgIx name = (s.ixN name : Int) := by have := of_decide_eq_false h; unfold Sch.ixN; omega
theorem Sch.ix_lt {s : Sch} {name : Str} (h : decide (s.msgIx name < 0) = false) : s.ixN name < s.msgs.length := by
  have h := of_decide_eq_false h
  rcases s.ix_cases name with ⟨h1, _⟩ | ⟨i, hi, h1, _⟩
  · omega
  · unfold Sch.ixN; rw [h1]; simpa using hi
theorem Sch.ix_at {s : Sch} {name : Str} (h : decide (s.msgIx name < 0) = false) : s.msgAt name = some (s.msgs[s.ixN name]'(Sch.ix_lt h)) := by
  have h' := of_decide_eq_false h
  rcases s.ix_cases name with ⟨h1, _⟩ | ⟨i, hi, h1, h2, _⟩
  · omega
  · rw [h2]; congr 1; have : s.ixN name = i := by unfold Sch.ixN; rw [h1]; simp
    simp [this]
theorem Sch.ix_no {s : Sch} {name : Str} (h : decide (s.msgIx name < 0) = true) : s.msgAt name = Option.none := by
  have h := of_decide_eq_true h
  rcases s.ix_cases name with ⟨h1, h2⟩ | ⟨i, hi, h1, _⟩
  · exact h2
  · omega
theorem ntr {b : Bool} (h : (!b) = true) : b = false := by cases b <;> simp_all
theorem nfl {b : Bool} (h : (!b) = false) : b = true := by cases b <;> simp_all
theorem dge {a : Int} (h : decide (0 ≤ a) = true) : decide (a < 0) = false := by have := of_decide_eq_true h; simp; omega
theorem dlt {a : Int} (h : decide (0 ≤ a) = false) : decide (a < 0) = true := by have := of_decide_eq_false h; simp; omega
/-- what the walks ask of a schema -/
structure Sch.fine (s : Sch) : Prop where
  m : s.msgs.length ≤ 1000
  f : ∀ m ∈ s.msgs, m.fields.length ≤ 1000
  o : ∀ m ∈ s.msgs, ∀ f ∈ m.fields, f.one.length ≤ 1000
theorem wf64 (n : Int) : (Lit.int .i64 (IntKind.i64.wrap n)).wf = true := by
  simp only [Lit.wf, IntKind.min, IntKind.max, IntKind.wrap, IntKind.bits, IntKind.signed]; simp; omega
def Fld.hidden (f : Fld) : Bool := !f.rep && f.one == [] && !decide (f.ty = 15)
def Fld.packed (f : Fld) : Bool := f.rep && numT f.ty && !f.loose
def Rw.right (r : Rw) : Bool := tagOK r.num r.wire && (if r.wire = 2 then decide (r.n = 0) else r.s == [] && (!decide (r.wire = 5) || decide (r.n < 4294967296)))
def restOK (m : Msg) (r : Rw) : Bool := r.right && (m.fix r.num).isNone
/-- the name of a slot's oneof -/
def Msg.oneOf (m : Msg) (x : Slot) : Str := ((m.fix x.num).map (·.one)).getD []
def newOne (ones : List Str) (one : Str) : Bool := one == [] || !ones.any (· == one)
mutual
def Val.ok (s : Sch) (f : Fld) : Val → Bool
  | .mk n str m =>
    if numT f.ty then mayT f.ty n && str == [] && decide (m.length = 0)
    else if f.ty = 12 then decide (n = 0) && decide (m.length = 0) && Lib.validD str
    else if f.ty = 13 then decide (n = 0) && decide (m.length = 0)
    else if f.ty = 15 then decide (n = 0) && str == [] && treeOk1 s f.ref m
    else false
def Slot.ok (s : Sch) (m : Msg) : Slot → Bool
  | .mk num vs => match m.fix num with
    | none => false
    | some f => decide (0 < vs.length) && (f.rep || decide (vs.length = 1)) && valsOk s f vs && (!f.hidden || (!decide ((vs.head?.map Val.n).getD 0 = 0) || !((vs.head?.map Val.s).getD [] == [])))
def Tree.ok (s : Sch) (name : Str) : Tree → Bool
  | .mk ss r => match s.msgAt name with
    | none => false
    | some m => slotsOk s m ss none [] && r.all (restOK m)
def valsOk (s : Sch) (f : Fld) : List Val → Bool
  | [] => true
  | v :: l => v.ok s f && valsOk s f l
def slotsOk (s : Sch) (m : Msg) : List Slot → Option Int → List Str → Bool
  | [], _, _ => true
  | x :: l, last, ones => (match last with | none => true | some n => decide (n < x.num)) && x.ok s m && newOne ones (m.oneOf x) && slotsOk s m l (some x.num) (ones ++ [m.oneOf x])
def treeOk1 (s : Sch) (name : Str) : List Tree → Bool
  | [t] => t.ok s name
  | _ => false
end
theorem Val.ok_eq (s : Sch) (f : Fld) (v : Val) : v.ok s f = if numT f.ty then mayT f.ty v.n && v.s == [] && decide (v.m.length = 0)
    else if f.ty = 12 then decide (v.n = 0) && decide (v.m.length = 0) && Lib.validD v.s
    else if f.ty = 13 then decide (v.n = 0) && decide (v.m.length = 0)
    else if f.ty = 15 then decide (v.n = 0) && v.s == [] && treeOk1 s f.ref v.m
    else false := by cases v; simp only [Val.ok, Val.n, Val.s, Val.m]; rfl
theorem Slot.ok_eq (s : Sch) (m : Msg) (x : Slot) : x.ok s m = match m.fix x.num with
    | none => false
    | some f => decide (0 < x.vals.length) && (f.rep || decide (x.vals.length = 1)) && valsOk s f x.vals && (!f.hidden || (!decide ((x.vals.head?.map Val.n).getD 0 = 0) || !((x.vals.head?.map Val.s).getD [] == []))) := by
  cases x; simp only [Slot.ok, Slot.num, Slot.vals]; rfl
theorem Tree.ok_eq (s : Sch) (name : Str) (t : Tree) : t.ok s name = match s.msgAt name with
    | none => false
    | some m => slotsOk s m t.slots none [] && t.rest.all (restOK m) := by cases t; simp only [Tree.ok, Tree.slots, Tree.rest]
theorem treeOk1_one (s : Sch) (name : Str) {l : List Tree} (h : l.length = 1) : treeOk1 s name l = (l[0]'(by omega)).ok s name := by
  match l, h with
  | [t], _ => simp [treeOk1]
theorem treeOk1_no (s : Sch) (name : Str) {l : List Tree} (h : l.length ≠ 1) : treeOk1 s name l = false := by
  match l, h with
  | [], _ => simp [treeOk1]
  | _ :: _ :: _, _ => simp [treeOk1]
theorem valsOk_all (s : Sch) (f : Fld) (l : List Val) : valsOk s f l = l.all (Val.ok s f) := by
  induction l with
  | nil => simp [valsOk]
  | cons v l ih => simp [valsOk, ih]
def lastN (l : List Slot) (i : Nat) : Option Int := if h : 0 < i ∧ i ≤ l.length then some (l[i - 1]'(by omega)).num else none
theorem lastN_step {l : List Slot} {i : Nat} (h : i < l.length) : lastN l (i + 1) = some l[i].num := by
  unfold lastN; rw [dif_pos ⟨by omega, by omega⟩]; simp
theorem lastN_zero (l : List Slot) : lastN l 0 = none := by unfold lastN; simp
theorem lastN_pos {l : List Slot} {i : Nat} (h0 : 0 < i) (h : i < l.length) : lastN l i = some (l[i - 1]'(by omega)).num := by
  unfold lastN; rw [dif_pos ⟨h0, by omega⟩]
theorem Slot.ok_vals {s : Sch} {m : Msg} {x : Slot} {f : Fld} (hf : m.fix x.num = some f) : x.ok s m = (decide (0 < x.vals.length) && (f.rep || decide (x.vals.length = 1)) && x.vals.all fun v => v.ok s f && (!f.hidden || (!decide (v.n = 0) || !(v.s == [])))) := by
  rw [Slot.ok_eq, hf]
  simp only [valsOk_all]
  cases hv : x.vals with
  | nil => simp
  | cons v r =>
    cases hh : f.hidden with
    | false => simp
    | true =>
      have hr : f.rep = false := by unfold Fld.hidden at hh; simp at hh; exact hh.1.1
      cases r with
      | nil => simp [hr]; first | done | rfl
      | cons w r => simp [hr]
theorem Slot.ok_at {s : Sch} {m : Msg} {x : Slot} (h : x.ok s m = true) : decide (m.at x.num < 0) = false := by
  by_cases hd : decide (m.at x.num < 0) = true
  · rw [Slot.ok_eq, Msg.at_no hd] at h; cases h
  · simpa using hd
theorem headN {l : List Val} (h : 0 < l.length) : (l.head?.map Val.n).getD 0 = l[0].n := by cases l with | nil => simp at h | cons a l => rfl
theorem headS {l : List Val} (h : 0 < l.length) : (l.head?.map Val.s).getD [] = l[0].s := by cases l with | nil => simp at h | cons a l => rfl
theorem newOne_any {m : Msg} {l : List Slot} {one : Str} : newOne (l.map m.oneOf) one = !(l.any fun y => !(one == []) && (m.oneOf y == one)) := by
  unfold newOne
  by_cases h : one = []
  · subst h; simp
  · have h' : (one == []) = false := by simpa using h
    rw [h']; simp [List.any_map, Function.comp_def]
theorem any_count {l : List Str} {a : Str} : l.any (· == a) = decide (0 < l.count a) := by
  rw [Bool.eq_iff_iff]; simp [List.count_pos_iff]
theorem oneOf_fix {m : Msg} {x : Slot} {f : Fld} (h : m.fix x.num = some f) : m.oneOf x = f.one := by unfold Msg.oneOf; rw [h]; rfl
theorem cnt_step {m : Msg} {l : List Slot} {i : Nat} {f : List UInt8 → Int} {one : Str} (hi : i < l.length) (hf : ∀ key, f key = ((((l.take i).map m.oneOf).count key : Nat) : Int)) (ho : m.oneOf l[i] = one) (hb : i < 9223372036854775807) :
    ∀ key, (if key = one then IntKind.i64.wrap (f one + 1) else f key) = ((((l.take (i + 1)).map m.oneOf).count key : Nat) : Int) := by
  intro key
  rw [List.take_succ_eq_append_getElem hi, List.map_append, List.count_append]
  have hle : ((l.take i).map m.oneOf).count one ≤ i := by
    have := List.count_le_length (a := one) (l := (l.take i).map m.oneOf)
    rw [List.length_map, List.length_take] at this; omega
  split
  · rename_i e; subst e
    rw [hf, inc (by omega)]
    simp [ho]
  · rename_i e
    rw [hf]
    have : [l[i]].map m.oneOf = [one] := by simp [ho]
    rw [this, List.count_singleton, if_neg (by simpa using Ne.symm e)]
    simp
theorem cnt_new {m : Msg} {l : List Slot} {i : Nat} {f : List UInt8 → Int} {one : Str} (hf : ∀ key, f key = ((((l.take i).map m.oneOf).count key : Nat) : Int)) (hb : i < 9223372036854775807) :
    decide (1 < IntKind.i64.wrap (f one + 1)) = ((l.take i).map m.oneOf).any (· == one) := by
  have hle : ((l.take i).map m.oneOf).count one ≤ i := by
    have := List.count_le_length (a := one) (l := (l.take i).map m.oneOf)
    rw [List.length_map, List.length_take] at this; omega
  have key : ∀ c : Nat, decide ((1 : Int) < ((c + 1 : Nat) : Int)) = decide (0 < c) := fun c => by rw [Bool.eq_iff_iff]; simp; omega
  rw [hf, inc (by omega), any_count]
  exact key _
def slotsAt (s : Sch) (m : Msg) (l : List Slot) (i : Nat) : Bool := slotsOk s m (l.drop i) (lastN l i) ((l.take i).map m.oneOf)
theorem slotsAt_step {s : Sch} {m : Msg} {l : List Slot} {i : Nat} (h : i < l.length) : slotsAt s m l i = ((match lastN l i with | none => true | some n => decide (n < l[i].num)) && l[i].ok s m && newOne ((l.take i).map m.oneOf) (m.oneOf l[i]) && slotsAt s m l (i + 1)) := by
  unfold slotsAt
  rw [List.drop_eq_getElem_cons h, lastN_step h, List.take_succ_eq_append_getElem h, List.map_append]
  simp [slotsOk]
theorem slotsAt_end {s : Sch} {m : Msg} {l : List Slot} {i : Nat} (h : l.length ≤ i) : slotsAt s m l i = true := by
  unfold slotsAt; rw [List.drop_of_length_le h]; simp [slotsOk]
theorem slotsAt_zero (s : Sch) (m : Msg) (l : List Slot) : slotsAt s m l 0 = slotsOk s m l none [] := by
  unfold slotsAt lastN; simp
theorem rising_len : ∀ {l1 l2 : List Int}, l1.Pairwise (· < ·) → (∀ a ∈ l1, a ∈ l2) → l1.length ≤ l2.length
  | [], _, _, _ => by simp
  | a :: l1, l2, h, hs => by
    have ha : a ∈ l2 := hs a (by simp)
    have h2 := List.pairwise_cons.1 h
    have := rising_len (l1 := l1) (l2 := l2.erase a) h2.2 fun b hb => (List.mem_erase_of_ne (by have := h2.1 b hb; omega)).2 (hs b (by simp [hb]))
    rw [List.length_erase_of_mem ha] at this
    have : 0 < l2.length := List.length_pos_of_mem ha
    simp; omega
/-- the slots so far are known, and rise -/
structure goodS (m : Msg) (l : List Slot) (i : Nat) : Prop where
  le : i ≤ l.length
  kn : ∀ x ∈ l.take i, (m.fix x.num).isSome = true
  up : ((l.take i).map Slot.num).Pairwise (· < ·)
theorem goodS.zero (m : Msg) (l : List Slot) : goodS m l 0 := ⟨by omega, by simp, by simp⟩
theorem goodS.step {m : Msg} {l : List Slot} {i : Nat} (g : goodS m l i) (h : i < l.length) (hl : (match lastN l i with | none => true | some n => decide (n < l[i].num)) = true) (hf : (m.fix l[i].num).isSome = true) : goodS m l (i + 1) := by
  refine ⟨h, fun x hx => ?_, ?_⟩
  · rw [List.take_succ_eq_append_getElem h] at hx
    rcases List.mem_append.1 hx with hx | hx
    · exact g.kn x hx
    · rw [List.mem_singleton.1 hx]; exact hf
  · rw [List.take_succ_eq_append_getElem h, List.map_append, List.pairwise_append]
    refine ⟨g.up, by simp, fun a ha b hb => ?_⟩
    simp at hb
    subst hb
    by_cases h0 : 0 < i
    · rw [lastN_pos h0 h] at hl
      have hlt : (l[i - 1]'(by omega)).num < l[i].num := by simpa using hl
      obtain ⟨j, hj, rfl⟩ := List.getElem_of_mem ha
      rw [List.length_map, List.length_take] at hj
      by_cases hji : j = i - 1
      · subst hji; simpa using hlt
      · have hp := List.pairwise_iff_getElem.1 g.up j (i - 1) (by simp; omega) (by simp; omega) (by omega)
        simp at hp
        simp
        omega
    · have : i = 0 := by omega
      subst this
      simp at ha
theorem goodS.len {m : Msg} {l : List Slot} {i : Nat} (g : goodS m l i) : i ≤ m.fields.length := by
  have h1 := rising_len (l2 := m.fields.map (·.num)) g.up fun a ha => by
    obtain ⟨x, hx, rfl⟩ := List.mem_map.1 ha
    have hk := g.kn x hx
    rcases m.at_cases x.num with ⟨_, h2⟩ | ⟨q, hq, _, h2, h3⟩
    · rw [h2] at hk; cases hk
    · exact List.mem_map.2 ⟨_, List.getElem_mem hq, h3⟩
  rw [List.length_map, List.length_map, List.length_take] at h1
  have := g.le
  omega
theorem Slot.ok_some {s : Sch} {m : Msg} {x : Slot} (h : x.ok s m = true) : (m.fix x.num).isSome = true := by
  rw [Msg.at_fix (Slot.ok_at h)]; rfl
end Go.Proofs.YtnpgcmeclkncnaaGreatDoor.X
/- unicode/utf8.ValidString: the library's contract laid at this program. No condition. -/
namespace Go.Proofs
open Go.Shelf
def Tryz.laysVS_ren : Go.Shelf.Ren := ⟨fun | 196 => 162 | 259 => 199 | n => n, fun | 0 => 0 | 3 => 3 | 4 => 4 | 5 => 5 | 9 => 9 | 12 => 12 | 46 => 228 | 53 => 84 | 119 => 250 | 138 => 252 | 139 => 253 | n => n, fun | 3 => 0 | 4 => 1 | n => n⟩
theorem Tryz.laysVS : Go.Proofs.Lays.n196 Tryz.prog Tryz.laysVS_ren := {
  mixed := by kernel_rfl
  f196 := Tryz.func162.trans (congrArg some (by kernel_rfl))
  f259 := Tryz.func199.trans (congrArg some (by kernel_rfl))
  t0 := Tryz.underlying0
  a0 := Tryz.isAgg0
  z0 := Tryz.sizeOf0
  v0 := Tryz.zeroValue0
  t3 := Tryz.underlying3
  a3 := Tryz.isAgg3
  z3 := Tryz.sizeOf3
  v3 := Tryz.zeroValue3
  t4 := Tryz.underlying4
  a4 := Tryz.isAgg4
  z4 := Tryz.sizeOf4
  v4 := Tryz.zeroValue4
  t5 := Tryz.underlying5
  a5 := Tryz.isAgg5
  z5 := Tryz.sizeOf5
  v5 := Tryz.zeroValue5
  t9 := Tryz.underlying9
  a9 := Tryz.isAgg9
  z9 := Tryz.sizeOf9
  v9 := Tryz.zeroValue9
  t12 := Tryz.underlying12
  a12 := Tryz.isAgg12
  z12 := Tryz.sizeOf12
  v12 := Tryz.zeroValue12
  t46 := Tryz.underlying228
  a46 := Tryz.isAgg228
  z46 := Tryz.sizeOf228
  v46 := Tryz.zeroValue228
  t53 := Tryz.underlying84
  a53 := Tryz.isAgg84
  z53 := Tryz.sizeOf84
  v53 := Tryz.zeroValue84
  t119 := Tryz.underlying250
  a119 := Tryz.isAgg250
  z119 := Tryz.sizeOf250
  t138 := Tryz.underlying252
  a138 := Tryz.isAgg252
  z138 := Tryz.sizeOf252
  v138 := Tryz.zeroValue252
  t139 := Tryz.underlying253
  a139 := Tryz.isAgg253
  z139 := Tryz.sizeOf253
  v139 := Tryz.zeroValue253
  g3 := by kernel_rfl
  g4 := by kernel_rfl }
end Go.Proofs
namespace Go.Proofs.YtnpgcmeclkncnaaGreatDoor.X
open Go Go.RowKit Go.Proofs
theorem p_validS (s : Str) (hs : s.length ≤ 9223372036854775807) : Pure Tryz.prog 162 [.str s] (.bool (Lib.validD s)) :=
  Pure.of_calls fun G w cargs hg hn hk hV => by
    obtain ⟨x, rfl, hx⟩ := hV.one
    have e := hx.str_eq
    subst e
    refine (Any.utf8_ValidString Tryz.laysVS ⟨s.toArray⟩ w (by simpa [ByteArray.size] using hs) hg).mono ?_
    rintro e w' ⟨rfl, hb⟩
    exact ⟨_, rfl, .bool _, hb⟩
end Go.Proofs.YtnpgcmeclkncnaaGreatDoor.X
/- the document: names, numbers, types, fields. -/
set_option linter.unusedVariables false
set_option linter.unusedSimpArgs false
set_option linter.unusedSectionVars false
set_option maxRecDepth 100000
namespace Go.Proofs.YtnpgcmeclkncnaaGreatDoor.X
open Go Go.RowKit Go.Proofs
theorem fn142_M1 : isFn Tryz.prog 142 = true := by kernel_rfl
theorem se112_M1 : se Tryz.prog 112 = some (9, 1, 16) := by kernel_rfl
theorem zAe112_M1 : zeroA Tryz.prog 9 = some [AV.str []] := by kernel_rfl
theorem r_fnum (n : Int) : Pure Tryz.prog 123 [.int .i64 n] (.bool (fnum n)) := by
  refine Pure.of_tri Tryz.func123 rfl rfl (ltb rfl) fun H => ?_
  refine Tri.seq ?_
  refine Tri.region ?_
  refine TriL.c1 rfl (op_as (ltb rfl) rfl) ?_
  refine TriL.nil ?_
  refine Tri.seq ?_
  refine Tri.region ?_
  refine TriL.c1 rfl (op_mv (ltb rfl) rfl) ?_
  refine TriL.c1 rfl (op_bin (ltb rfl) rfl rfl rfl) ?_
  refine TriL.c1 rfl (op_mv (ltb rfl) rfl) ?_
  refine TriL.split (d := 5) rfl (fun hg1 => ?_) (fun hg1 => ?_)
  · refine TriL.g1 rfl (ltb rfl) rfl hg1 (op_mv (ltb rfl) rfl) ?_
    refine TriL.g1 rfl (ltb rfl) rfl hg1 (op_bin (ltb rfl) rfl rfl rfl) ?_
    refine TriL.c1 rfl (op_pickt (ltb rfl) rfl hg1 rfl) ?_
    refine TriL.c1 rfl (op_mv (ltb rfl) rfl) ?_
    refine TriL.split (d := 9) rfl (fun hg2 => ?_) (fun hg2 => ?_)
    · refine TriL.g1 rfl (ltb rfl) rfl hg2 (op_mv (ltb rfl) rfl) ?_
      refine TriL.g1 rfl (ltb rfl) rfl hg2 (op_bin (ltb rfl) rfl rfl rfl) ?_
      refine TriL.g1 rfl (ltb rfl) rfl hg2 (op_mv (ltb rfl) rfl) ?_
      refine TriL.split (d := 12) rfl (fun hg3 => ?_) (fun hg3 => ?_)
      · refine TriL.skipu rfl rfl (ltb rfl) (ltb rfl) rfl hg3 ?_
        refine TriL.skipu rfl rfl (ltb rfl) (ltb rfl) rfl hg3 ?_
        refine TriL.g1 rfl (ltb rfl) rfl hg2 (op_pickt (ltb rfl) rfl hg3 rfl) ?_
        refine TriL.c1 rfl (op_pickt (ltb rfl) rfl hg2 rfl) ?_
        refine TriL.c1 rfl (op_as (ltb rfl) rfl) ?_
        refine TriL.nil ?_
        refine Tri.ret ?_
        exact ⟨.inr rfl, (ResOK.r1 rfl (.tmp rfl .nil)).cast (congrArg AV.bool (by grind [fnum])), rfl⟩
      · refine TriL.g1 rfl (ltb rfl) rfl hg3 (op_mv (ltb rfl) rfl) ?_
        refine TriL.g1 rfl (ltb rfl) rfl hg3 (op_bin (ltb rfl) rfl rfl rfl) ?_
        refine TriL.g1 rfl (ltb rfl) rfl hg2 (op_pickf (ltb rfl) rfl hg3 rfl) ?_
        refine TriL.c1 rfl (op_pickt (ltb rfl) rfl hg2 rfl) ?_
        refine TriL.c1 rfl (op_as (ltb rfl) rfl) ?_
        refine TriL.nil ?_
        refine Tri.ret ?_
        exact ⟨.inr rfl, (ResOK.r1 rfl (.tmp rfl .nil)).cast (congrArg AV.bool (by grind [fnum])), rfl⟩
    · refine TriL.skipu rfl rfl (ltb rfl) (ltb rfl) rfl hg2 ?_
      refine TriL.skipu rfl rfl (ltb rfl) (ltb rfl) rfl hg2 ?_
      refine TriL.skipu rfl rfl (ltb rfl) (ltb rfl) rfl hg2 ?_
      refine TriL.skipg rfl rfl (ltb rfl) (ltb rfl) rfl ?_
      refine TriL.skipg rfl rfl (ltb rfl) (ltb rfl) rfl ?_
      refine TriL.skipu rfl rfl (ltb rfl) (ltb rfl) rfl hg2 ?_
      refine TriL.c1 rfl (op_pickf (ltb rfl) rfl hg2 rfl) ?_
      refine TriL.c1 rfl (op_as (ltb rfl) rfl) ?_
      refine TriL.nil ?_
      refine Tri.ret ?_
      exact ⟨.inr rfl, (ResOK.r1 rfl (.tmp rfl .nil)).cast (congrArg AV.bool (by grind [fnum])), rfl⟩
  · refine TriL.skipu rfl rfl (ltb rfl) (ltb rfl) rfl hg1 ?_
    refine TriL.skipu rfl rfl (ltb rfl) (ltb rfl) rfl hg1 ?_
    refine TriL.c1 rfl (op_pickf (ltb rfl) rfl hg1 rfl) ?_
    refine TriL.c1 rfl (op_mv (ltb rfl) rfl) ?_
    refine TriL.skipu rfl rfl (ltb rfl) (ltb rfl) rfl rfl ?_
    refine TriL.skipu rfl rfl (ltb rfl) (ltb rfl) rfl rfl ?_
    refine TriL.skipu rfl rfl (ltb rfl) (ltb rfl) rfl rfl ?_
    refine TriL.skipg rfl rfl (ltb rfl) (ltb rfl) rfl ?_
    refine TriL.skipg rfl rfl (ltb rfl) (ltb rfl) rfl ?_
    refine TriL.skipu rfl rfl (ltb rfl) (ltb rfl) rfl rfl ?_
    refine TriL.c1 rfl (op_pickf (ltb rfl) rfl rfl rfl) ?_
    refine TriL.c1 rfl (op_as (ltb rfl) rfl) ?_
    refine TriL.nil ?_
    refine Tri.ret ?_
    exact ⟨.inr rfl, (ResOK.r1 rfl (.tmp rfl .nil)).cast (congrArg AV.bool (by grind [fnum])), rfl⟩
theorem r_wholeT (n : Int) : Pure Tryz.prog 142 [.int .i64 n] (.bool (wholeT n)) := by
  refine Pure.of_tri Tryz.func142 rfl rfl (ltb rfl) fun H => ?_
  refine Tri.seq ?_
  refine Tri.region ?_
  refine TriL.c1 rfl (op_as (ltb rfl) rfl) ?_
  refine TriL.nil ?_
  refine Tri.seq ?_
  refine Tri.region ?_
  refine TriL.c1 rfl (op_mv (ltb rfl) rfl) ?_
  refine TriL.c1 rfl (op_bin (ltb rfl) rfl rfl rfl) ?_
  refine TriL.c1 rfl (op_mv (ltb rfl) rfl) ?_
  refine TriL.split (d := 5) rfl (fun hg1 => ?_) (fun hg1 => ?_)
  · refine TriL.g1 rfl (ltb rfl) rfl hg1 (op_mv (ltb rfl) rfl) ?_
    refine TriL.g1 rfl (ltb rfl) rfl hg1 (op_bin (ltb rfl) rfl rfl rfl) ?_
    refine TriL.c1 rfl (op_pickt (ltb rfl) rfl hg1 rfl) ?_
    refine TriL.c1 rfl (op_mv (ltb rfl) rfl) ?_
    refine TriL.split (d := 9) rfl (fun hg2 => ?_) (fun hg2 => ?_)
    · refine TriL.skipu rfl rfl (ltb rfl) (ltb rfl) rfl hg2 ?_
      refine TriL.skipu rfl rfl (ltb rfl) (ltb rfl) rfl hg2 ?_
      refine TriL.skipu rfl rfl (ltb rfl) (ltb rfl) rfl hg2 ?_
      refine TriL.skipg rfl rfl (ltb rfl) (ltb rfl) rfl ?_
      refine TriL.skipg rfl rfl (ltb rfl) (ltb rfl) rfl ?_
      refine TriL.skipu rfl rfl (ltb rfl) (ltb rfl) rfl hg2 ?_
      refine TriL.c1 rfl (op_pickt (ltb rfl) rfl hg2 rfl) ?_
      refine TriL.c1 rfl (op_as (ltb rfl) rfl) ?_
      refine TriL.nil ?_
      refine Tri.ret ?_
      exact ⟨.inr rfl, (ResOK.r1 rfl (.tmp rfl .nil)).cast (congrArg AV.bool (by grind [wholeT])), rfl⟩
    · refine TriL.g1 rfl (ltb rfl) rfl hg2 (op_mv (ltb rfl) rfl) ?_
      refine TriL.g1 rfl (ltb rfl) rfl hg2 (op_bin (ltb rfl) rfl rfl rfl) ?_
      refine TriL.g1 rfl (ltb rfl) rfl hg2 (op_mv (ltb rfl) rfl) ?_
      refine TriL.split (d := 12) rfl (fun hg3 => ?_) (fun hg3 => ?_)
      · refine TriL.g1 rfl (ltb rfl) rfl hg3 (op_mv (ltb rfl) rfl) ?_
        refine TriL.g1 rfl (ltb rfl) rfl hg3 (op_bin (ltb rfl) rfl rfl rfl) ?_
        refine TriL.g1 rfl (ltb rfl) rfl hg2 (op_pickt (ltb rfl) rfl hg3 rfl) ?_
        refine TriL.c1 rfl (op_pickf (ltb rfl) rfl hg2 rfl) ?_
        refine TriL.c1 rfl (op_as (ltb rfl) rfl) ?_
        refine TriL.nil ?_
        refine Tri.ret ?_
        exact ⟨.inr rfl, (ResOK.r1 rfl (.tmp rfl .nil)).cast (congrArg AV.bool (by grind [wholeT])), rfl⟩
      · refine TriL.skipu rfl rfl (ltb rfl) (ltb rfl) rfl hg3 ?_
        refine TriL.skipu rfl rfl (ltb rfl) (ltb rfl) rfl hg3 ?_
        refine TriL.g1 rfl (ltb rfl) rfl hg2 (op_pickf (ltb rfl) rfl hg3 rfl) ?_
        refine TriL.c1 rfl (op_pickf (ltb rfl) rfl hg2 rfl) ?_
        refine TriL.c1 rfl (op_as (ltb rfl) rfl) ?_
        refine TriL.nil ?_
        refine Tri.ret ?_
        exact ⟨.inr rfl, (ResOK.r1 rfl (.tmp rfl .nil)).cast (congrArg AV.bool (by grind [wholeT])), rfl⟩
  · refine TriL.skipu rfl rfl (ltb rfl) (ltb rfl) rfl hg1 ?_
    refine TriL.skipu rfl rfl (ltb rfl) (ltb rfl) rfl hg1 ?_
    refine TriL.c1 rfl (op_pickf (ltb rfl) rfl hg1 rfl) ?_
    refine TriL.c1 rfl (op_mv (ltb rfl) rfl) ?_
    refine TriL.g1 rfl (ltb rfl) rfl rfl (op_mv (ltb rfl) rfl) ?_
    refine TriL.g1 rfl (ltb rfl) rfl rfl (op_bin (ltb rfl) rfl rfl rfl) ?_
    refine TriL.g1 rfl (ltb rfl) rfl rfl (op_mv (ltb rfl) rfl) ?_
    refine TriL.split (d := 12) rfl (fun hg4 => ?_) (fun hg4 => ?_)
    · refine TriL.g1 rfl (ltb rfl) rfl hg4 (op_mv (ltb rfl) rfl) ?_
      refine TriL.g1 rfl (ltb rfl) rfl hg4 (op_bin (ltb rfl) rfl rfl rfl) ?_
      refine TriL.g1 rfl (ltb rfl) rfl rfl (op_pickt (ltb rfl) rfl hg4 rfl) ?_
      refine TriL.c1 rfl (op_pickf (ltb rfl) rfl rfl rfl) ?_
      refine TriL.c1 rfl (op_as (ltb rfl) rfl) ?_
      refine TriL.nil ?_
      refine Tri.ret ?_
      exact ⟨.inr rfl, (ResOK.r1 rfl (.tmp rfl .nil)).cast (congrArg AV.bool (by grind [wholeT])), rfl⟩
    · refine TriL.skipu rfl rfl (ltb rfl) (ltb rfl) rfl hg4 ?_
      refine TriL.skipu rfl rfl (ltb rfl) (ltb rfl) rfl hg4 ?_
      refine TriL.g1 rfl (ltb rfl) rfl rfl (op_pickf (ltb rfl) rfl hg4 rfl) ?_
      refine TriL.c1 rfl (op_pickf (ltb rfl) rfl rfl rfl) ?_
      refine TriL.c1 rfl (op_as (ltb rfl) rfl) ?_
      refine TriL.nil ?_
      refine Tri.ret ?_
      exact ⟨.inr rfl, (ResOK.r1 rfl (.tmp rfl .nil)).cast (congrArg AV.bool (by grind [wholeT])), rfl⟩
theorem r_signT (n : Int) : Pure Tryz.prog 197 [.int .i64 n] (.bool (signT n)) := by
  refine Pure.of_tri Tryz.func197 rfl rfl (ltb rfl) fun H => ?_
  refine Tri.seq ?_
  refine Tri.region ?_
  refine TriL.c1 rfl (op_as (ltb rfl) rfl) ?_
  refine TriL.nil ?_
  refine Tri.seq ?_
  refine Tri.region ?_
  refine TriL.c1 rfl (op_mv (ltb rfl) rfl) ?_
  refine TriL.c1 rfl (op_bin (ltb rfl) rfl rfl rfl) ?_
  refine TriL.c1 rfl (op_mv (ltb rfl) rfl) ?_
  refine TriL.split (d := 5) rfl (fun hg1 => ?_) (fun hg1 => ?_)
  · refine TriL.skipu rfl rfl (ltb rfl) (ltb rfl) rfl hg1 ?_
    refine TriL.skipu rfl rfl (ltb rfl) (ltb rfl) rfl hg1 ?_
    refine TriL.c1 rfl (op_pickt (ltb rfl) rfl hg1 rfl) ?_
    refine TriL.c1 rfl (op_mv (ltb rfl) rfl) ?_
    refine TriL.skipu rfl rfl (ltb rfl) (ltb rfl) rfl rfl ?_
    refine TriL.skipu rfl rfl (ltb rfl) (ltb rfl) rfl rfl ?_
    refine TriL.c1 rfl (op_pickt (ltb rfl) rfl rfl rfl) ?_
    refine TriL.c1 rfl (op_mv (ltb rfl) rfl) ?_
    refine TriL.skipu rfl rfl (ltb rfl) (ltb rfl) rfl rfl ?_
    refine TriL.skipu rfl rfl (ltb rfl) (ltb rfl) rfl rfl ?_
    refine TriL.c1 rfl (op_pickt (ltb rfl) rfl rfl rfl) ?_
    refine TriL.c1 rfl (op_mv (ltb rfl) rfl) ?_
    refine TriL.skipu rfl rfl (ltb rfl) (ltb rfl) rfl rfl ?_
    refine TriL.skipu rfl rfl (ltb rfl) (ltb rfl) rfl rfl ?_
    refine TriL.c1 rfl (op_pickt (ltb rfl) rfl rfl rfl) ?_
    refine TriL.c1 rfl (op_mv (ltb rfl) rfl) ?_
    refine TriL.skipu rfl rfl (ltb rfl) (ltb rfl) rfl rfl ?_
    refine TriL.skipu rfl rfl (ltb rfl) (ltb rfl) rfl rfl ?_
    refine TriL.c1 rfl (op_pickt (ltb rfl) rfl rfl rfl) ?_
    refine TriL.c1 rfl (op_mv (ltb rfl) rfl) ?_
    refine TriL.skipu rfl rfl (ltb rfl) (ltb rfl) rfl rfl ?_
    refine TriL.skipu rfl rfl (ltb rfl) (ltb rfl) rfl rfl ?_
    refine TriL.c1 rfl (op_pickt (ltb rfl) rfl rfl rfl) ?_
    refine TriL.c1 rfl (op_as (ltb rfl) rfl) ?_
    refine TriL.nil ?_
    refine Tri.ret ?_
    exact ⟨.inr rfl, (ResOK.r1 rfl (.tmp rfl .nil)).cast (congrArg AV.bool (by grind [signT])), rfl⟩
  · refine TriL.g1 rfl (ltb rfl) rfl hg1 (op_mv (ltb rfl) rfl) ?_
    refine TriL.g1 rfl (ltb rfl) rfl hg1 (op_bin (ltb rfl) rfl rfl rfl) ?_
    refine TriL.c1 rfl (op_pickf (ltb rfl) rfl hg1 rfl) ?_
    refine TriL.c1 rfl (op_mv (ltb rfl) rfl) ?_
    refine TriL.split (d := 9) rfl (fun hg2 => ?_) (fun hg2 => ?_)
    · refine TriL.skipu rfl rfl (ltb rfl) (ltb rfl) rfl hg2 ?_
      refine TriL.skipu rfl rfl (ltb rfl) (ltb rfl) rfl hg2 ?_
      refine TriL.c1 rfl (op_pickt (ltb rfl) rfl hg2 rfl) ?_
      refine TriL.c1 rfl (op_mv (ltb rfl) rfl) ?_
      refine TriL.skipu rfl rfl (ltb rfl) (ltb rfl) rfl rfl ?_
      refine TriL.skipu rfl rfl (ltb rfl) (ltb rfl) rfl rfl ?_
      refine TriL.c1 rfl (op_pickt (ltb rfl) rfl rfl rfl) ?_
      refine TriL.c1 rfl (op_mv (ltb rfl) rfl) ?_
      refine TriL.skipu rfl rfl (ltb rfl) (ltb rfl) rfl rfl ?_
      refine TriL.skipu rfl rfl (ltb rfl) (ltb rfl) rfl rfl ?_
      refine TriL.c1 rfl (op_pickt (ltb rfl) rfl rfl rfl) ?_
      refine TriL.c1 rfl (op_mv (ltb rfl) rfl) ?_
      refine TriL.skipu rfl rfl (ltb rfl) (ltb rfl) rfl rfl ?_
      refine TriL.skipu rfl rfl (ltb rfl) (ltb rfl) rfl rfl ?_
      refine TriL.c1 rfl (op_pickt (ltb rfl) rfl rfl rfl) ?_
      refine TriL.c1 rfl (op_mv (ltb rfl) rfl) ?_
      refine TriL.skipu rfl rfl (ltb rfl) (ltb rfl) rfl rfl ?_
      refine TriL.skipu rfl rfl (ltb rfl) (ltb rfl) rfl rfl ?_
      refine TriL.c1 rfl (op_pickt (ltb rfl) rfl rfl rfl) ?_
      refine TriL.c1 rfl (op_as (ltb rfl) rfl) ?_
      refine TriL.nil ?_
      refine Tri.ret ?_
      exact ⟨.inr rfl, (ResOK.r1 rfl (.tmp rfl .nil)).cast (congrArg AV.bool (by grind [signT])), rfl⟩
    · refine TriL.g1 rfl (ltb rfl) rfl hg2 (op_mv (ltb rfl) rfl) ?_
      refine TriL.g1 rfl (ltb rfl) rfl hg2 (op_bin (ltb rfl) rfl rfl rfl) ?_
      refine TriL.c1 rfl (op_pickf (ltb rfl) rfl hg2 rfl) ?_
      refine TriL.c1 rfl (op_mv (ltb rfl) rfl) ?_
      refine TriL.split (d := 13) rfl (fun hg3 => ?_) (fun hg3 => ?_)
      · refine TriL.skipu rfl rfl (ltb rfl) (ltb rfl) rfl hg3 ?_
        refine TriL.skipu rfl rfl (ltb rfl) (ltb rfl) rfl hg3 ?_
        refine TriL.c1 rfl (op_pickt (ltb rfl) rfl hg3 rfl) ?_
        refine TriL.c1 rfl (op_mv (ltb rfl) rfl) ?_
        refine TriL.skipu rfl rfl (ltb rfl) (ltb rfl) rfl rfl ?_
        refine TriL.skipu rfl rfl (ltb rfl) (ltb rfl) rfl rfl ?_
        refine TriL.c1 rfl (op_pickt (ltb rfl) rfl rfl rfl) ?_
        refine TriL.c1 rfl (op_mv (ltb rfl) rfl) ?_
        refine TriL.skipu rfl rfl (ltb rfl) (ltb rfl) rfl rfl ?_
        refine TriL.skipu rfl rfl (ltb rfl) (ltb rfl) rfl rfl ?_
        refine TriL.c1 rfl (op_pickt (ltb rfl) rfl rfl rfl) ?_
        refine TriL.c1 rfl (op_mv (ltb rfl) rfl) ?_
        refine TriL.skipu rfl rfl (ltb rfl) (ltb rfl) rfl rfl ?_
        refine TriL.skipu rfl rfl (ltb rfl) (ltb rfl) rfl rfl ?_
        refine TriL.c1 rfl (op_pickt (ltb rfl) rfl rfl rfl) ?_
        refine TriL.c1 rfl (op_as (ltb rfl) rfl) ?_
        refine TriL.nil ?_
        refine Tri.ret ?_
        exact ⟨.inr rfl, (ResOK.r1 rfl (.tmp rfl .nil)).cast (congrArg AV.bool (by grind [signT])), rfl⟩
      · refine TriL.g1 rfl (ltb rfl) rfl hg3 (op_mv (ltb rfl) rfl) ?_
        refine TriL.g1 rfl (ltb rfl) rfl hg3 (op_bin (ltb rfl) rfl rfl rfl) ?_
        refine TriL.c1 rfl (op_pickf (ltb rfl) rfl hg3 rfl) ?_
        refine TriL.c1 rfl (op_mv (ltb rfl) rfl) ?_
        refine TriL.split (d := 17) rfl (fun hg4 => ?_) (fun hg4 => ?_)
        · refine TriL.skipu rfl rfl (ltb rfl) (ltb rfl) rfl hg4 ?_
          refine TriL.skipu rfl rfl (ltb rfl) (ltb rfl) rfl hg4 ?_
          refine TriL.c1 rfl (op_pickt (ltb rfl) rfl hg4 rfl) ?_
          refine TriL.c1 rfl (op_mv (ltb rfl) rfl) ?_
          refine TriL.skipu rfl rfl (ltb rfl) (ltb rfl) rfl rfl ?_
          refine TriL.skipu rfl rfl (ltb rfl) (ltb rfl) rfl rfl ?_
          refine TriL.c1 rfl (op_pickt (ltb rfl) rfl rfl rfl) ?_
          refine TriL.c1 rfl (op_mv (ltb rfl) rfl) ?_
          refine TriL.skipu rfl rfl (ltb rfl) (ltb rfl) rfl rfl ?_
          refine TriL.skipu rfl rfl (ltb rfl) (ltb rfl) rfl rfl ?_
          refine TriL.c1 rfl (op_pickt (ltb rfl) rfl rfl rfl) ?_
          refine TriL.c1 rfl (op_as (ltb rfl) rfl) ?_
          refine TriL.nil ?_
          refine Tri.ret ?_
          exact ⟨.inr rfl, (ResOK.r1 rfl (.tmp rfl .nil)).cast (congrArg AV.bool (by grind [signT])), rfl⟩
        · refine TriL.g1 rfl (ltb rfl) rfl hg4 (op_mv (ltb rfl) rfl) ?_
          refine TriL.g1 rfl (ltb rfl) rfl hg4 (op_bin (ltb rfl) rfl rfl rfl) ?_
          refine TriL.c1 rfl (op_pickf (ltb rfl) rfl hg4 rfl) ?_
          refine TriL.c1 rfl (op_mv (ltb rfl) rfl) ?_
          refine TriL.split (d := 21) rfl (fun hg5 => ?_) (fun hg5 => ?_)
          · refine TriL.skipu rfl rfl (ltb rfl) (ltb rfl) rfl hg5 ?_
            refine TriL.skipu rfl rfl (ltb rfl) (ltb rfl) rfl hg5 ?_
            refine TriL.c1 rfl (op_pickt (ltb rfl) rfl hg5 rfl) ?_
            refine TriL.c1 rfl (op_mv (ltb rfl) rfl) ?_
            refine TriL.skipu rfl rfl (ltb rfl) (ltb rfl) rfl rfl ?_
            refine TriL.skipu rfl rfl (ltb rfl) (ltb rfl) rfl rfl ?_
            refine TriL.c1 rfl (op_pickt (ltb rfl) rfl rfl rfl) ?_
            refine TriL.c1 rfl (op_as (ltb rfl) rfl) ?_
            refine TriL.nil ?_
            refine Tri.ret ?_
            exact ⟨.inr rfl, (ResOK.r1 rfl (.tmp rfl .nil)).cast (congrArg AV.bool (by grind [signT])), rfl⟩
          · refine TriL.g1 rfl (ltb rfl) rfl hg5 (op_mv (ltb rfl) rfl) ?_
            refine TriL.g1 rfl (ltb rfl) rfl hg5 (op_bin (ltb rfl) rfl rfl rfl) ?_
            refine TriL.c1 rfl (op_pickf (ltb rfl) rfl hg5 rfl) ?_
            refine TriL.c1 rfl (op_mv (ltb rfl) rfl) ?_
            refine TriL.split (d := 25) rfl (fun hg6 => ?_) (fun hg6 => ?_)
            · refine TriL.skipu rfl rfl (ltb rfl) (ltb rfl) rfl hg6 ?_
              refine TriL.skipu rfl rfl (ltb rfl) (ltb rfl) rfl hg6 ?_
              refine TriL.c1 rfl (op_pickt (ltb rfl) rfl hg6 rfl) ?_
              refine TriL.c1 rfl (op_as (ltb rfl) rfl) ?_
              refine TriL.nil ?_
              refine Tri.ret ?_
              exact ⟨.inr rfl, (ResOK.r1 rfl (.tmp rfl .nil)).cast (congrArg AV.bool (by grind [signT])), rfl⟩
            · refine TriL.g1 rfl (ltb rfl) rfl hg6 (op_mv (ltb rfl) rfl) ?_
              refine TriL.g1 rfl (ltb rfl) rfl hg6 (op_bin (ltb rfl) rfl rfl rfl) ?_
              refine TriL.c1 rfl (op_pickf (ltb rfl) rfl hg6 rfl) ?_
              refine TriL.c1 rfl (op_as (ltb rfl) rfl) ?_
              refine TriL.nil ?_
              refine Tri.ret ?_
              exact ⟨.inr rfl, (ResOK.r1 rfl (.tmp rfl .nil)).cast (congrArg AV.bool (by grind [signT])), rfl⟩
theorem r_wideT (n : Int) : Pure Tryz.prog 196 [.int .i64 n] (.bool (wideT n)) := by
  refine Pure.of_tri Tryz.func196 rfl rfl (ltb rfl) fun H => ?_
  refine Tri.seq ?_
  refine Tri.region ?_
  refine TriL.c1 rfl (op_as (ltb rfl) rfl) ?_
  refine TriL.nil ?_
  refine Tri.seq ?_
  refine Tri.region ?_
  refine TriL.c1 rfl (op_mv (ltb rfl) rfl) ?_
  refine TriL.c1 rfl (op_bin (ltb rfl) rfl rfl rfl) ?_
  refine TriL.c1 rfl (op_mv (ltb rfl) rfl) ?_
  refine TriL.split (d := 5) rfl (fun hg1 => ?_) (fun hg1 => ?_)
  · refine TriL.skipu rfl rfl (ltb rfl) (ltb rfl) rfl hg1 ?_
    refine TriL.skipu rfl rfl (ltb rfl) (ltb rfl) rfl hg1 ?_
    refine TriL.c1 rfl (op_pickt (ltb rfl) rfl hg1 rfl) ?_
    refine TriL.c1 rfl (op_mv (ltb rfl) rfl) ?_
    refine TriL.skipu rfl rfl (ltb rfl) (ltb rfl) rfl rfl ?_
    refine TriL.skipu rfl rfl (ltb rfl) (ltb rfl) rfl rfl ?_
    refine TriL.c1 rfl (op_pickt (ltb rfl) rfl rfl rfl) ?_
    refine TriL.c1 rfl (op_mv (ltb rfl) rfl) ?_
    refine TriL.skipu rfl rfl (ltb rfl) (ltb rfl) rfl rfl ?_
    refine TriL.skipu rfl rfl (ltb rfl) (ltb rfl) rfl rfl ?_
    refine TriL.c1 rfl (op_pickt (ltb rfl) rfl rfl rfl) ?_
    refine TriL.c1 rfl (op_mv (ltb rfl) rfl) ?_
    refine TriL.skipu rfl rfl (ltb rfl) (ltb rfl) rfl rfl ?_
    refine TriL.skipu rfl rfl (ltb rfl) (ltb rfl) rfl rfl ?_
    refine TriL.c1 rfl (op_pickt (ltb rfl) rfl rfl rfl) ?_
    refine TriL.c1 rfl (op_as (ltb rfl) rfl) ?_
    refine TriL.nil ?_
    refine Tri.ret ?_
    exact ⟨.inr rfl, (ResOK.r1 rfl (.tmp rfl .nil)).cast (congrArg AV.bool (by grind [wideT])), rfl⟩
  · refine TriL.g1 rfl (ltb rfl) rfl hg1 (op_mv (ltb rfl) rfl) ?_
    refine TriL.g1 rfl (ltb rfl) rfl hg1 (op_bin (ltb rfl) rfl rfl rfl) ?_
    refine TriL.c1 rfl (op_pickf (ltb rfl) rfl hg1 rfl) ?_
    refine TriL.c1 rfl (op_mv (ltb rfl) rfl) ?_
    refine TriL.split (d := 9) rfl (fun hg2 => ?_) (fun hg2 => ?_)
    · refine TriL.skipu rfl rfl (ltb rfl) (ltb rfl) rfl hg2 ?_
      refine TriL.skipu rfl rfl (ltb rfl) (ltb rfl) rfl hg2 ?_
      refine TriL.c1 rfl (op_pickt (ltb rfl) rfl hg2 rfl) ?_
      refine TriL.c1 rfl (op_mv (ltb rfl) rfl) ?_
      refine TriL.skipu rfl rfl (ltb rfl) (ltb rfl) rfl rfl ?_
      refine TriL.skipu rfl rfl (ltb rfl) (ltb rfl) rfl rfl ?_
      refine TriL.c1 rfl (op_pickt (ltb rfl) rfl rfl rfl) ?_
      refine TriL.c1 rfl (op_mv (ltb rfl) rfl) ?_
      refine TriL.skipu rfl rfl (ltb rfl) (ltb rfl) rfl rfl ?_
      refine TriL.skipu rfl rfl (ltb rfl) (ltb rfl) rfl rfl ?_
      refine TriL.c1 rfl (op_pickt (ltb rfl) rfl rfl rfl) ?_
      refine TriL.c1 rfl (op_as (ltb rfl) rfl) ?_
      refine TriL.nil ?_
      refine Tri.ret ?_
      exact ⟨.inr rfl, (ResOK.r1 rfl (.tmp rfl .nil)).cast (congrArg AV.bool (by grind [wideT])), rfl⟩
    · refine TriL.g1 rfl (ltb rfl) rfl hg2 (op_mv (ltb rfl) rfl) ?_
      refine TriL.g1 rfl (ltb rfl) rfl hg2 (op_bin (ltb rfl) rfl rfl rfl) ?_
      refine TriL.c1 rfl (op_pickf (ltb rfl) rfl hg2 rfl) ?_
      refine TriL.c1 rfl (op_mv (ltb rfl) rfl) ?_
      refine TriL.split (d := 13) rfl (fun hg3 => ?_) (fun hg3 => ?_)
      · refine TriL.skipu rfl rfl (ltb rfl) (ltb rfl) rfl hg3 ?_
        refine TriL.skipu rfl rfl (ltb rfl) (ltb rfl) rfl hg3 ?_
        refine TriL.c1 rfl (op_pickt (ltb rfl) rfl hg3 rfl) ?_
        refine TriL.c1 rfl (op_mv (ltb rfl) rfl) ?_
        refine TriL.skipu rfl rfl (ltb rfl) (ltb rfl) rfl rfl ?_
        refine TriL.skipu rfl rfl (ltb rfl) (ltb rfl) rfl rfl ?_
        refine TriL.c1 rfl (op_pickt (ltb rfl) rfl rfl rfl) ?_
        refine TriL.c1 rfl (op_as (ltb rfl) rfl) ?_
        refine TriL.nil ?_
        refine Tri.ret ?_
        exact ⟨.inr rfl, (ResOK.r1 rfl (.tmp rfl .nil)).cast (congrArg AV.bool (by grind [wideT])), rfl⟩
      · refine TriL.g1 rfl (ltb rfl) rfl hg3 (op_mv (ltb rfl) rfl) ?_
        refine TriL.g1 rfl (ltb rfl) rfl hg3 (op_bin (ltb rfl) rfl rfl rfl) ?_
        refine TriL.c1 rfl (op_pickf (ltb rfl) rfl hg3 rfl) ?_
        refine TriL.c1 rfl (op_mv (ltb rfl) rfl) ?_
        refine TriL.split (d := 17) rfl (fun hg4 => ?_) (fun hg4 => ?_)
        · refine TriL.skipu rfl rfl (ltb rfl) (ltb rfl) rfl hg4 ?_
          refine TriL.skipu rfl rfl (ltb rfl) (ltb rfl) rfl hg4 ?_
          refine TriL.c1 rfl (op_pickt (ltb rfl) rfl hg4 rfl) ?_
          refine TriL.c1 rfl (op_as (ltb rfl) rfl) ?_
          refine TriL.nil ?_
          refine Tri.ret ?_
          exact ⟨.inr rfl, (ResOK.r1 rfl (.tmp rfl .nil)).cast (congrArg AV.bool (by grind [wideT])), rfl⟩
        · refine TriL.g1 rfl (ltb rfl) rfl hg4 (op_mv (ltb rfl) rfl) ?_
          refine TriL.g1 rfl (ltb rfl) rfl hg4 (op_bin (ltb rfl) rfl rfl rfl) ?_
          refine TriL.c1 rfl (op_pickf (ltb rfl) rfl hg4 rfl) ?_
          refine TriL.c1 rfl (op_as (ltb rfl) rfl) ?_
          refine TriL.nil ?_
          refine Tri.ret ?_
          exact ⟨.inr rfl, (ResOK.r1 rfl (.tmp rfl .nil)).cast (congrArg AV.bool (by grind [wideT])), rfl⟩
theorem r_numT (n : Int) : Pure Tryz.prog 124 [.int .i64 n] (.bool (numT n)) := by
  refine Pure.of_tri Tryz.func124 rfl rfl (ltb rfl) fun H => ?_
  refine Tri.seq ?_
  refine Tri.region ?_
  refine TriL.c1 rfl (op_as (ltb rfl) rfl) ?_
  refine TriL.nil ?_
  refine Tri.seq ?_
  refine Tri.region ?_
  refine TriL.c1 rfl (op_mv (ltb rfl) rfl) ?_
  refine TriL.c1 rfl (op_call (ltb rfl) fn142_M1 rfl (r_wholeT _)) ?_
  refine TriL.c1 rfl (op_mv (ltb rfl) rfl) ?_
  refine TriL.split (d := 5) rfl (fun hg1 => ?_) (fun hg1 => ?_)
  · refine TriL.skipu rfl rfl (ltb rfl) (ltb rfl) rfl hg1 ?_
    refine TriL.skipu rfl rfl (ltb rfl) (ltb rfl) rfl hg1 ?_
    refine TriL.c1 rfl (op_pickt (ltb rfl) rfl hg1 rfl) ?_
    refine TriL.c1 rfl (op_mv (ltb rfl) rfl) ?_
    refine TriL.skipu rfl rfl (ltb rfl) (ltb rfl) rfl rfl ?_
    refine TriL.skipu rfl rfl (ltb rfl) (ltb rfl) rfl rfl ?_
    refine TriL.c1 rfl (op_pickt (ltb rfl) rfl rfl rfl) ?_
    refine TriL.c1 rfl (op_as (ltb rfl) rfl) ?_
    refine TriL.nil ?_
    refine Tri.ret ?_
    exact ⟨.inr rfl, (ResOK.r1 rfl (.tmp rfl .nil)).cast (congrArg AV.bool (by grind [numT])), rfl⟩
  · refine TriL.g1 rfl (ltb rfl) rfl hg1 (op_mv (ltb rfl) rfl) ?_
    refine TriL.g1 rfl (ltb rfl) rfl hg1 (op_bin (ltb rfl) rfl rfl rfl) ?_
    refine TriL.c1 rfl (op_pickf (ltb rfl) rfl hg1 rfl) ?_
    refine TriL.c1 rfl (op_mv (ltb rfl) rfl) ?_
    refine TriL.split (d := 9) rfl (fun hg2 => ?_) (fun hg2 => ?_)
    · refine TriL.skipu rfl rfl (ltb rfl) (ltb rfl) rfl hg2 ?_
      refine TriL.skipu rfl rfl (ltb rfl) (ltb rfl) rfl hg2 ?_
      refine TriL.c1 rfl (op_pickt (ltb rfl) rfl hg2 rfl) ?_
      refine TriL.c1 rfl (op_as (ltb rfl) rfl) ?_
      refine TriL.nil ?_
      refine Tri.ret ?_
      exact ⟨.inr rfl, (ResOK.r1 rfl (.tmp rfl .nil)).cast (congrArg AV.bool (by grind [numT])), rfl⟩
    · refine TriL.g1 rfl (ltb rfl) rfl hg2 (op_mv (ltb rfl) rfl) ?_
      refine TriL.g1 rfl (ltb rfl) rfl hg2 (op_bin (ltb rfl) rfl rfl rfl) ?_
      refine TriL.c1 rfl (op_pickf (ltb rfl) rfl hg2 rfl) ?_
      refine TriL.c1 rfl (op_as (ltb rfl) rfl) ?_
      refine TriL.nil ?_
      refine Tri.ret ?_
      exact ⟨.inr rfl, (ResOK.r1 rfl (.tmp rfl .nil)).cast (congrArg AV.bool (by grind [numT])), rfl⟩
theorem r_wireT (n : Int) : Pure Tryz.prog 138 [.int .i64 n] (.int .i64 (wireT n)) := by
  refine Pure.of_tri Tryz.func138 rfl rfl (ltb rfl) fun H => ?_
  refine Tri.seq ?_
  refine Tri.region ?_
  refine TriL.c1 rfl (op_as (ltb rfl) rfl) ?_
  refine TriL.nil ?_
  refine Tri.seq ?_
  refine Tri.seq ?_
  refine Tri.region ?_
  refine TriL.c1 rfl (op_mv (ltb rfl) rfl) ?_
  refine TriL.nil ?_
  refine Tri.blk ?_
  refine Tri.seq ?_
  refine Tri.seq ?_
  refine Tri.region ?_
  refine TriL.c1 rfl (op_bin (ltb rfl) rfl rfl rfl) ?_
  refine TriL.c1 rfl (op_as (ltb rfl) rfl) ?_
  refine TriL.nil ?_
  refine Tri.cond rfl (fun hc1 => ?_) (fun hc1 => ?_)
  · refine Tri.skip ?_
    refine Tri.condT rfl hc1 ?_
    refine Tri.seq ?_
    refine Tri.region ?_
    refine TriL.c1 rfl (op_as (ltb rfl) rfl) ?_
    refine TriL.nil ?_
    refine Tri.ret ?_
    exact ⟨.inr rfl, (ResOK.r1 rfl (.tmp rfl .nil)).cast (congrArg (AV.int .i64) (by grind [wireT])), rfl⟩
  · -- region 3 ref.go:33
    refine Tri.region ?_
    refine TriL.c1 rfl (op_bin (ltb rfl) rfl rfl rfl) ?_
    refine TriL.c1 rfl (op_as (ltb rfl) rfl) ?_
    refine TriL.nil ?_
    refine Tri.cond rfl (fun hc2 => ?_) (fun hc2 => ?_)
    · refine Tri.seq ?_
      refine Tri.region ?_
      refine TriL.c1 rfl (op_as (ltb rfl) rfl) ?_
      refine TriL.nil ?_
      refine Tri.ret ?_
      exact ⟨.inr rfl, (ResOK.r1 rfl (.tmp rfl .nil)).cast (congrArg (AV.int .i64) (by grind [wireT])), rfl⟩
    · refine Tri.seq ?_
      refine Tri.seq ?_
      refine Tri.region ?_
      refine TriL.c1 rfl (op_bin (ltb rfl) rfl rfl rfl) ?_
      refine TriL.c1 rfl (op_as (ltb rfl) rfl) ?_
      refine TriL.nil ?_
      refine Tri.cond rfl (fun hc3 => ?_) (fun hc3 => ?_)
      · refine Tri.skip ?_
        refine Tri.condT rfl hc3 ?_
        refine Tri.seq ?_
        refine Tri.region ?_
        refine TriL.c1 rfl (op_as (ltb rfl) rfl) ?_
        refine TriL.nil ?_
        refine Tri.ret ?_
        exact ⟨.inr rfl, (ResOK.r1 rfl (.tmp rfl .nil)).cast (congrArg (AV.int .i64) (by grind [wireT])), rfl⟩
      · -- region 6 ref.go:35
        refine Tri.region ?_
        refine TriL.c1 rfl (op_bin (ltb rfl) rfl rfl rfl) ?_
        refine TriL.c1 rfl (op_as (ltb rfl) rfl) ?_
        refine TriL.nil ?_
        refine Tri.cond rfl (fun hc4 => ?_) (fun hc4 => ?_)
        · refine Tri.seq ?_
          refine Tri.region ?_
          refine TriL.c1 rfl (op_as (ltb rfl) rfl) ?_
          refine TriL.nil ?_
          refine Tri.ret ?_
          exact ⟨.inr rfl, (ResOK.r1 rfl (.tmp rfl .nil)).cast (congrArg (AV.int .i64) (by grind [wireT])), rfl⟩
        · refine Tri.seq ?_
          refine Tri.seq ?_
          refine Tri.region ?_
          refine TriL.c1 rfl (op_bin (ltb rfl) rfl rfl rfl) ?_
          refine TriL.c1 rfl (op_as (ltb rfl) rfl) ?_
          refine TriL.nil ?_
          refine Tri.cond rfl (fun hc5 => ?_) (fun hc5 => ?_)
          · refine Tri.skip ?_
            refine Tri.condT rfl hc5 ?_
            refine Tri.seq ?_
            refine Tri.region ?_
            refine TriL.c1 rfl (op_as (ltb rfl) rfl) ?_
            refine TriL.nil ?_
            refine Tri.ret ?_
            exact ⟨.inr rfl, (ResOK.r1 rfl (.tmp rfl .nil)).cast (congrArg (AV.int .i64) (by grind [wireT])), rfl⟩
          · refine Tri.seq ?_
            refine Tri.region ?_
            refine TriL.c1 rfl (op_bin (ltb rfl) rfl rfl rfl) ?_
            refine TriL.c1 rfl (op_as (ltb rfl) rfl) ?_
            refine TriL.nil ?_
            refine Tri.cond rfl (fun hc6 => ?_) (fun hc6 => ?_)
            · refine Tri.skip ?_
              refine Tri.condT rfl hc6 ?_
              refine Tri.seq ?_
              refine Tri.region ?_
              refine TriL.c1 rfl (op_as (ltb rfl) rfl) ?_
              refine TriL.nil ?_
              refine Tri.ret ?_
              exact ⟨.inr rfl, (ResOK.r1 rfl (.tmp rfl .nil)).cast (congrArg (AV.int .i64) (by grind [wireT])), rfl⟩
            · -- region 10 ref.go:37
              refine Tri.region ?_
              refine TriL.c1 rfl (op_bin (ltb rfl) rfl rfl rfl) ?_
              refine TriL.c1 rfl (op_as (ltb rfl) rfl) ?_
              refine TriL.nil ?_
              refine Tri.cond rfl (fun hc7 => ?_) (fun hc7 => ?_)
              · refine Tri.seq ?_
                refine Tri.region ?_
                refine TriL.c1 rfl (op_as (ltb rfl) rfl) ?_
                refine TriL.nil ?_
                refine Tri.ret ?_
                exact ⟨.inr rfl, (ResOK.r1 rfl (.tmp rfl .nil)).cast (congrArg (AV.int .i64) (by grind [wireT])), rfl⟩
              · refine Tri.skip ?_
                refine Tri.seq ?_
                refine Tri.region ?_
                refine TriL.c1 rfl (op_as (ltb rfl) rfl) ?_
                refine TriL.nil ?_
                refine Tri.ret ?_
                exact ⟨.inr rfl, (ResOK.r1 rfl (.tmp rfl .nil)).cast (congrArg (AV.int .i64) (by grind [wireT])), rfl⟩
theorem r_tagOK (n w : Int) : Pure Tryz.prog 118 [.int .i64 n, .int .i64 w] (.bool (tagOK n w)) := by
  refine Pure.of_tri Tryz.func118 rfl rfl (ltb rfl) fun H => ?_
  refine Tri.seq ?_
  refine Tri.region ?_
  refine TriL.c1 rfl (op_as (ltb rfl) rfl) ?_
  refine TriL.nil ?_
  refine Tri.seq ?_
  refine Tri.region ?_
  refine TriL.c1 rfl (op_mv (ltb rfl) rfl) ?_
  refine TriL.c1 rfl (op_bin (ltb rfl) rfl rfl rfl) ?_
  refine TriL.c1 rfl (op_mv (ltb rfl) rfl) ?_
  refine TriL.split (d := 7) rfl (fun hg1 => ?_) (fun hg1 => ?_)
  · refine TriL.g1 rfl (ltb rfl) rfl hg1 (op_mv (ltb rfl) rfl) ?_
    refine TriL.g1 rfl (ltb rfl) rfl hg1 (op_bin (ltb rfl) rfl rfl rfl) ?_
    refine TriL.c1 rfl (op_pickt (ltb rfl) rfl hg1 rfl) ?_
    refine TriL.c1 rfl (op_mv (ltb rfl) rfl) ?_
    refine TriL.split (d := 11) rfl (fun hg2 => ?_) (fun hg2 => ?_)
    · refine TriL.g1 rfl (ltb rfl) rfl hg2 (op_mv (ltb rfl) rfl) ?_
      refine TriL.g1 rfl (ltb rfl) rfl hg2 (op_bin (ltb rfl) rfl rfl rfl) ?_
      refine TriL.g1 rfl (ltb rfl) rfl hg2 (op_mv (ltb rfl) rfl) ?_
      refine TriL.split (d := 14) rfl (fun hg3 => ?_) (fun hg3 => ?_)
      · refine TriL.skipu rfl rfl (ltb rfl) (ltb rfl) rfl hg3 ?_
        refine TriL.skipu rfl rfl (ltb rfl) (ltb rfl) rfl hg3 ?_
        refine TriL.g1 rfl (ltb rfl) rfl hg2 (op_pickt (ltb rfl) rfl hg3 rfl) ?_
        refine TriL.g1 rfl (ltb rfl) rfl hg2 (op_mv (ltb rfl) rfl) ?_
        refine TriL.skipu rfl rfl (ltb rfl) (ltb rfl) rfl rfl ?_
        refine TriL.skipu rfl rfl (ltb rfl) (ltb rfl) rfl rfl ?_
        refine TriL.g1 rfl (ltb rfl) rfl hg2 (op_pickt (ltb rfl) rfl rfl rfl) ?_
        refine TriL.g1 rfl (ltb rfl) rfl hg2 (op_mv (ltb rfl) rfl) ?_
        refine TriL.skipu rfl rfl (ltb rfl) (ltb rfl) rfl rfl ?_
        refine TriL.skipu rfl rfl (ltb rfl) (ltb rfl) rfl rfl ?_
        refine TriL.g1 rfl (ltb rfl) rfl hg2 (op_pickt (ltb rfl) rfl rfl rfl) ?_
        refine TriL.c1 rfl (op_pickt (ltb rfl) rfl hg2 rfl) ?_
        refine TriL.c1 rfl (op_as (ltb rfl) rfl) ?_
        refine TriL.nil ?_
        refine Tri.ret ?_
        exact ⟨.inr rfl, (ResOK.r1 rfl (.tmp rfl .nil)).cast (congrArg AV.bool (by grind [tagOK])), rfl⟩
      · refine TriL.g1 rfl (ltb rfl) rfl hg3 (op_mv (ltb rfl) rfl) ?_
        refine TriL.g1 rfl (ltb rfl) rfl hg3 (op_bin (ltb rfl) rfl rfl rfl) ?_
        refine TriL.g1 rfl (ltb rfl) rfl hg2 (op_pickf (ltb rfl) rfl hg3 rfl) ?_
        refine TriL.g1 rfl (ltb rfl) rfl hg2 (op_mv (ltb rfl) rfl) ?_
        refine TriL.split (d := 18) rfl (fun hg4 => ?_) (fun hg4 => ?_)
        · refine TriL.skipu rfl rfl (ltb rfl) (ltb rfl) rfl hg4 ?_
          refine TriL.skipu rfl rfl (ltb rfl) (ltb rfl) rfl hg4 ?_
          refine TriL.g1 rfl (ltb rfl) rfl hg2 (op_pickt (ltb rfl) rfl hg4 rfl) ?_
          refine TriL.g1 rfl (ltb rfl) rfl hg2 (op_mv (ltb rfl) rfl) ?_
          refine TriL.skipu rfl rfl (ltb rfl) (ltb rfl) rfl rfl ?_
          refine TriL.skipu rfl rfl (ltb rfl) (ltb rfl) rfl rfl ?_
          refine TriL.g1 rfl (ltb rfl) rfl hg2 (op_pickt (ltb rfl) rfl rfl rfl) ?_
          refine TriL.c1 rfl (op_pickt (ltb rfl) rfl hg2 rfl) ?_
          refine TriL.c1 rfl (op_as (ltb rfl) rfl) ?_
          refine TriL.nil ?_
          refine Tri.ret ?_
          exact ⟨.inr rfl, (ResOK.r1 rfl (.tmp rfl .nil)).cast (congrArg AV.bool (by grind [tagOK])), rfl⟩
        · refine TriL.g1 rfl (ltb rfl) rfl hg4 (op_mv (ltb rfl) rfl) ?_
          refine TriL.g1 rfl (ltb rfl) rfl hg4 (op_bin (ltb rfl) rfl rfl rfl) ?_
          refine TriL.g1 rfl (ltb rfl) rfl hg2 (op_pickf (ltb rfl) rfl hg4 rfl) ?_
          refine TriL.g1 rfl (ltb rfl) rfl hg2 (op_mv (ltb rfl) rfl) ?_
          refine TriL.split (d := 22) rfl (fun hg5 => ?_) (fun hg5 => ?_)
          · refine TriL.skipu rfl rfl (ltb rfl) (ltb rfl) rfl hg5 ?_
            refine TriL.skipu rfl rfl (ltb rfl) (ltb rfl) rfl hg5 ?_
            refine TriL.g1 rfl (ltb rfl) rfl hg2 (op_pickt (ltb rfl) rfl hg5 rfl) ?_
            refine TriL.c1 rfl (op_pickt (ltb rfl) rfl hg2 rfl) ?_
            refine TriL.c1 rfl (op_as (ltb rfl) rfl) ?_
            refine TriL.nil ?_
            refine Tri.ret ?_
            exact ⟨.inr rfl, (ResOK.r1 rfl (.tmp rfl .nil)).cast (congrArg AV.bool (by grind [tagOK])), rfl⟩
          · refine TriL.g1 rfl (ltb rfl) rfl hg5 (op_mv (ltb rfl) rfl) ?_
            refine TriL.g1 rfl (ltb rfl) rfl hg5 (op_bin (ltb rfl) rfl rfl rfl) ?_
            refine TriL.g1 rfl (ltb rfl) rfl hg2 (op_pickf (ltb rfl) rfl hg5 rfl) ?_
            refine TriL.c1 rfl (op_pickt (ltb rfl) rfl hg2 rfl) ?_
            refine TriL.c1 rfl (op_as (ltb rfl) rfl) ?_
            refine TriL.nil ?_
            refine Tri.ret ?_
            exact ⟨.inr rfl, (ResOK.r1 rfl (.tmp rfl .nil)).cast (congrArg AV.bool (by grind [tagOK])), rfl⟩
    · refine TriL.skipu rfl rfl (ltb rfl) (ltb rfl) rfl hg2 ?_
      refine TriL.skipu rfl rfl (ltb rfl) (ltb rfl) rfl hg2 ?_
      refine TriL.skipu rfl rfl (ltb rfl) (ltb rfl) rfl hg2 ?_
      refine TriL.skipg rfl rfl (ltb rfl) (ltb rfl) rfl ?_
      refine TriL.skipg rfl rfl (ltb rfl) (ltb rfl) rfl ?_
      refine TriL.skipu rfl rfl (ltb rfl) (ltb rfl) rfl hg2 ?_
      refine TriL.skipu rfl rfl (ltb rfl) (ltb rfl) rfl hg2 ?_
      refine TriL.skipg rfl rfl (ltb rfl) (ltb rfl) rfl ?_
      refine TriL.skipg rfl rfl (ltb rfl) (ltb rfl) rfl ?_
      refine TriL.skipu rfl rfl (ltb rfl) (ltb rfl) rfl hg2 ?_
      refine TriL.skipu rfl rfl (ltb rfl) (ltb rfl) rfl hg2 ?_
      refine TriL.skipg rfl rfl (ltb rfl) (ltb rfl) rfl ?_
      refine TriL.skipg rfl rfl (ltb rfl) (ltb rfl) rfl ?_
      refine TriL.skipu rfl rfl (ltb rfl) (ltb rfl) rfl hg2 ?_
      refine TriL.c1 rfl (op_pickf (ltb rfl) rfl hg2 rfl) ?_
      refine TriL.c1 rfl (op_as (ltb rfl) rfl) ?_
      refine TriL.nil ?_
      refine Tri.ret ?_
      exact ⟨.inr rfl, (ResOK.r1 rfl (.tmp rfl .nil)).cast (congrArg AV.bool (by grind [tagOK])), rfl⟩
  · refine TriL.skipu rfl rfl (ltb rfl) (ltb rfl) rfl hg1 ?_
    refine TriL.skipu rfl rfl (ltb rfl) (ltb rfl) rfl hg1 ?_
    refine TriL.c1 rfl (op_pickf (ltb rfl) rfl hg1 rfl) ?_
    refine TriL.c1 rfl (op_mv (ltb rfl) rfl) ?_
    refine TriL.skipu rfl rfl (ltb rfl) (ltb rfl) rfl rfl ?_
    refine TriL.skipu rfl rfl (ltb rfl) (ltb rfl) rfl rfl ?_
    refine TriL.skipu rfl rfl (ltb rfl) (ltb rfl) rfl rfl ?_
    refine TriL.skipg rfl rfl (ltb rfl) (ltb rfl) rfl ?_
    refine TriL.skipg rfl rfl (ltb rfl) (ltb rfl) rfl ?_
    refine TriL.skipu rfl rfl (ltb rfl) (ltb rfl) rfl rfl ?_
    refine TriL.skipu rfl rfl (ltb rfl) (ltb rfl) rfl rfl ?_
    refine TriL.skipg rfl rfl (ltb rfl) (ltb rfl) rfl ?_
    refine TriL.skipg rfl rfl (ltb rfl) (ltb rfl) rfl ?_
    refine TriL.skipu rfl rfl (ltb rfl) (ltb rfl) rfl rfl ?_
    refine TriL.skipu rfl rfl (ltb rfl) (ltb rfl) rfl rfl ?_
    refine TriL.skipg rfl rfl (ltb rfl) (ltb rfl) rfl ?_
    refine TriL.skipg rfl rfl (ltb rfl) (ltb rfl) rfl ?_
    refine TriL.skipu rfl rfl (ltb rfl) (ltb rfl) rfl rfl ?_
    refine TriL.c1 rfl (op_pickf (ltb rfl) rfl rfl rfl) ?_
    refine TriL.c1 rfl (op_as (ltb rfl) rfl) ?_
    refine TriL.nil ?_
    refine Tri.ret ?_
    exact ⟨.inr rfl, (ResOK.r1 rfl (.tmp rfl .nil)).cast (congrArg AV.bool (by grind [tagOK])), rfl⟩
theorem r_letter (c : UInt8) : Pure Tryz.prog 121 [.int .u8 (c.toNat : Int)] (.bool (letter c)) := by
  refine Pure.of_tri Tryz.func121 rfl rfl (ltb rfl) fun H => ?_
  refine Tri.seq ?_
  refine Tri.region ?_
  refine TriL.c1 rfl (op_as (ltb rfl) rfl) ?_
  refine TriL.nil ?_
  refine Tri.seq ?_
  refine Tri.region ?_
  refine TriL.c1 rfl (op_mv (ltb rfl) rfl) ?_
  refine TriL.c1 rfl (op_bin (ltb rfl) rfl rfl rfl) ?_
  refine TriL.c1 rfl (op_mv (ltb rfl) rfl) ?_
  refine TriL.split (d := 5) rfl (fun hg1 => ?_) (fun hg1 => ?_)
  · refine TriL.g1 rfl (ltb rfl) rfl hg1 (op_mv (ltb rfl) rfl) ?_
    refine TriL.g1 rfl (ltb rfl) rfl hg1 (op_bin (ltb rfl) rfl rfl rfl) ?_
    refine TriL.c1 rfl (op_pickt (ltb rfl) rfl hg1 rfl) ?_
    refine TriL.c1 rfl (op_mv (ltb rfl) rfl) ?_
    refine TriL.split (d := 9) rfl (fun hg2 => ?_) (fun hg2 => ?_)
    · refine TriL.skipu rfl rfl (ltb rfl) (ltb rfl) rfl hg2 ?_
      refine TriL.skipu rfl rfl (ltb rfl) (ltb rfl) rfl hg2 ?_
      refine TriL.skipu rfl rfl (ltb rfl) (ltb rfl) rfl hg2 ?_
      refine TriL.skipg rfl rfl (ltb rfl) (ltb rfl) rfl ?_
      refine TriL.skipg rfl rfl (ltb rfl) (ltb rfl) rfl ?_
      refine TriL.skipu rfl rfl (ltb rfl) (ltb rfl) rfl hg2 ?_
      refine TriL.c1 rfl (op_pickt (ltb rfl) rfl hg2 rfl) ?_
      refine TriL.c1 rfl (op_as (ltb rfl) rfl) ?_
      refine TriL.nil ?_
      refine Tri.ret ?_
      exact ⟨.inr rfl, (ResOK.r1 rfl (.tmp rfl .nil)).cast (congrArg AV.bool (by grind [letter])), rfl⟩
    · refine TriL.g1 rfl (ltb rfl) rfl hg2 (op_mv (ltb rfl) rfl) ?_
      refine TriL.g1 rfl (ltb rfl) rfl hg2 (op_bin (ltb rfl) rfl rfl rfl) ?_
      refine TriL.g1 rfl (ltb rfl) rfl hg2 (op_mv (ltb rfl) rfl) ?_
      refine TriL.split (d := 12) rfl (fun hg3 => ?_) (fun hg3 => ?_)
      · refine TriL.g1 rfl (ltb rfl) rfl hg3 (op_mv (ltb rfl) rfl) ?_
        refine TriL.g1 rfl (ltb rfl) rfl hg3 (op_bin (ltb rfl) rfl rfl rfl) ?_
        refine TriL.g1 rfl (ltb rfl) rfl hg2 (op_pickt (ltb rfl) rfl hg3 rfl) ?_
        refine TriL.c1 rfl (op_pickf (ltb rfl) rfl hg2 rfl) ?_
        refine TriL.c1 rfl (op_as (ltb rfl) rfl) ?_
        refine TriL.nil ?_
        refine Tri.ret ?_
        exact ⟨.inr rfl, (ResOK.r1 rfl (.tmp rfl .nil)).cast (congrArg AV.bool (by grind [letter])), rfl⟩
      · refine TriL.skipu rfl rfl (ltb rfl) (ltb rfl) rfl hg3 ?_
        refine TriL.skipu rfl rfl (ltb rfl) (ltb rfl) rfl hg3 ?_
        refine TriL.g1 rfl (ltb rfl) rfl hg2 (op_pickf (ltb rfl) rfl hg3 rfl) ?_
        refine TriL.c1 rfl (op_pickf (ltb rfl) rfl hg2 rfl) ?_
        refine TriL.c1 rfl (op_as (ltb rfl) rfl) ?_
        refine TriL.nil ?_
        refine Tri.ret ?_
        exact ⟨.inr rfl, (ResOK.r1 rfl (.tmp rfl .nil)).cast (congrArg AV.bool (by grind [letter])), rfl⟩
  · refine TriL.skipu rfl rfl (ltb rfl) (ltb rfl) rfl hg1 ?_
    refine TriL.skipu rfl rfl (ltb rfl) (ltb rfl) rfl hg1 ?_
    refine TriL.c1 rfl (op_pickf (ltb rfl) rfl hg1 rfl) ?_
    refine TriL.c1 rfl (op_mv (ltb rfl) rfl) ?_
    refine TriL.g1 rfl (ltb rfl) rfl rfl (op_mv (ltb rfl) rfl) ?_
    refine TriL.g1 rfl (ltb rfl) rfl rfl (op_bin (ltb rfl) rfl rfl rfl) ?_
    refine TriL.g1 rfl (ltb rfl) rfl rfl (op_mv (ltb rfl) rfl) ?_
    refine TriL.split (d := 12) rfl (fun hg4 => ?_) (fun hg4 => ?_)
    · refine TriL.g1 rfl (ltb rfl) rfl hg4 (op_mv (ltb rfl) rfl) ?_
      refine TriL.g1 rfl (ltb rfl) rfl hg4 (op_bin (ltb rfl) rfl rfl rfl) ?_
      refine TriL.g1 rfl (ltb rfl) rfl rfl (op_pickt (ltb rfl) rfl hg4 rfl) ?_
      refine TriL.c1 rfl (op_pickf (ltb rfl) rfl rfl rfl) ?_
      refine TriL.c1 rfl (op_as (ltb rfl) rfl) ?_
      refine TriL.nil ?_
      refine Tri.ret ?_
      exact ⟨.inr rfl, (ResOK.r1 rfl (.tmp rfl .nil)).cast (congrArg AV.bool (by grind [letter])), rfl⟩
    · refine TriL.skipu rfl rfl (ltb rfl) (ltb rfl) rfl hg4 ?_
      refine TriL.skipu rfl rfl (ltb rfl) (ltb rfl) rfl hg4 ?_
      refine TriL.g1 rfl (ltb rfl) rfl rfl (op_pickf (ltb rfl) rfl hg4 rfl) ?_
      refine TriL.c1 rfl (op_pickf (ltb rfl) rfl rfl rfl) ?_
      refine TriL.c1 rfl (op_as (ltb rfl) rfl) ?_
      refine TriL.nil ?_
      refine Tri.ret ?_
      exact ⟨.inr rfl, (ResOK.r1 rfl (.tmp rfl .nil)).cast (congrArg AV.bool (by grind [letter])), rfl⟩
theorem r_words : Pure Tryz.prog 122 [] (.sl (wordsL.map .str)) := by
  refine Pure.of_tri Tryz.func122 rfl rfl (Nat.zero_le _) fun H => ?_
  refine Tri.seq ?_
  refine Tri.region ?_
  refine TriL.c1 rfl (op_as (ltb rfl) rfl) ?_
  refine TriL.nil ?_
  refine Tri.seq ?_
  refine Tri.region ?_
  refine TriL.c1 rfl (op_lit («as» := [_, _, _, _, _, _, _, _, _, _, _, _, _, _, _, _, _, _, _, _, _, _, _, _, _, _, _, _, _, _, _, _, _, _, _]) (ltb rfl) se112_M1 zAe112_M1 rfl rfl rfl (leb rfl)) ?_
  refine TriL.c1 rfl (op_as (ltb rfl) rfl) ?_
  refine TriL.nil ?_
  refine Tri.ret ?_
  exact ⟨.inr rfl, (ResOK.r1 rfl (.tmp rfl .nil)).cast rfl, rfl⟩
end Go.Proofs.YtnpgcmeclkncnaaGreatDoor.X
/- the document: names, lists, fields. -/
set_option linter.unusedVariables false
set_option linter.unusedSimpArgs false
set_option linter.unusedSectionVars false
set_option maxRecDepth 100000
namespace Go.Proofs.YtnpgcmeclkncnaaGreatDoor.X
open Go Go.RowKit Go.Proofs
theorem fn121_M2 : isFn Tryz.prog 121 = true := by kernel_rfl
theorem fn122_M2 : isFn Tryz.prog 122 = true := by kernel_rfl
theorem fn123_M2 : isFn Tryz.prog 123 = true := by kernel_rfl
theorem fn124_M2 : isFn Tryz.prog 124 = true := by kernel_rfl
theorem fn69_M2 : isFn Tryz.prog 69 = true := by kernel_rfl
theorem fo25_0_M2 : fo Tryz.prog 25 0 = some 0 := by kernel_rfl
theorem fo25_1_M2 : fo Tryz.prog 25 1 = some 1 := by kernel_rfl
theorem fo78_0_M2 : fo Tryz.prog 78 0 = some 0 := by kernel_rfl
theorem fo94_0_M2 : fo Tryz.prog 94 0 = some 0 := by kernel_rfl
theorem fo98_0_M2 : fo Tryz.prog 98 0 = some 0 := by kernel_rfl
theorem fo98_1_M2 : fo Tryz.prog 98 1 = some 1 := by kernel_rfl
theorem fo98_2_M2 : fo Tryz.prog 98 2 = some 2 := by kernel_rfl
theorem fo98_3_M2 : fo Tryz.prog 98 3 = some 3 := by kernel_rfl
theorem fo98_4_M2 : fo Tryz.prog 98 4 = some 4 := by kernel_rfl
theorem fo98_5_M2 : fo Tryz.prog 98 5 = some 5 := by kernel_rfl
theorem fo98_6_M2 : fo Tryz.prog 98 6 = some 6 := by kernel_rfl
theorem ie112_M2 : ie Tryz.prog 112 = some 1 := by kernel_rfl
theorem ie22_M2 : ie Tryz.prog 22 = some 2 := by kernel_rfl
theorem ie23_M2 : ie Tryz.prog 23 = some 3 := by kernel_rfl
theorem ie67_M2 : ie Tryz.prog 67 = some 1 := by kernel_rfl
theorem lk22_M2 : lk Tryz.prog 22 = some (false, 1) := by kernel_rfl
theorem lk23_M2 : lk Tryz.prog 23 = some (false, 1) := by kernel_rfl
theorem lk3_M2 : lk Tryz.prog 3 = some (false, 1) := by kernel_rfl
theorem lk4_M2 : lk Tryz.prog 4 = some (false, 1) := by kernel_rfl
theorem lk9_M2 : lk Tryz.prog 9 = some (false, 1) := by kernel_rfl
theorem un112_M2 : Tryz.prog.underlying 112 = some (TypeDesc.slice 9) := Tryz.underlying112
theorem un22_M2 : Tryz.prog.underlying 22 = some (TypeDesc.slice 94) := Tryz.underlying22
theorem un23_M2 : Tryz.prog.underlying 23 = some (TypeDesc.slice 78) := Tryz.underlying23
theorem un67_M2 : Tryz.prog.underlying 67 = some (TypeDesc.slice 3) := Tryz.underlying67
theorem un9_M2 : Tryz.prog.underlying 9 = some TypeDesc.string := Tryz.underlying9
theorem r_nameOK (s : Str) : Pure Tryz.prog 69 [.str s] (.bool (nameOK s)) := by
  refine Pure.of_tri Tryz.func69 rfl rfl (ltb rfl) fun H => ?_
  refine Tri.seq ?_
  refine Tri.region ?_
  refine TriL.c1 rfl (op_as (ltb rfl) rfl) ?_
  refine TriL.nil ?_
  refine Tri.seq ?_
  refine Tri.seq ?_
  refine Tri.region ?_
  refine TriL.c1 rfl (op_mv (ltb rfl) rfl) ?_
  refine TriL.c1 rfl (op_lens (ltb rfl) un9_M2 rfl) ?_
  refine TriL.c1 rfl (op_bin (ltb rfl) rfl rfl rfl) ?_
  refine TriL.c1 rfl (op_mv (ltb rfl) rfl) ?_
  refine TriL.split (d := 9) rfl (fun hg1 => ?_) (fun hg1 => ?_)
  · refine TriL.skipu rfl rfl (ltb rfl) (ltb rfl) rfl hg1 ?_
    refine TriL.skipu rfl rfl (ltb rfl) (ltb rfl) rfl hg1 ?_
    refine TriL.skipu rfl rfl (ltb rfl) (ltb rfl) rfl hg1 ?_
    refine TriL.c1 rfl (op_pickt (ltb rfl) rfl hg1 rfl) ?_
    refine TriL.c1 rfl (op_mv (ltb rfl) rfl) ?_
    refine TriL.skipu rfl rfl (ltb rfl) (ltb rfl) rfl rfl ?_
    refine TriL.skipu rfl rfl (ltb rfl) (ltb rfl) rfl rfl ?_
    refine TriL.skipu rfl rfl (ltb rfl) (ltb rfl) rfl rfl ?_
    refine TriL.skipu rfl rfl (ltb rfl) (ltb rfl) rfl rfl ?_
    refine TriL.c1 rfl (op_pickt (ltb rfl) rfl rfl rfl) ?_
    refine TriL.nil ?_
    refine Tri.condT rfl rfl ?_
    refine Tri.seq ?_
    refine Tri.region ?_
    refine TriL.c1 rfl (op_as (ltb rfl) rfl) ?_
    refine TriL.nil ?_
    refine Tri.ret ?_
    exact ⟨.inr rfl, (ResOK.r1 rfl (.tmp rfl .nil)).cast (congrArg AV.bool (by grind [nameOK, idc])), rfl⟩
  · refine TriL.g1 rfl (ltb rfl) rfl hg1 (op_mv (ltb rfl) rfl) ?_
    refine TriL.g1 rfl (ltb rfl) rfl hg1 (op_lens (ltb rfl) un9_M2 rfl) ?_
    refine TriL.g1 rfl (ltb rfl) rfl hg1 (op_bin (ltb rfl) rfl rfl rfl) ?_
    refine TriL.c1 rfl (op_pickf (ltb rfl) rfl hg1 rfl) ?_
    refine TriL.c1 rfl (op_mv (ltb rfl) rfl) ?_
    refine TriL.split (d := 14) rfl (fun hg2 => ?_) (fun hg2 => ?_)
    · refine TriL.skipu rfl rfl (ltb rfl) (ltb rfl) rfl hg2 ?_
      refine TriL.skipu rfl rfl (ltb rfl) (ltb rfl) rfl hg2 ?_
      refine TriL.skipu rfl rfl (ltb rfl) (ltb rfl) rfl hg2 ?_
      refine TriL.skipu rfl rfl (ltb rfl) (ltb rfl) rfl hg2 ?_
      refine TriL.c1 rfl (op_pickt (ltb rfl) rfl hg2 rfl) ?_
      refine TriL.nil ?_
      refine Tri.condT rfl rfl ?_
      refine Tri.seq ?_
      refine Tri.region ?_
      refine TriL.c1 rfl (op_as (ltb rfl) rfl) ?_
      refine TriL.nil ?_
      refine Tri.ret ?_
      exact ⟨.inr rfl, (ResOK.r1 rfl (.tmp rfl .nil)).cast (congrArg AV.bool (by grind [nameOK, idc])), rfl⟩
    · refine TriL.g1 rfl (ltb rfl) rfl hg2 (op_mv (ltb rfl) rfl) ?_
      refine TriL.g1 rfl (ltb rfl) rfl hg2 (op_ixs (ltb rfl) un9_M2 rfl rfl (by decide) (show s[0]? = some (s.headD 0) by cases s with | nil => simp at hg2 hg1 | cons a l => rfl)) ?_
      refine TriL.g1 rfl (ltb rfl) rfl hg2 (op_call (ltb rfl) fn121_M2 rfl (r_letter _)) ?_
      refine TriL.g1 rfl (ltb rfl) rfl hg2 (op_un (ltb rfl) rfl rfl) ?_
      refine TriL.c1 rfl (op_pickf (ltb rfl) rfl hg2 rfl) ?_
      refine TriL.nil ?_
      refine Tri.cond rfl (fun hc3 => ?_) (fun hc3 => ?_)
      · refine Tri.seq ?_
        refine Tri.region ?_
        refine TriL.c1 rfl (op_as (ltb rfl) rfl) ?_
        refine TriL.nil ?_
        refine Tri.ret ?_
        exact ⟨.inr rfl, (ResOK.r1 rfl (.tmp rfl .nil)).cast (congrArg AV.bool (by grind [nameOK, idc])), rfl⟩
      · refine Tri.skip ?_
        refine Tri.seq ?_
        refine Tri.seq ?_
        refine Tri.region ?_
        refine TriL.c1 rfl (op_as (ltb rfl) rfl) ?_
        refine TriL.nil ?_
        refine Tri.blk ?_
        refine Tri.ofKept (Kept.keep [.s 3, .h, .s 0] rfl (by decide) (Kept.now ?_))
        -- LOOP 1
        refine Tri.loopk (fun (i : Nat) => [(.s 3, .sv (.v (.int .i64 (i : Int))))]) _ (fun (i : Nat) => (s.drop i).all idc = s.all idc) (fun (i : Nat) => s.length - i) 0 rfl (by simp) ?_
        rintro i hI
        refine Tri.seq ?_
        refine Tri.seq ?_
        refine Tri.region ?_
        refine TriL.c1 rfl (op_mv (ltb rfl) rfl) ?_
        refine TriL.c1 rfl (op_mv (ltb rfl) rfl) ?_
        refine TriL.c1 rfl (op_lens (ltb rfl) un9_M2 rfl) ?_
        refine TriL.c1 rfl (op_bin (ltb rfl) rfl rfl rfl) ?_
        refine TriL.nil ?_
        refine Tri.cond rfl (fun hc4 => ?_) (fun hc4 => ?_)
        · have hi := lts hc4
          have hS := all_step (p := idc) hi
          have hL : s.length ≤ 12 := by have := of_decide_eq_false hg2; omega
          refine Tri.skip ?_
          refine Tri.seq ?_
          refine Tri.blk ?_
          refine Tri.seq ?_
          refine Tri.region ?_
          refine TriL.c1 rfl (op_mv (ltb rfl) rfl) ?_
          refine TriL.c1 rfl (op_mv (ltb rfl) rfl) ?_
          refine TriL.c1 rfl (op_ixs (ltb rfl) un9_M2 rfl rfl (Int.natCast_nonneg _) (ixs hi)) ?_
          refine TriL.c1 rfl (op_call (ltb rfl) fn121_M2 rfl (r_letter _)) ?_
          refine TriL.c1 rfl (op_un (ltb rfl) rfl rfl) ?_
          refine TriL.c1 rfl (op_mv (ltb rfl) rfl) ?_
          refine TriL.split (d := 31) rfl (fun hg5 => ?_) (fun hg5 => ?_)
          · refine TriL.g1 rfl (ltb rfl) rfl hg5 (op_mv (ltb rfl) rfl) ?_
            refine TriL.g1 rfl (ltb rfl) rfl hg5 (op_mv (ltb rfl) rfl) ?_
            refine TriL.g1 rfl (ltb rfl) rfl hg5 (op_ixs (ltb rfl) un9_M2 rfl rfl (Int.natCast_nonneg _) (ixs hi)) ?_
            refine TriL.g1 rfl (ltb rfl) rfl hg5 (op_bin (ltb rfl) rfl rfl rfl) ?_
            refine TriL.g1 rfl (ltb rfl) rfl hg5 (op_mv (ltb rfl) rfl) ?_
            refine TriL.split (d := 36) rfl (fun hg6 => ?_) (fun hg6 => ?_)
            · refine TriL.skipu rfl rfl (ltb rfl) (ltb rfl) rfl hg6 ?_
              refine TriL.skipu rfl rfl (ltb rfl) (ltb rfl) rfl hg6 ?_
              refine TriL.skipu rfl rfl (ltb rfl) (ltb rfl) rfl hg6 ?_
              refine TriL.skipu rfl rfl (ltb rfl) (ltb rfl) rfl hg6 ?_
              refine TriL.g1 rfl (ltb rfl) rfl hg5 (op_pickt (ltb rfl) rfl hg6 rfl) ?_
              refine TriL.c1 rfl (op_pickt (ltb rfl) rfl hg5 rfl) ?_
              refine TriL.c1 rfl (op_mv (ltb rfl) rfl) ?_
              refine TriL.g1 rfl (ltb rfl) rfl rfl (op_mv (ltb rfl) rfl) ?_
              refine TriL.g1 rfl (ltb rfl) rfl rfl (op_mv (ltb rfl) rfl) ?_
              refine TriL.g1 rfl (ltb rfl) rfl rfl (op_ixs (ltb rfl) un9_M2 rfl rfl (Int.natCast_nonneg _) (ixs hi)) ?_
              refine TriL.g1 rfl (ltb rfl) rfl rfl (op_bin (ltb rfl) rfl rfl rfl) ?_
              refine TriL.c1 rfl (op_pickt (ltb rfl) rfl rfl rfl) ?_
              refine TriL.nil ?_
              refine Tri.cond rfl (fun hc7 => ?_) (fun hc7 => ?_)
              · refine Tri.seq ?_
                refine Tri.region ?_
                refine TriL.c1 rfl (op_as (ltb rfl) rfl) ?_
                refine TriL.nil ?_
                refine Tri.ret ?_
                exact ⟨.inr rfl, (ResOK.r1 rfl (.tmp rfl .nil)).cast (congrArg AV.bool (by grind [nameOK, idc])), rfl⟩
              · refine Tri.skip ?_
                refine Tri.region ?_
                refine TriL.c1 rfl (op_mv (ltb rfl) rfl) ?_
                refine TriL.c1 rfl (op_bin (ltb rfl) rfl rfl rfl) ?_
                refine TriL.c1 rfl (op_as (ltb rfl) rfl) ?_
                refine TriL.kept (Kept.seti 3 rfl (inc (by omega)) (Kept.keep [.s 3, .h, .s 0] rfl (by decide) (Kept.now ?_)))
                exact ⟨i + 1, by omega, by grind [idc], rfl⟩
            · refine TriL.g1 rfl (ltb rfl) rfl hg6 (op_mv (ltb rfl) rfl) ?_
              refine TriL.g1 rfl (ltb rfl) rfl hg6 (op_mv (ltb rfl) rfl) ?_
              refine TriL.g1 rfl (ltb rfl) rfl hg6 (op_ixs (ltb rfl) un9_M2 rfl rfl (Int.natCast_nonneg _) (ixs hi)) ?_
              refine TriL.g1 rfl (ltb rfl) rfl hg6 (op_bin (ltb rfl) rfl rfl rfl) ?_
              refine TriL.g1 rfl (ltb rfl) rfl hg5 (op_pickf (ltb rfl) rfl hg6 rfl) ?_
              refine TriL.c1 rfl (op_pickt (ltb rfl) rfl hg5 rfl) ?_
              refine TriL.c1 rfl (op_mv (ltb rfl) rfl) ?_
              refine TriL.split (d := 43) rfl (fun hg8 => ?_) (fun hg8 => ?_)
              · refine TriL.g1 rfl (ltb rfl) rfl hg8 (op_mv (ltb rfl) rfl) ?_
                refine TriL.g1 rfl (ltb rfl) rfl hg8 (op_mv (ltb rfl) rfl) ?_
                refine TriL.g1 rfl (ltb rfl) rfl hg8 (op_ixs (ltb rfl) un9_M2 rfl rfl (Int.natCast_nonneg _) (ixs hi)) ?_
                refine TriL.g1 rfl (ltb rfl) rfl hg8 (op_bin (ltb rfl) rfl rfl rfl) ?_
                refine TriL.c1 rfl (op_pickt (ltb rfl) rfl hg8 rfl) ?_
                refine TriL.nil ?_
                refine Tri.cond rfl (fun hc9 => ?_) (fun hc9 => ?_)
                · refine Tri.seq ?_
                  refine Tri.region ?_
                  refine TriL.c1 rfl (op_as (ltb rfl) rfl) ?_
                  refine TriL.nil ?_
                  refine Tri.ret ?_
                  exact ⟨.inr rfl, (ResOK.r1 rfl (.tmp rfl .nil)).cast (congrArg AV.bool (by grind [nameOK, idc])), rfl⟩
                · refine Tri.skip ?_
                  refine Tri.region ?_
                  refine TriL.c1 rfl (op_mv (ltb rfl) rfl) ?_
                  refine TriL.c1 rfl (op_bin (ltb rfl) rfl rfl rfl) ?_
                  refine TriL.c1 rfl (op_as (ltb rfl) rfl) ?_
                  refine TriL.kept (Kept.seti 3 rfl (inc (by omega)) (Kept.keep [.s 3, .h, .s 0] rfl (by decide) (Kept.now ?_)))
                  exact ⟨i + 1, by omega, by grind [idc], rfl⟩
              · refine TriL.skipu rfl rfl (ltb rfl) (ltb rfl) rfl hg8 ?_
                refine TriL.skipu rfl rfl (ltb rfl) (ltb rfl) rfl hg8 ?_
                refine TriL.skipu rfl rfl (ltb rfl) (ltb rfl) rfl hg8 ?_
                refine TriL.skipu rfl rfl (ltb rfl) (ltb rfl) rfl hg8 ?_
                refine TriL.c1 rfl (op_pickf (ltb rfl) rfl hg8 rfl) ?_
                refine TriL.nil ?_
                refine Tri.condF rfl rfl ?_
                refine Tri.skip ?_
                refine Tri.region ?_
                refine TriL.c1 rfl (op_mv (ltb rfl) rfl) ?_
                refine TriL.c1 rfl (op_bin (ltb rfl) rfl rfl rfl) ?_
                refine TriL.c1 rfl (op_as (ltb rfl) rfl) ?_
                refine TriL.kept (Kept.seti 3 rfl (inc (by omega)) (Kept.keep [.s 3, .h, .s 0] rfl (by decide) (Kept.now ?_)))
                exact ⟨i + 1, by omega, by grind [idc], rfl⟩
          · refine TriL.skipu rfl rfl (ltb rfl) (ltb rfl) rfl hg5 ?_
            refine TriL.skipu rfl rfl (ltb rfl) (ltb rfl) rfl hg5 ?_
            refine TriL.skipu rfl rfl (ltb rfl) (ltb rfl) rfl hg5 ?_
            refine TriL.skipu rfl rfl (ltb rfl) (ltb rfl) rfl hg5 ?_
            refine TriL.skipu rfl rfl (ltb rfl) (ltb rfl) rfl hg5 ?_
            refine TriL.skipg rfl rfl (ltb rfl) (ltb rfl) rfl ?_
            refine TriL.skipg rfl rfl (ltb rfl) (ltb rfl) rfl ?_
            refine TriL.skipg rfl rfl (ltb rfl) (ltb rfl) rfl ?_
            refine TriL.skipg rfl rfl (ltb rfl) (ltb rfl) rfl ?_
            refine TriL.skipu rfl rfl (ltb rfl) (ltb rfl) rfl hg5 ?_
            refine TriL.c1 rfl (op_pickf (ltb rfl) rfl hg5 rfl) ?_
            refine TriL.c1 rfl (op_mv (ltb rfl) rfl) ?_
            refine TriL.skipu rfl rfl (ltb rfl) (ltb rfl) rfl rfl ?_
            refine TriL.skipu rfl rfl (ltb rfl) (ltb rfl) rfl rfl ?_
            refine TriL.skipu rfl rfl (ltb rfl) (ltb rfl) rfl rfl ?_
            refine TriL.skipu rfl rfl (ltb rfl) (ltb rfl) rfl rfl ?_
            refine TriL.c1 rfl (op_pickf (ltb rfl) rfl rfl rfl) ?_
            refine TriL.nil ?_
            refine Tri.condF rfl rfl ?_
            refine Tri.skip ?_
            refine Tri.region ?_
            refine TriL.c1 rfl (op_mv (ltb rfl) rfl) ?_
            refine TriL.c1 rfl (op_bin (ltb rfl) rfl rfl rfl) ?_
            refine TriL.c1 rfl (op_as (ltb rfl) rfl) ?_
            refine TriL.kept (Kept.seti 3 rfl (inc (by omega)) (Kept.keep [.s 3, .h, .s 0] rfl (by decide) (Kept.now ?_)))
            exact ⟨i + 1, by omega, by grind [idc], rfl⟩
        · have hi := ges hc4
          have hS := all_end (p := idc) hi
          refine Tri.exit ?_
          refine Tri.seq ?_
          refine Tri.region ?_
          refine TriL.c1 rfl (op_call (ltb rfl) fn122_M2 rfl r_words) ?_
          refine TriL.c1 rfl (op_as (ltb rfl) rfl) ?_
          refine TriL.nil ?_
          refine Tri.seq ?_
          refine Tri.seq ?_
          refine Tri.region ?_
          refine TriL.c1 rfl (op_as (ltb rfl) rfl) ?_
          refine TriL.nil ?_
          refine Tri.blk ?_
          refine Tri.ofKept (Kept.keep [.s 5, .h, .s 0, .s 4] rfl (by decide) (Kept.now ?_))
          -- LOOP 2
          refine Tri.loopk (fun (j : Nat) => [(.s 5, .sv (.v (.int .i64 (j : Int))))]) _ (fun (j : Nat) => (wordsL.drop j).all (fun w => !(w == s)) = wordsL.all (fun w => !(w == s))) (fun (j : Nat) => wordsL.length - j) 0 rfl (by simp) ?_
          rintro j hJ
          refine Tri.seq ?_
          refine Tri.seq ?_
          refine Tri.region ?_
          refine TriL.c1 rfl (op_mv (ltb rfl) rfl) ?_
          refine TriL.c1 rfl (op_mv (ltb rfl) rfl) ?_
          refine TriL.c1 rfl (op_lenl (ltb rfl) un112_M2 rfl) ?_
          refine TriL.c1 rfl (op_bin (ltb rfl) rfl rfl rfl) ?_
          refine TriL.nil ?_
          refine Tri.cond rfl (fun hc10 => ?_) (fun hc10 => ?_)
          · have hj := ltm hc10
            have hT := all_step (p := fun w => !(w == s)) hj
            have hW : wordsL.length = 35 := rfl
            refine Tri.skip ?_
            refine Tri.seq ?_
            refine Tri.blk ?_
            refine Tri.seq ?_
            refine Tri.region ?_
            refine TriL.c1 rfl (op_mv (ltb rfl) rfl) ?_
            refine TriL.c1 rfl (op_mv (ltb rfl) rfl) ?_
            refine TriL.c1 rfl (op_iak (ltb rfl) ie112_M2 rfl rfl (Int.natCast_nonneg _) (ixm hj) rfl) ?_
            refine TriL.c1 rfl (op_ldk (ltb rfl) lk9_M2 rfl rfl) ?_
            refine TriL.c1 rfl (op_mv (ltb rfl) rfl) ?_
            refine TriL.c1 rfl (op_bin (ltb rfl) rfl rfl rfl) ?_
            refine TriL.nil ?_
            refine Tri.cond rfl (fun hc11 => ?_) (fun hc11 => ?_)
            · refine Tri.seq ?_
              refine Tri.region ?_
              refine TriL.c1 rfl (op_as (ltb rfl) rfl) ?_
              refine TriL.nil ?_
              refine Tri.ret ?_
              exact ⟨.inr rfl, (ResOK.r1 rfl (.tmp rfl .nil)).cast (congrArg AV.bool (by grind [nameOK, idc])), rfl⟩
            · refine Tri.skip ?_
              refine Tri.region ?_
              refine TriL.c1 rfl (op_mv (ltb rfl) rfl) ?_
              refine TriL.c1 rfl (op_bin (ltb rfl) rfl rfl rfl) ?_
              refine TriL.c1 rfl (op_as (ltb rfl) rfl) ?_
              refine TriL.kept (Kept.seti 5 rfl (inc (by omega)) (Kept.keep [.s 5, .h, .s 0, .s 4] rfl (by decide) (Kept.now ?_)))
              exact ⟨j + 1, by omega, by grind, rfl⟩
          · have hj := gem hc10
            have hT := all_end (p := fun w => !(w == s)) hj
            refine Tri.exit ?_
            refine Tri.seq ?_
            refine Tri.region ?_
            refine TriL.c1 rfl (op_as (ltb rfl) rfl) ?_
            refine TriL.nil ?_
            refine Tri.ret ?_
            exact ⟨.inr rfl, (ResOK.r1 rfl (.tmp rfl .nil)).cast (congrArg AV.bool (by grind [nameOK, idc])), rfl⟩
theorem r_once (l : List Str) (hl : l.length ≤ 9223372036854775807) : Pure Tryz.prog 71 [.sl (l.map .str)] (.bool (once l)) := by
  refine Pure.of_tri Tryz.func71 rfl rfl (ltb rfl) fun H => ?_
  refine Tri.seq ?_
  refine Tri.region ?_
  refine TriL.c1 rfl (op_as (ltb rfl) rfl) ?_
  refine TriL.nil ?_
  refine Tri.seq ?_
  refine Tri.seq ?_
  refine Tri.region ?_
  refine TriL.c1 rfl (op_as (ltb rfl) rfl) ?_
  refine TriL.nil ?_
  refine Tri.blk ?_
  refine Tri.ofKept (Kept.keep [.s 3, .h, .s 0] rfl (by decide) (Kept.now ?_))
  -- LOOP 1
  refine Tri.loopk (fun (i : Nat) => [(.s 3, .sv (.v (.int .i64 (i : Int))))]) _ (fun (i : Nat) => onceFrom l (l.drop i) i = once l) (fun (i : Nat) => l.length - i) 0 rfl (by simp [once]) ?_
  rintro i hI
  refine Tri.seq ?_
  refine Tri.seq ?_
  refine Tri.region ?_
  refine TriL.c1 rfl (op_mv (ltb rfl) rfl) ?_
  refine TriL.c1 rfl (op_mv (ltb rfl) rfl) ?_
  refine TriL.c1 rfl (op_lenl (ltb rfl) un112_M2 rfl) ?_
  refine TriL.c1 rfl (op_bin (ltb rfl) rfl rfl rfl) ?_
  refine TriL.nil ?_
  refine Tri.cond rfl (fun hc1 => ?_) (fun hc1 => ?_)
  · have hi := ltm hc1
    have hS := onceFrom_step hi
    refine Tri.skip ?_
    refine Tri.seq ?_
    refine Tri.blk ?_
    refine Tri.seq ?_
    refine Tri.region ?_
    refine TriL.c1 rfl (op_as (ltb rfl) rfl) ?_
    refine TriL.nil ?_
    refine Tri.blk ?_
    refine Tri.ofKept (Kept.keep [.s 4, .h, .s 0, .s 3] rfl (by decide) (Kept.now ?_))
    -- LOOP 2
    refine Tri.loopk (fun (k : Nat) => [(.s 4, .sv (.v (.int .i64 (k : Int))))]) _ (fun (k : Nat) => ((l.take i).drop k).any (fun b => l[i] == b) = (l.take i).any (fun b => l[i] == b)) (fun (k : Nat) => i - k) 0 rfl (by simp) ?_
    rintro k hK
    refine Tri.seq ?_
    refine Tri.seq ?_
    refine Tri.region ?_
    refine TriL.c1 rfl (op_mv (ltb rfl) rfl) ?_
    refine TriL.c1 rfl (op_mv (ltb rfl) rfl) ?_
    refine TriL.c1 rfl (op_bin (ltb rfl) rfl rfl rfl) ?_
    refine TriL.nil ?_
    refine Tri.cond rfl (fun hc2 => ?_) (fun hc2 => ?_)
    · have hk := ltz hc2
      have hT := any_step (p := fun b => l[i] == b) (l := l.take i) (i := k) (by simp; omega)
      have hG : (l.take i)[k]'(by simp; omega) = l[k]'(by omega) := by simp
      refine Tri.skip ?_
      refine Tri.seq ?_
      refine Tri.blk ?_
      refine Tri.seq ?_
      refine Tri.drawn mixed rfl ?_
      refine TriD.c1 rfl (op_mv (ltb rfl) rfl) ?_
      refine TriD.c1 rfl (op_mv (ltb rfl) rfl) ?_
      refine TriD.c1 rfl (op_iak (ltb rfl) ie112_M2 rfl rfl (Int.natCast_nonneg _) (ixm hi) rfl) ?_
      refine TriD.c1 rfl (op_ldk (ltb rfl) lk9_M2 rfl rfl) ?_
      refine TriD.c1 rfl (op_mv (ltb rfl) rfl) ?_
      refine TriD.c1 rfl (op_mv (ltb rfl) rfl) ?_
      refine TriD.c1 rfl (op_iak (ltb rfl) ie112_M2 rfl rfl (Int.natCast_nonneg _) (ixm (Nat.lt_trans hk hi)) rfl) ?_
      refine TriD.c1 rfl (op_ldk (ltb rfl) lk9_M2 rfl rfl) ?_
      refine TriD.c1 rfl (op_bin (ltb rfl) rfl rfl rfl) ?_
      refine TriD.nil (by kernel_rfl) (Kept.now ?_)
      refine Tri.cond rfl (fun hc3 => ?_) (fun hc3 => ?_)
      · refine Tri.seq ?_
        refine Tri.region ?_
        refine TriL.c1 rfl (op_as (ltb rfl) rfl) ?_
        refine TriL.nil ?_
        refine Tri.ret ?_
        exact ⟨.inr rfl, (ResOK.r1 rfl (.tmp rfl .nil)).cast (congrArg AV.bool (by grind [once])), rfl⟩
      · refine Tri.skip ?_
        refine Tri.region ?_
        refine TriL.c1 rfl (op_mv (ltb rfl) rfl) ?_
        refine TriL.c1 rfl (op_bin (ltb rfl) rfl rfl rfl) ?_
        refine TriL.c1 rfl (op_as (ltb rfl) rfl) ?_
        refine TriL.kept (Kept.seti 4 rfl (inc (by omega)) (Kept.keep [.s 4, .h, .s 0, .s 3] rfl (by decide) (Kept.now ?_)))
        exact ⟨k + 1, by omega, by grind, rfl⟩
    · have hk := gez hc2
      have hT := any_end (p := fun b => l[i] == b) (l := l.take i) (i := k) (by simp; omega)
      refine Tri.exit ?_
      refine Tri.region ?_
      refine TriL.c1 rfl (op_mv (ltb rfl) rfl) ?_
      refine TriL.c1 rfl (op_bin (ltb rfl) rfl rfl rfl) ?_
      refine TriL.c1 rfl (op_as (ltb rfl) rfl) ?_
      refine TriL.kept (Kept.seti 3 rfl (inc (by omega)) (Kept.keep [.s 3, .h, .s 0] rfl (by decide) (Kept.now ?_)))
      exact ⟨i + 1, by omega, by grind, rfl⟩
  · have hi := gem hc1
    have hS := onceFrom_end hi
    refine Tri.exit ?_
    refine Tri.seq ?_
    refine Tri.region ?_
    refine TriL.c1 rfl (op_as (ltb rfl) rfl) ?_
    refine TriL.nil ?_
    refine Tri.ret ?_
    exact ⟨.inr rfl, (ResOK.r1 rfl (.tmp rfl .nil)).cast (congrArg AV.bool (by grind [once])), rfl⟩
theorem r_riseS (l : List Str) (hl : l.length ≤ 9223372036854775807) : Pure Tryz.prog 73 [.sl (l.map .str)] (.bool (riseS l)) := by
  refine Pure.of_tri Tryz.func73 rfl rfl (ltb rfl) fun H => ?_
  refine Tri.seq ?_
  refine Tri.region ?_
  refine TriL.c1 rfl (op_as (ltb rfl) rfl) ?_
  refine TriL.nil ?_
  refine Tri.seq ?_
  refine Tri.seq ?_
  refine Tri.region ?_
  refine TriL.c1 rfl (op_as (ltb rfl) rfl) ?_
  refine TriL.nil ?_
  refine Tri.blk ?_
  refine Tri.ofKept (Kept.keep [.s 3, .h, .s 0] rfl (by decide) (Kept.now ?_))
  -- LOOP 1
  refine Tri.loopk (fun (i : Nat) => [(.s 3, .sv (.v (.int .i64 (i : Int))))]) _ (fun (i : Nat) => 0 < i ∧ riseS (l.drop (i - 1)) = riseS l) (fun (i : Nat) => l.length - i) 1 rfl (by simp) ?_
  rintro i hI
  refine Tri.seq ?_
  refine Tri.seq ?_
  refine Tri.region ?_
  refine TriL.c1 rfl (op_mv (ltb rfl) rfl) ?_
  refine TriL.c1 rfl (op_mv (ltb rfl) rfl) ?_
  refine TriL.c1 rfl (op_lenl (ltb rfl) un112_M2 rfl) ?_
  refine TriL.c1 rfl (op_bin (ltb rfl) rfl rfl rfl) ?_
  refine TriL.nil ?_
  refine Tri.cond rfl (fun hc1 => ?_) (fun hc1 => ?_)
  · have hi := ltm hc1
    have hS := riseS_step hI.1 hi
    refine Tri.skip ?_
    refine Tri.seq ?_
    refine Tri.blk ?_
    refine Tri.seq ?_
    refine Tri.drawn mixed rfl ?_
    refine TriD.c1 rfl (op_mv (ltb rfl) rfl) ?_
    refine TriD.c1 rfl (op_mv (ltb rfl) rfl) ?_
    refine TriD.c1 rfl (op_bin (ltb rfl) rfl rfl rfl) ?_
    refine TriD.c1 rfl (op_iak (ltb rfl) ie112_M2 rfl rfl (by rw [dec1 hI.1 (by omega)]; exact Int.natCast_nonneg _) (ixm1 (dec1 hI.1 (by omega)) (show i - 1 < l.length by omega)) rfl) ?_
    refine TriD.c1 rfl (op_ldk (ltb rfl) lk9_M2 rfl rfl) ?_
    refine TriD.c1 rfl (op_mv (ltb rfl) rfl) ?_
    refine TriD.c1 rfl (op_mv (ltb rfl) rfl) ?_
    refine TriD.c1 rfl (op_iak (ltb rfl) ie112_M2 rfl rfl (Int.natCast_nonneg _) (ixm hi) rfl) ?_
    refine TriD.c1 rfl (op_ldk (ltb rfl) lk9_M2 rfl rfl) ?_
    refine TriD.c1 rfl (op_bin (ltb rfl) rfl rfl rfl) ?_
    refine TriD.nil (by kernel_rfl) (Kept.now ?_)
    refine Tri.cond rfl (fun hc2 => ?_) (fun hc2 => ?_)
    · refine Tri.seq ?_
      refine Tri.region ?_
      refine TriL.c1 rfl (op_as (ltb rfl) rfl) ?_
      refine TriL.nil ?_
      refine Tri.ret ?_
      exact ⟨.inr rfl, (ResOK.r1 rfl (.tmp rfl .nil)).cast (congrArg AV.bool (by grind [])), rfl⟩
    · refine Tri.skip ?_
      refine Tri.region ?_
      refine TriL.c1 rfl (op_mv (ltb rfl) rfl) ?_
      refine TriL.c1 rfl (op_bin (ltb rfl) rfl rfl rfl) ?_
      refine TriL.c1 rfl (op_as (ltb rfl) rfl) ?_
      refine TriL.kept (Kept.seti 3 rfl (inc (by omega)) (Kept.keep [.s 3, .h, .s 0] rfl (by decide) (Kept.now ?_)))
      exact ⟨i + 1, by omega, ⟨by omega, by grind⟩, rfl⟩
  · have hi := gem hc1
    have hS := riseS_end hI.1 hi
    refine Tri.exit ?_
    refine Tri.seq ?_
    refine Tri.region ?_
    refine TriL.c1 rfl (op_as (ltb rfl) rfl) ?_
    refine TriL.nil ?_
    refine Tri.ret ?_
    exact ⟨.inr rfl, (ResOK.r1 rfl (.tmp rfl .nil)).cast (congrArg AV.bool (by grind [])), rfl⟩
theorem r_rises (l : List Int) (hl : l.length ≤ 9223372036854775807) : Pure Tryz.prog 72 [.sl (l.map iAV)] (.bool (rises l)) := by
  refine Pure.of_tri Tryz.func72 rfl rfl (ltb rfl) fun H => ?_
  refine Tri.seq ?_
  refine Tri.region ?_
  refine TriL.c1 rfl (op_as (ltb rfl) rfl) ?_
  refine TriL.nil ?_
  refine Tri.seq ?_
  refine Tri.seq ?_
  refine Tri.region ?_
  refine TriL.c1 rfl (op_as (ltb rfl) rfl) ?_
  refine TriL.nil ?_
  refine Tri.blk ?_
  refine Tri.ofKept (Kept.keep [.s 3, .h, .s 0] rfl (by decide) (Kept.now ?_))
  -- LOOP 1
  refine Tri.loopk (fun (i : Nat) => [(.s 3, .sv (.v (.int .i64 (i : Int))))]) _ (fun (i : Nat) => 0 < i ∧ rises (l.drop (i - 1)) = rises l) (fun (i : Nat) => l.length - i) 1 rfl (by simp) ?_
  rintro i hI
  refine Tri.seq ?_
  refine Tri.seq ?_
  refine Tri.region ?_
  refine TriL.c1 rfl (op_mv (ltb rfl) rfl) ?_
  refine TriL.c1 rfl (op_mv (ltb rfl) rfl) ?_
  refine TriL.c1 rfl (op_lenl (ltb rfl) un67_M2 rfl) ?_
  refine TriL.c1 rfl (op_bin (ltb rfl) rfl rfl rfl) ?_
  refine TriL.nil ?_
  refine Tri.cond rfl (fun hc1 => ?_) (fun hc1 => ?_)
  · have hi := ltm hc1
    have hS := rises_step hI.1 hi
    refine Tri.skip ?_
    refine Tri.seq ?_
    refine Tri.blk ?_
    refine Tri.seq ?_
    refine Tri.drawn mixed rfl ?_
    refine TriD.c1 rfl (op_mv (ltb rfl) rfl) ?_
    refine TriD.c1 rfl (op_mv (ltb rfl) rfl) ?_
    refine TriD.c1 rfl (op_bin (ltb rfl) rfl rfl rfl) ?_
    refine TriD.c1 rfl (op_iak (ltb rfl) ie67_M2 rfl rfl (by rw [dec1 hI.1 (by omega)]; exact Int.natCast_nonneg _) (ixm1 (dec1 hI.1 (by omega)) (show i - 1 < l.length by omega)) rfl) ?_
    refine TriD.c1 rfl (op_ldk (ltb rfl) lk3_M2 rfl rfl) ?_
    refine TriD.c1 rfl (op_mv (ltb rfl) rfl) ?_
    refine TriD.c1 rfl (op_mv (ltb rfl) rfl) ?_
    refine TriD.c1 rfl (op_iak (ltb rfl) ie67_M2 rfl rfl (Int.natCast_nonneg _) (ixm hi) rfl) ?_
    refine TriD.c1 rfl (op_ldk (ltb rfl) lk3_M2 rfl rfl) ?_
    refine TriD.c1 rfl (op_bin (ltb rfl) rfl rfl rfl) ?_
    refine TriD.nil (by kernel_rfl) (Kept.now ?_)
    refine Tri.cond rfl (fun hc2 => ?_) (fun hc2 => ?_)
    · refine Tri.seq ?_
      refine Tri.region ?_
      refine TriL.c1 rfl (op_as (ltb rfl) rfl) ?_
      refine TriL.nil ?_
      refine Tri.ret ?_
      exact ⟨.inr rfl, (ResOK.r1 rfl (.tmp rfl .nil)).cast (congrArg AV.bool (by grind [])), rfl⟩
    · refine Tri.skip ?_
      refine Tri.region ?_
      refine TriL.c1 rfl (op_mv (ltb rfl) rfl) ?_
      refine TriL.c1 rfl (op_bin (ltb rfl) rfl rfl rfl) ?_
      refine TriL.c1 rfl (op_as (ltb rfl) rfl) ?_
      refine TriL.kept (Kept.seti 3 rfl (inc (by omega)) (Kept.keep [.s 3, .h, .s 0] rfl (by decide) (Kept.now ?_)))
      exact ⟨i + 1, by omega, ⟨by omega, by grind⟩, rfl⟩
  · have hi := gem hc1
    have hS := rises_end hI.1 hi
    refine Tri.exit ?_
    refine Tri.seq ?_
    refine Tri.region ?_
    refine TriL.c1 rfl (op_as (ltb rfl) rfl) ?_
    refine TriL.nil ?_
    refine Tri.ret ?_
    exact ⟨.inr rfl, (ResOK.r1 rfl (.tmp rfl .nil)).cast (congrArg AV.bool (by grind [])), rfl⟩
theorem r_has (l : List Int) (n : Int) (hl : l.length ≤ 9223372036854775807) : Pure Tryz.prog 75 [.sl (l.map iAV), .int .i64 n] (.bool (l.any (· == n))) := by
  refine Pure.of_tri Tryz.func75 rfl rfl (ltb rfl) fun H => ?_
  refine Tri.seq ?_
  refine Tri.region ?_
  refine TriL.c1 rfl (op_as (ltb rfl) rfl) ?_
  refine TriL.nil ?_
  refine Tri.seq ?_
  refine Tri.seq ?_
  refine Tri.region ?_
  refine TriL.c1 rfl (op_as (ltb rfl) rfl) ?_
  refine TriL.nil ?_
  refine Tri.blk ?_
  refine Tri.ofKept (Kept.keep [.s 5, .h, .s 0, .s 1] rfl (by decide) (Kept.now ?_))
  -- LOOP 1
  refine Tri.loopk (fun (i : Nat) => [(.s 5, .sv (.v (.int .i64 (i : Int))))]) _ (fun (i : Nat) => (l.drop i).any (· == n) = l.any (· == n)) (fun (i : Nat) => l.length - i) 0 rfl (by simp) ?_
  rintro i hI
  refine Tri.seq ?_
  refine Tri.seq ?_
  refine Tri.region ?_
  refine TriL.c1 rfl (op_mv (ltb rfl) rfl) ?_
  refine TriL.c1 rfl (op_mv (ltb rfl) rfl) ?_
  refine TriL.c1 rfl (op_lenl (ltb rfl) un67_M2 rfl) ?_
  refine TriL.c1 rfl (op_bin (ltb rfl) rfl rfl rfl) ?_
  refine TriL.nil ?_
  refine Tri.cond rfl (fun hc1 => ?_) (fun hc1 => ?_)
  · have hi := ltm hc1
    have hS := any_step (p := (· == n)) hi
    refine Tri.skip ?_
    refine Tri.seq ?_
    refine Tri.blk ?_
    refine Tri.seq ?_
    refine Tri.region ?_
    refine TriL.c1 rfl (op_mv (ltb rfl) rfl) ?_
    refine TriL.c1 rfl (op_mv (ltb rfl) rfl) ?_
    refine TriL.c1 rfl (op_iak (ltb rfl) ie67_M2 rfl rfl (Int.natCast_nonneg _) (ixm hi) rfl) ?_
    refine TriL.c1 rfl (op_ldk (ltb rfl) lk3_M2 rfl rfl) ?_
    refine TriL.c1 rfl (op_mv (ltb rfl) rfl) ?_
    refine TriL.c1 rfl (op_bin (ltb rfl) rfl rfl rfl) ?_
    refine TriL.nil ?_
    refine Tri.cond rfl (fun hc2 => ?_) (fun hc2 => ?_)
    · refine Tri.seq ?_
      refine Tri.region ?_
      refine TriL.c1 rfl (op_as (ltb rfl) rfl) ?_
      refine TriL.nil ?_
      refine Tri.ret ?_
      exact ⟨.inr rfl, (ResOK.r1 rfl (.tmp rfl .nil)).cast (congrArg AV.bool (by grind [])), rfl⟩
    · refine Tri.skip ?_
      refine Tri.region ?_
      refine TriL.c1 rfl (op_mv (ltb rfl) rfl) ?_
      refine TriL.c1 rfl (op_bin (ltb rfl) rfl rfl rfl) ?_
      refine TriL.c1 rfl (op_as (ltb rfl) rfl) ?_
      refine TriL.kept (Kept.seti 5 rfl (inc (by omega)) (Kept.keep [.s 5, .h, .s 0, .s 1] rfl (by decide) (Kept.now ?_)))
      exact ⟨i + 1, by omega, by grind, rfl⟩
  · have hi := gem hc1
    have hS := any_end (p := (· == n)) hi
    refine Tri.exit ?_
    refine Tri.seq ?_
    refine Tri.region ?_
    refine TriL.c1 rfl (op_as (ltb rfl) rfl) ?_
    refine TriL.nil ?_
    refine Tri.ret ?_
    exact ⟨.inr rfl, (ResOK.r1 rfl (.tmp rfl .nil)).cast (congrArg AV.bool (by grind [])), rfl⟩
theorem r_msgIx (s : Sch) (name : Str) (hl : s.msgs.length ≤ 9223372036854775807) : Pure Tryz.prog 52 [s.av, .str name] (.int .i64 (s.msgIx name)) := by
  refine Pure.of_tri Tryz.func52 rfl rfl (ltb rfl) fun H => ?_
  refine Tri.seq ?_
  refine Tri.region ?_
  refine TriL.c2 rfl (op_box (ltb rfl) rfl rfl rfl) ?_
  refine TriL.c1 rfl (op_as (ltb rfl) rfl) ?_
  refine TriL.nil ?_
  refine Tri.seq ?_
  refine Tri.seq ?_
  refine Tri.region ?_
  refine TriL.c1 rfl (op_as (ltb rfl) rfl) ?_
  refine TriL.nil ?_
  refine Tri.blk ?_
  refine Tri.ofKept (Kept.keep [.s 5, .h, .s 1, .s 2, .b 2] rfl (by decide) (Kept.now ?_))
  -- LOOP 1
  refine Tri.loopk (fun (i : Nat) => [(.s 5, .sv (.v (.int .i64 (i : Int))))]) _ (fun (i : Nat) => ixFrom (fun m : Msg => m.name == name) (s.msgs.drop i) i = s.msgIx name) (fun (i : Nat) => s.msgs.length - i) 0 rfl (by simp [Sch.msgIx]) ?_
  rintro i hI
  refine Tri.seq ?_
  refine Tri.seq ?_
  refine Tri.region ?_
  refine TriL.c1 rfl (op_mv (ltb rfl) rfl) ?_
  refine TriL.c1 rfl (op_fal (ltb rfl) fo25_1_M2 rfl) ?_
  refine TriL.c1 rfl (op_ldl (ltb rfl) lk23_M2 rfl rfl rfl) ?_
  refine TriL.c1 rfl (op_lenl (ltb rfl) un23_M2 rfl) ?_
  refine TriL.c1 rfl (op_bin (ltb rfl) rfl rfl rfl) ?_
  refine TriL.nil ?_
  refine Tri.cond rfl (fun hc1 => ?_) (fun hc1 => ?_)
  · have hi := ltm hc1
    have hS := ixFrom_step (p := (fun m : Msg => m.name == name)) hi
    refine Tri.skip ?_
    refine Tri.seq ?_
    refine Tri.blk ?_
    refine Tri.seq ?_
    refine Tri.region ?_
    refine TriL.c1 rfl (op_fal (ltb rfl) fo25_1_M2 rfl) ?_
    refine TriL.c1 rfl (op_ldl (ltb rfl) lk23_M2 rfl rfl rfl) ?_
    refine TriL.c1 rfl (op_mv (ltb rfl) rfl) ?_
    refine TriL.c1 rfl (op_iak (ltb rfl) ie23_M2 rfl rfl (Int.natCast_nonneg _) (ixm hi) rfl) ?_
    refine TriL.c1 rfl (op_fak (ltb rfl) fo78_0_M2 rfl) ?_
    refine TriL.c1 rfl (op_ldk (ltb rfl) lk9_M2 rfl rfl) ?_
    refine TriL.c1 rfl (op_mv (ltb rfl) rfl) ?_
    refine TriL.c1 rfl (op_bin (ltb rfl) rfl rfl rfl) ?_
    refine TriL.nil ?_
    refine Tri.cond rfl (fun hc2 => ?_) (fun hc2 => ?_)
    · refine Tri.seq ?_
      refine Tri.region ?_
      refine TriL.c1 rfl (op_mv (ltb rfl) rfl) ?_
      refine TriL.c1 rfl (op_as (ltb rfl) rfl) ?_
      refine TriL.nil ?_
      refine Tri.ret ?_
      exact ⟨.inr rfl, (ResOK.r1 rfl (.tmp rfl .nil)).cast (congrArg (AV.int .i64) (by grind [Sch.msgIx])), rfl⟩
    · refine Tri.skip ?_
      refine Tri.region ?_
      refine TriL.c1 rfl (op_mv (ltb rfl) rfl) ?_
      refine TriL.c1 rfl (op_bin (ltb rfl) rfl rfl rfl) ?_
      refine TriL.c1 rfl (op_as (ltb rfl) rfl) ?_
      refine TriL.kept (Kept.seti 5 rfl (inc (by omega)) (Kept.keep [.s 5, .h, .s 1, .s 2, .b 2] rfl (by decide) (Kept.now ?_)))
      exact ⟨i + 1, by omega, by grind, rfl⟩
  · have hi := gem hc1
    have hS := ixFrom_end (p := (fun m : Msg => m.name == name)) hi
    refine Tri.exit ?_
    refine Tri.seq ?_
    refine Tri.region ?_
    refine TriL.c1 rfl (op_as (ltb rfl) rfl) ?_
    refine TriL.nil ?_
    refine Tri.ret ?_
    exact ⟨.inr rfl, (ResOK.r1 rfl (.tmp rfl .nil)).cast (congrArg (AV.int .i64) (by grind [Sch.msgIx])), rfl⟩
theorem r_enumIx (s : Sch) (name : Str) (hl : s.enums.length ≤ 9223372036854775807) : Pure Tryz.prog 76 [s.av, .str name] (.int .i64 (s.enumIx name)) := by
  refine Pure.of_tri Tryz.func76 rfl rfl (ltb rfl) fun H => ?_
  refine Tri.seq ?_
  refine Tri.region ?_
  refine TriL.c2 rfl (op_box (ltb rfl) rfl rfl rfl) ?_
  refine TriL.c1 rfl (op_as (ltb rfl) rfl) ?_
  refine TriL.nil ?_
  refine Tri.seq ?_
  refine Tri.seq ?_
  refine Tri.region ?_
  refine TriL.c1 rfl (op_as (ltb rfl) rfl) ?_
  refine TriL.nil ?_
  refine Tri.blk ?_
  refine Tri.ofKept (Kept.keep [.s 5, .h, .s 1, .s 2, .b 2] rfl (by decide) (Kept.now ?_))
  -- LOOP 1
  refine Tri.loopk (fun (i : Nat) => [(.s 5, .sv (.v (.int .i64 (i : Int))))]) _ (fun (i : Nat) => ixFrom (fun m : Enm => m.name == name) (s.enums.drop i) i = s.enumIx name) (fun (i : Nat) => s.enums.length - i) 0 rfl (by simp [Sch.enumIx]) ?_
  rintro i hI
  refine Tri.seq ?_
  refine Tri.seq ?_
  refine Tri.region ?_
  refine TriL.c1 rfl (op_mv (ltb rfl) rfl) ?_
  refine TriL.c1 rfl (op_fal (ltb rfl) fo25_0_M2 rfl) ?_
  refine TriL.c1 rfl (op_ldl (ltb rfl) lk22_M2 rfl rfl rfl) ?_
  refine TriL.c1 rfl (op_lenl (ltb rfl) un22_M2 rfl) ?_
  refine TriL.c1 rfl (op_bin (ltb rfl) rfl rfl rfl) ?_
  refine TriL.nil ?_
  refine Tri.cond rfl (fun hc1 => ?_) (fun hc1 => ?_)
  · have hi := ltm hc1
    have hS := ixFrom_step (p := (fun m : Enm => m.name == name)) hi
    refine Tri.skip ?_
    refine Tri.seq ?_
    refine Tri.blk ?_
    refine Tri.seq ?_
    refine Tri.region ?_
    refine TriL.c1 rfl (op_fal (ltb rfl) fo25_0_M2 rfl) ?_
    refine TriL.c1 rfl (op_ldl (ltb rfl) lk22_M2 rfl rfl rfl) ?_
    refine TriL.c1 rfl (op_mv (ltb rfl) rfl) ?_
    refine TriL.c1 rfl (op_iak (ltb rfl) ie22_M2 rfl rfl (Int.natCast_nonneg _) (ixm hi) rfl) ?_
    refine TriL.c1 rfl (op_fak (ltb rfl) fo94_0_M2 rfl) ?_
    refine TriL.c1 rfl (op_ldk (ltb rfl) lk9_M2 rfl rfl) ?_
    refine TriL.c1 rfl (op_mv (ltb rfl) rfl) ?_
    refine TriL.c1 rfl (op_bin (ltb rfl) rfl rfl rfl) ?_
    refine TriL.nil ?_
    refine Tri.cond rfl (fun hc2 => ?_) (fun hc2 => ?_)
    · refine Tri.seq ?_
      refine Tri.region ?_
      refine TriL.c1 rfl (op_mv (ltb rfl) rfl) ?_
      refine TriL.c1 rfl (op_as (ltb rfl) rfl) ?_
      refine TriL.nil ?_
      refine Tri.ret ?_
      exact ⟨.inr rfl, (ResOK.r1 rfl (.tmp rfl .nil)).cast (congrArg (AV.int .i64) (by grind [Sch.enumIx])), rfl⟩
    · refine Tri.skip ?_
      refine Tri.region ?_
      refine TriL.c1 rfl (op_mv (ltb rfl) rfl) ?_
      refine TriL.c1 rfl (op_bin (ltb rfl) rfl rfl rfl) ?_
      refine TriL.c1 rfl (op_as (ltb rfl) rfl) ?_
      refine TriL.kept (Kept.seti 5 rfl (inc (by omega)) (Kept.keep [.s 5, .h, .s 1, .s 2, .b 2] rfl (by decide) (Kept.now ?_)))
      exact ⟨i + 1, by omega, by grind, rfl⟩
  · have hi := gem hc1
    have hS := ixFrom_end (p := (fun m : Enm => m.name == name)) hi
    refine Tri.exit ?_
    refine Tri.seq ?_
    refine Tri.region ?_
    refine TriL.c1 rfl (op_as (ltb rfl) rfl) ?_
    refine TriL.nil ?_
    refine Tri.ret ?_
    exact ⟨.inr rfl, (ResOK.r1 rfl (.tmp rfl .nil)).cast (congrArg (AV.int .i64) (by grind [Sch.enumIx])), rfl⟩
theorem r_fchk (f : Fld) : Pure Tryz.prog 70 [f.av] (.int .i64 f.chk) := by
  refine Pure.of_tri Tryz.func70 rfl rfl (ltb rfl) fun H => ?_
  refine Tri.seq ?_
  refine Tri.region ?_
  refine TriL.c2 rfl (op_box (ltb rfl) rfl rfl rfl) ?_
  refine TriL.c1 rfl (op_as (ltb rfl) rfl) ?_
  refine TriL.nil ?_
  refine Tri.joinu [.h, .s 1, .b 1] (fun (_ : Unit) => []) (fun (_ : Unit) => nameOK f.name = true ∧ (f.one = [] ∨ nameOK f.one = true)) rfl ?_ ?_
  · refine Tri.seq ?_
    refine Tri.region ?_
    refine TriL.c1 rfl (op_fal (ltb rfl) fo98_0_M2 rfl) ?_
    refine TriL.c1 rfl (op_ldl (ltb rfl) lk9_M2 rfl rfl rfl) ?_
    refine TriL.c1 rfl (op_call (ltb rfl) fn69_M2 rfl (r_nameOK _)) ?_
    refine TriL.c1 rfl (op_un (ltb rfl) rfl rfl) ?_
    refine TriL.c1 rfl (op_mv (ltb rfl) rfl) ?_
    refine TriL.split (d := 7) rfl (fun hg1 => ?_) (fun hg1 => ?_)
    · refine TriL.skipu rfl rfl (ltb rfl) (ltb rfl) rfl hg1 ?_
      refine TriL.skipu rfl rfl (ltb rfl) (ltb rfl) rfl hg1 ?_
      refine TriL.skipu rfl rfl (ltb rfl) (ltb rfl) rfl hg1 ?_
      refine TriL.skipu rfl rfl (ltb rfl) (ltb rfl) rfl hg1 ?_
      refine TriL.skipg rfl rfl (ltb rfl) (ltb rfl) rfl ?_
      refine TriL.skipg rfl rfl (ltb rfl) (ltb rfl) rfl ?_
      refine TriL.skipg rfl rfl (ltb rfl) (ltb rfl) rfl ?_
      refine TriL.skipg rfl rfl (ltb rfl) (ltb rfl) rfl ?_
      refine TriL.skipu rfl rfl (ltb rfl) (ltb rfl) rfl hg1 ?_
      refine TriL.c1 rfl (op_pickt (ltb rfl) rfl hg1 rfl) ?_
      refine TriL.nil ?_
      refine Tri.condT rfl rfl ?_
      refine Tri.seq ?_
      refine Tri.region ?_
      refine TriL.c1 rfl (op_as (ltb rfl) rfl) ?_
      refine TriL.nil ?_
      refine Tri.ret ?_
      exact ⟨.inr rfl, (ResOK.r1 rfl (.tmp rfl .nil)).cast (congrArg (AV.int .i64) (by grind [Fld.chk])), rfl⟩
    · refine TriL.g1 rfl (ltb rfl) rfl hg1 (op_fal (ltb rfl) fo98_6_M2 rfl) ?_
      refine TriL.g1 rfl (ltb rfl) rfl hg1 (op_ldl (ltb rfl) lk9_M2 rfl rfl rfl) ?_
      refine TriL.g1 rfl (ltb rfl) rfl hg1 (op_bin (ltb rfl) rfl rfl rfl) ?_
      refine TriL.g1 rfl (ltb rfl) rfl hg1 (op_mv (ltb rfl) rfl) ?_
      refine TriL.split (d := 11) rfl (fun hg2 => ?_) (fun hg2 => ?_)
      · refine TriL.g1 rfl (ltb rfl) rfl hg2 (op_fal (ltb rfl) fo98_6_M2 rfl) ?_
        refine TriL.g1 rfl (ltb rfl) rfl hg2 (op_ldl (ltb rfl) lk9_M2 rfl rfl rfl) ?_
        refine TriL.g1 rfl (ltb rfl) rfl hg2 (op_call (ltb rfl) fn69_M2 rfl (r_nameOK _)) ?_
        refine TriL.g1 rfl (ltb rfl) rfl hg2 (op_un (ltb rfl) rfl rfl) ?_
        refine TriL.g1 rfl (ltb rfl) rfl hg1 (op_pickt (ltb rfl) rfl hg2 rfl) ?_
        refine TriL.c1 rfl (op_pickf (ltb rfl) rfl hg1 rfl) ?_
        refine TriL.nil ?_
        refine Tri.cond rfl (fun hc3 => ?_) (fun hc3 => ?_)
        · refine Tri.seq ?_
          refine Tri.region ?_
          refine TriL.c1 rfl (op_as (ltb rfl) rfl) ?_
          refine TriL.nil ?_
          refine Tri.ret ?_
          exact ⟨.inr rfl, (ResOK.r1 rfl (.tmp rfl .nil)).cast (congrArg (AV.int .i64) (by grind [Fld.chk])), rfl⟩
        · refine Tri.ofKept (Kept.keep [.h, .s 1, .b 1] rfl (by decide) (Kept.now ?_))
          refine Tri.skip ?_
          exact ⟨(), by grind, rfl⟩
      · refine TriL.skipu rfl rfl (ltb rfl) (ltb rfl) rfl hg2 ?_
        refine TriL.skipu rfl rfl (ltb rfl) (ltb rfl) rfl hg2 ?_
        refine TriL.skipu rfl rfl (ltb rfl) (ltb rfl) rfl hg2 ?_
        refine TriL.skipu rfl rfl (ltb rfl) (ltb rfl) rfl hg2 ?_
        refine TriL.g1 rfl (ltb rfl) rfl hg1 (op_pickf (ltb rfl) rfl hg2 rfl) ?_
        refine TriL.c1 rfl (op_pickf (ltb rfl) rfl hg1 rfl) ?_
        refine TriL.nil ?_
        refine Tri.condF rfl rfl ?_
        refine Tri.ofKept (Kept.keep [.h, .s 1, .b 1] rfl (by decide) (Kept.now ?_))
        refine Tri.skip ?_
        exact ⟨(), by grind, rfl⟩
  · rintro _ hF3
    refine Tri.joinu [.h, .s 1, .b 1] (fun (_ : Unit) => []) (fun (_ : Unit) => ((f.ty = 14 ∨ f.ty = 15) ∧ nameOK f.ref = true) ∨ (¬ (f.ty = 14 ∨ f.ty = 15) ∧ f.ref = [])) rfl ?_ ?_
    · refine Tri.seq ?_
      refine Tri.region ?_
      refine TriL.c1 rfl (op_fal (ltb rfl) fo98_2_M2 rfl) ?_
      refine TriL.c1 rfl (op_ldl (ltb rfl) lk3_M2 rfl rfl rfl) ?_
      refine TriL.c1 rfl (op_bin (ltb rfl) rfl rfl rfl) ?_
      refine TriL.c1 rfl (op_mv (ltb rfl) rfl) ?_
      refine TriL.split (d := 21) rfl (fun hg4 => ?_) (fun hg4 => ?_)
      · refine TriL.skipu rfl rfl (ltb rfl) (ltb rfl) rfl hg4 ?_
        refine TriL.skipu rfl rfl (ltb rfl) (ltb rfl) rfl hg4 ?_
        refine TriL.skipu rfl rfl (ltb rfl) (ltb rfl) rfl hg4 ?_
        refine TriL.c1 rfl (op_pickt (ltb rfl) rfl hg4 rfl) ?_
        refine TriL.nil ?_
        refine Tri.condT rfl rfl ?_
        refine Tri.seq ?_
        refine Tri.region ?_
        refine TriL.c1 rfl (op_fal (ltb rfl) fo98_3_M2 rfl) ?_
        refine TriL.c1 rfl (op_ldl (ltb rfl) lk9_M2 rfl rfl rfl) ?_
        refine TriL.c1 rfl (op_call (ltb rfl) fn69_M2 rfl (r_nameOK _)) ?_
        refine TriL.c1 rfl (op_un (ltb rfl) rfl rfl) ?_
        refine TriL.nil ?_
        refine Tri.cond rfl (fun hc5 => ?_) (fun hc5 => ?_)
        · refine Tri.seq ?_
          refine Tri.region ?_
          refine TriL.c1 rfl (op_as (ltb rfl) rfl) ?_
          refine TriL.nil ?_
          refine Tri.ret ?_
          exact ⟨.inr rfl, (ResOK.r1 rfl (.tmp rfl .nil)).cast (congrArg (AV.int .i64) (by grind [Fld.chk])), rfl⟩
        · refine Tri.ofKept (Kept.keep [.h, .s 1, .b 1] rfl (by decide) (Kept.now ?_))
          refine Tri.skip ?_
          exact ⟨(), by grind, rfl⟩
      · refine TriL.g1 rfl (ltb rfl) rfl hg4 (op_fal (ltb rfl) fo98_2_M2 rfl) ?_
        refine TriL.g1 rfl (ltb rfl) rfl hg4 (op_ldl (ltb rfl) lk3_M2 rfl rfl rfl) ?_
        refine TriL.g1 rfl (ltb rfl) rfl hg4 (op_bin (ltb rfl) rfl rfl rfl) ?_
        refine TriL.c1 rfl (op_pickf (ltb rfl) rfl hg4 rfl) ?_
        refine TriL.nil ?_
        refine Tri.cond rfl (fun hc6 => ?_) (fun hc6 => ?_)
        · refine Tri.seq ?_
          refine Tri.region ?_
          refine TriL.c1 rfl (op_fal (ltb rfl) fo98_3_M2 rfl) ?_
          refine TriL.c1 rfl (op_ldl (ltb rfl) lk9_M2 rfl rfl rfl) ?_
          refine TriL.c1 rfl (op_call (ltb rfl) fn69_M2 rfl (r_nameOK _)) ?_
          refine TriL.c1 rfl (op_un (ltb rfl) rfl rfl) ?_
          refine TriL.nil ?_
          refine Tri.cond rfl (fun hc7 => ?_) (fun hc7 => ?_)
          · refine Tri.seq ?_
            refine Tri.region ?_
            refine TriL.c1 rfl (op_as (ltb rfl) rfl) ?_
            refine TriL.nil ?_
            refine Tri.ret ?_
            exact ⟨.inr rfl, (ResOK.r1 rfl (.tmp rfl .nil)).cast (congrArg (AV.int .i64) (by grind [Fld.chk])), rfl⟩
          · refine Tri.ofKept (Kept.keep [.h, .s 1, .b 1] rfl (by decide) (Kept.now ?_))
            refine Tri.skip ?_
            exact ⟨(), by grind, rfl⟩
        · refine Tri.seq ?_
          refine Tri.region ?_
          refine TriL.c1 rfl (op_fal (ltb rfl) fo98_3_M2 rfl) ?_
          refine TriL.c1 rfl (op_ldl (ltb rfl) lk9_M2 rfl rfl rfl) ?_
          refine TriL.c1 rfl (op_bin (ltb rfl) rfl rfl rfl) ?_
          refine TriL.nil ?_
          refine Tri.cond rfl (fun hc8 => ?_) (fun hc8 => ?_)
          · refine Tri.seq ?_
            refine Tri.region ?_
            refine TriL.c1 rfl (op_as (ltb rfl) rfl) ?_
            refine TriL.nil ?_
            refine Tri.ret ?_
            exact ⟨.inr rfl, (ResOK.r1 rfl (.tmp rfl .nil)).cast (congrArg (AV.int .i64) (by grind [Fld.chk])), rfl⟩
          · refine Tri.ofKept (Kept.keep [.h, .s 1, .b 1] rfl (by decide) (Kept.now ?_))
            refine Tri.skip ?_
            exact ⟨(), by grind, rfl⟩
    · rintro _ hF8
      refine Tri.joinu [.h, .s 1, .b 1] (fun (_ : Unit) => []) (fun (_ : Unit) => fnum f.num = true ∧ 1 ≤ f.ty ∧ f.ty ≤ 15 ∧ (f.rep = false ∨ f.one = [])) rfl ?_ ?_
      · refine Tri.seq ?_
        refine Tri.region ?_
        refine TriL.c1 rfl (op_fal (ltb rfl) fo98_1_M2 rfl) ?_
        refine TriL.c1 rfl (op_ldl (ltb rfl) lk3_M2 rfl rfl rfl) ?_
        refine TriL.c1 rfl (op_call (ltb rfl) fn123_M2 rfl (r_fnum _)) ?_
        refine TriL.c1 rfl (op_un (ltb rfl) rfl rfl) ?_
        refine TriL.c1 rfl (op_mv (ltb rfl) rfl) ?_
        refine TriL.split (d := 37) rfl (fun hg9 => ?_) (fun hg9 => ?_)
        · refine TriL.skipu rfl rfl (ltb rfl) (ltb rfl) rfl hg9 ?_
          refine TriL.skipu rfl rfl (ltb rfl) (ltb rfl) rfl hg9 ?_
          refine TriL.skipu rfl rfl (ltb rfl) (ltb rfl) rfl hg9 ?_
          refine TriL.c1 rfl (op_pickt (ltb rfl) rfl hg9 rfl) ?_
          refine TriL.c1 rfl (op_mv (ltb rfl) rfl) ?_
          refine TriL.skipu rfl rfl (ltb rfl) (ltb rfl) rfl rfl ?_
          refine TriL.skipu rfl rfl (ltb rfl) (ltb rfl) rfl rfl ?_
          refine TriL.skipu rfl rfl (ltb rfl) (ltb rfl) rfl rfl ?_
          refine TriL.c1 rfl (op_pickt (ltb rfl) rfl rfl rfl) ?_
          refine TriL.c1 rfl (op_mv (ltb rfl) rfl) ?_
          refine TriL.skipu rfl rfl (ltb rfl) (ltb rfl) rfl rfl ?_
          refine TriL.skipu rfl rfl (ltb rfl) (ltb rfl) rfl rfl ?_
          refine TriL.skipu rfl rfl (ltb rfl) (ltb rfl) rfl rfl ?_
          refine TriL.skipg rfl rfl (ltb rfl) (ltb rfl) rfl ?_
          refine TriL.skipg rfl rfl (ltb rfl) (ltb rfl) rfl ?_
          refine TriL.skipg rfl rfl (ltb rfl) (ltb rfl) rfl ?_
          refine TriL.skipu rfl rfl (ltb rfl) (ltb rfl) rfl rfl ?_
          refine TriL.c1 rfl (op_pickt (ltb rfl) rfl rfl rfl) ?_
          refine TriL.nil ?_
          refine Tri.condT rfl rfl ?_
          refine Tri.seq ?_
          refine Tri.region ?_
          refine TriL.c1 rfl (op_as (ltb rfl) rfl) ?_
          refine TriL.nil ?_
          refine Tri.ret ?_
          exact ⟨.inr rfl, (ResOK.r1 rfl (.tmp rfl .nil)).cast (congrArg (AV.int .i64) (by grind [Fld.chk])), rfl⟩
        · refine TriL.g1 rfl (ltb rfl) rfl hg9 (op_fal (ltb rfl) fo98_2_M2 rfl) ?_
          refine TriL.g1 rfl (ltb rfl) rfl hg9 (op_ldl (ltb rfl) lk3_M2 rfl rfl rfl) ?_
          refine TriL.g1 rfl (ltb rfl) rfl hg9 (op_bin (ltb rfl) rfl rfl rfl) ?_
          refine TriL.c1 rfl (op_pickf (ltb rfl) rfl hg9 rfl) ?_
          refine TriL.c1 rfl (op_mv (ltb rfl) rfl) ?_
          refine TriL.split (d := 42) rfl (fun hg10 => ?_) (fun hg10 => ?_)
          · refine TriL.skipu rfl rfl (ltb rfl) (ltb rfl) rfl hg10 ?_
            refine TriL.skipu rfl rfl (ltb rfl) (ltb rfl) rfl hg10 ?_
            refine TriL.skipu rfl rfl (ltb rfl) (ltb rfl) rfl hg10 ?_
            refine TriL.c1 rfl (op_pickt (ltb rfl) rfl hg10 rfl) ?_
            refine TriL.c1 rfl (op_mv (ltb rfl) rfl) ?_
            refine TriL.skipu rfl rfl (ltb rfl) (ltb rfl) rfl rfl ?_
            refine TriL.skipu rfl rfl (ltb rfl) (ltb rfl) rfl rfl ?_
            refine TriL.skipu rfl rfl (ltb rfl) (ltb rfl) rfl rfl ?_
            refine TriL.skipg rfl rfl (ltb rfl) (ltb rfl) rfl ?_
            refine TriL.skipg rfl rfl (ltb rfl) (ltb rfl) rfl ?_
            refine TriL.skipg rfl rfl (ltb rfl) (ltb rfl) rfl ?_
            refine TriL.skipu rfl rfl (ltb rfl) (ltb rfl) rfl rfl ?_
            refine TriL.c1 rfl (op_pickt (ltb rfl) rfl rfl rfl) ?_
            refine TriL.nil ?_
            refine Tri.condT rfl rfl ?_
            refine Tri.seq ?_
            refine Tri.region ?_
            refine TriL.c1 rfl (op_as (ltb rfl) rfl) ?_
            refine TriL.nil ?_
            refine Tri.ret ?_
            exact ⟨.inr rfl, (ResOK.r1 rfl (.tmp rfl .nil)).cast (congrArg (AV.int .i64) (by grind [Fld.chk])), rfl⟩
          · refine TriL.g1 rfl (ltb rfl) rfl hg10 (op_fal (ltb rfl) fo98_2_M2 rfl) ?_
            refine TriL.g1 rfl (ltb rfl) rfl hg10 (op_ldl (ltb rfl) lk3_M2 rfl rfl rfl) ?_
            refine TriL.g1 rfl (ltb rfl) rfl hg10 (op_bin (ltb rfl) rfl rfl rfl) ?_
            refine TriL.c1 rfl (op_pickf (ltb rfl) rfl hg10 rfl) ?_
            refine TriL.c1 rfl (op_mv (ltb rfl) rfl) ?_
            refine TriL.split (d := 47) rfl (fun hg11 => ?_) (fun hg11 => ?_)
            · refine TriL.skipu rfl rfl (ltb rfl) (ltb rfl) rfl hg11 ?_
              refine TriL.skipu rfl rfl (ltb rfl) (ltb rfl) rfl hg11 ?_
              refine TriL.skipu rfl rfl (ltb rfl) (ltb rfl) rfl hg11 ?_
              refine TriL.skipg rfl rfl (ltb rfl) (ltb rfl) rfl ?_
              refine TriL.skipg rfl rfl (ltb rfl) (ltb rfl) rfl ?_
              refine TriL.skipg rfl rfl (ltb rfl) (ltb rfl) rfl ?_
              refine TriL.skipu rfl rfl (ltb rfl) (ltb rfl) rfl hg11 ?_
              refine TriL.c1 rfl (op_pickt (ltb rfl) rfl hg11 rfl) ?_
              refine TriL.nil ?_
              refine Tri.condT rfl rfl ?_
              refine Tri.seq ?_
              refine Tri.region ?_
              refine TriL.c1 rfl (op_as (ltb rfl) rfl) ?_
              refine TriL.nil ?_
              refine Tri.ret ?_
              exact ⟨.inr rfl, (ResOK.r1 rfl (.tmp rfl .nil)).cast (congrArg (AV.int .i64) (by grind [Fld.chk])), rfl⟩
            · refine TriL.g1 rfl (ltb rfl) rfl hg11 (op_fal (ltb rfl) fo98_4_M2 rfl) ?_
              refine TriL.g1 rfl (ltb rfl) rfl hg11 (op_ldl (ltb rfl) lk4_M2 rfl rfl rfl) ?_
              refine TriL.g1 rfl (ltb rfl) rfl hg11 (op_mv (ltb rfl) rfl) ?_
              refine TriL.split (d := 50) rfl (fun hg12 => ?_) (fun hg12 => ?_)
              · refine TriL.g1 rfl (ltb rfl) rfl hg12 (op_fal (ltb rfl) fo98_6_M2 rfl) ?_
                refine TriL.g1 rfl (ltb rfl) rfl hg12 (op_ldl (ltb rfl) lk9_M2 rfl rfl rfl) ?_
                refine TriL.g1 rfl (ltb rfl) rfl hg12 (op_bin (ltb rfl) rfl rfl rfl) ?_
                refine TriL.g1 rfl (ltb rfl) rfl hg11 (op_pickt (ltb rfl) rfl hg12 rfl) ?_
                refine TriL.c1 rfl (op_pickf (ltb rfl) rfl hg11 rfl) ?_
                refine TriL.nil ?_
                refine Tri.cond rfl (fun hc13 => ?_) (fun hc13 => ?_)
                · refine Tri.seq ?_
                  refine Tri.region ?_
                  refine TriL.c1 rfl (op_as (ltb rfl) rfl) ?_
                  refine TriL.nil ?_
                  refine Tri.ret ?_
                  exact ⟨.inr rfl, (ResOK.r1 rfl (.tmp rfl .nil)).cast (congrArg (AV.int .i64) (by grind [Fld.chk])), rfl⟩
                · refine Tri.ofKept (Kept.keep [.h, .s 1, .b 1] rfl (by decide) (Kept.now ?_))
                  refine Tri.skip ?_
                  exact ⟨(), by grind, rfl⟩
              · refine TriL.skipu rfl rfl (ltb rfl) (ltb rfl) rfl hg12 ?_
                refine TriL.skipu rfl rfl (ltb rfl) (ltb rfl) rfl hg12 ?_
                refine TriL.skipu rfl rfl (ltb rfl) (ltb rfl) rfl hg12 ?_
                refine TriL.g1 rfl (ltb rfl) rfl hg11 (op_pickf (ltb rfl) rfl hg12 rfl) ?_
                refine TriL.c1 rfl (op_pickf (ltb rfl) rfl hg11 rfl) ?_
                refine TriL.nil ?_
                refine Tri.condF rfl rfl ?_
                refine Tri.ofKept (Kept.keep [.h, .s 1, .b 1] rfl (by decide) (Kept.now ?_))
                refine Tri.skip ?_
                exact ⟨(), by grind, rfl⟩
      · rintro _ hF10
        refine Tri.seq ?_
        refine Tri.seq ?_
        refine Tri.region ?_
        refine TriL.c1 rfl (op_fal (ltb rfl) fo98_5_M2 rfl) ?_
        refine TriL.c1 rfl (op_ldl (ltb rfl) lk4_M2 rfl rfl rfl) ?_
        refine TriL.c1 rfl (op_mv (ltb rfl) rfl) ?_
        refine TriL.split (d := 58) rfl (fun hg14 => ?_) (fun hg14 => ?_)
        · refine TriL.g1 rfl (ltb rfl) rfl hg14 (op_fal (ltb rfl) fo98_4_M2 rfl) ?_
          refine TriL.g1 rfl (ltb rfl) rfl hg14 (op_ldl (ltb rfl) lk4_M2 rfl rfl rfl) ?_
          refine TriL.g1 rfl (ltb rfl) rfl hg14 (op_un (ltb rfl) rfl rfl) ?_
          refine TriL.g1 rfl (ltb rfl) rfl hg14 (op_mv (ltb rfl) rfl) ?_
          refine TriL.split (d := 62) rfl (fun hg15 => ?_) (fun hg15 => ?_)
          · refine TriL.skipu rfl rfl (ltb rfl) (ltb rfl) rfl hg15 ?_
            refine TriL.skipu rfl rfl (ltb rfl) (ltb rfl) rfl hg15 ?_
            refine TriL.skipu rfl rfl (ltb rfl) (ltb rfl) rfl hg15 ?_
            refine TriL.skipu rfl rfl (ltb rfl) (ltb rfl) rfl hg15 ?_
            refine TriL.g1 rfl (ltb rfl) rfl hg14 (op_pickt (ltb rfl) rfl hg15 rfl) ?_
            refine TriL.c1 rfl (op_pickt (ltb rfl) rfl hg14 rfl) ?_
            refine TriL.nil ?_
            refine Tri.condT rfl rfl ?_
            refine Tri.seq ?_
            refine Tri.region ?_
            refine TriL.c1 rfl (op_as (ltb rfl) rfl) ?_
            refine TriL.nil ?_
            refine Tri.ret ?_
            exact ⟨.inr rfl, (ResOK.r1 rfl (.tmp rfl .nil)).cast (congrArg (AV.int .i64) (by grind [Fld.chk])), rfl⟩
          · refine TriL.g1 rfl (ltb rfl) rfl hg15 (op_fal (ltb rfl) fo98_2_M2 rfl) ?_
            refine TriL.g1 rfl (ltb rfl) rfl hg15 (op_ldl (ltb rfl) lk3_M2 rfl rfl rfl) ?_
            refine TriL.g1 rfl (ltb rfl) rfl hg15 (op_call (ltb rfl) fn124_M2 rfl (r_numT _)) ?_
            refine TriL.g1 rfl (ltb rfl) rfl hg15 (op_un (ltb rfl) rfl rfl) ?_
            refine TriL.g1 rfl (ltb rfl) rfl hg14 (op_pickf (ltb rfl) rfl hg15 rfl) ?_
            refine TriL.c1 rfl (op_pickt (ltb rfl) rfl hg14 rfl) ?_
            refine TriL.nil ?_
            refine Tri.cond rfl (fun hc16 => ?_) (fun hc16 => ?_)
            · refine Tri.seq ?_
              refine Tri.region ?_
              refine TriL.c1 rfl (op_as (ltb rfl) rfl) ?_
              refine TriL.nil ?_
              refine Tri.ret ?_
              exact ⟨.inr rfl, (ResOK.r1 rfl (.tmp rfl .nil)).cast (congrArg (AV.int .i64) (by grind [Fld.chk])), rfl⟩
            · refine Tri.skip ?_
              refine Tri.seq ?_
              refine Tri.region ?_
              refine TriL.c1 rfl (op_as (ltb rfl) rfl) ?_
              refine TriL.nil ?_
              refine Tri.ret ?_
              exact ⟨.inr rfl, (ResOK.r1 rfl (.tmp rfl .nil)).cast (congrArg (AV.int .i64) (by grind [Fld.chk])), rfl⟩
        · refine TriL.skipu rfl rfl (ltb rfl) (ltb rfl) rfl hg14 ?_
          refine TriL.skipu rfl rfl (ltb rfl) (ltb rfl) rfl hg14 ?_
          refine TriL.skipu rfl rfl (ltb rfl) (ltb rfl) rfl hg14 ?_
          refine TriL.skipu rfl rfl (ltb rfl) (ltb rfl) rfl hg14 ?_
          refine TriL.skipg rfl rfl (ltb rfl) (ltb rfl) rfl ?_
          refine TriL.skipg rfl rfl (ltb rfl) (ltb rfl) rfl ?_
          refine TriL.skipg rfl rfl (ltb rfl) (ltb rfl) rfl ?_
          refine TriL.skipg rfl rfl (ltb rfl) (ltb rfl) rfl ?_
          refine TriL.skipu rfl rfl (ltb rfl) (ltb rfl) rfl hg14 ?_
          refine TriL.c1 rfl (op_pickf (ltb rfl) rfl hg14 rfl) ?_
          refine TriL.nil ?_
          refine Tri.condF rfl rfl ?_
          refine Tri.skip ?_
          refine Tri.seq ?_
          refine Tri.region ?_
          refine TriL.c1 rfl (op_as (ltb rfl) rfl) ?_
          refine TriL.nil ?_
          refine Tri.ret ?_
          exact ⟨.inr rfl, (ResOK.r1 rfl (.tmp rfl .nil)).cast (congrArg (AV.int .i64) (by grind [Fld.chk])), rfl⟩
end Go.Proofs.YtnpgcmeclkncnaaGreatDoor.X
