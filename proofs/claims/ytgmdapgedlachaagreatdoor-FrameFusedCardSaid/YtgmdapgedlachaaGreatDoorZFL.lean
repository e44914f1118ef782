/- Plain laws: a part's registers are used up once at most; what is made shorter keeps its ports. No condition. -/
import Derived.Test.YtgmdapgedlachaaGreatDoorZFK
import Derived.Test.YtgmdapgedlachaaGreatDoorZFJ
import Derived.Test.YtgmdapgedlachaaGreatDoorZFD
import Derived.Test.YtgmdapgedlachaaGreatDoorZFI
import Derived.Test.YtgmdapgedlachaaGreatDoorZFC
import Derived.ProofKit
import Derived.LaidMore
import Derived.OpenShut
import Derived.HandedShaped
import Derived.LaidLaws
import Derived.Lib.LaidU8T
set_option linter.unusedVariables false
set_option linter.unusedSimpArgs false
set_option linter.unusedSectionVars false
namespace Go.Proofs.YtgmdapgedlachaaGreatDoor.X
open Go Go.RowKit
def aQ.wO (p : aQ) : List Int := p.ops.flatMap al.dQ ++ p.outs.map (·.reg)
structure gu (p : aQ) : Prop where
 nd : p.wO.Nodup
 rg : ∀ r ∈ p.wO, 0 ≤ r ∧ r < p.aE
theorem gu.out {p : aQ} (h : gu p) : (p.outs.map (·.reg)).Nodup ∧ ∀ r ∈ p.outs.map (·.reg), 0 ≤ r ∧ r < p.aE :=
 ⟨(List.nodup_append.1 h.nd).2.1, fun r hr => h.rg r (List.mem_append_right _ hr)⟩
theorem gu.step {p p' : aQ} (h : gu p) {U : List Int} (hops : p'.ops.flatMap al.dQ = p.ops.flatMap al.dQ ++ U) (hU : U.Nodup) (hUo : ∀ r ∈ U, r ∈ p.outs.map (·.reg) ∧ r ∉ p'.outs.map (·.reg)) (hO : (p'.outs.map (·.reg)).Nodup) (hOr : ∀ r ∈ p'.outs.map (·.reg), 0 ≤ r ∧ r < p'.aE)
  (hOs : ∀ r ∈ p'.outs.map (·.reg), r ∈ p.outs.map (·.reg) ∨ p.aE ≤ r) (hr : p.aE ≤ p'.aE) : gu p' := by
 have hn := List.nodup_append.1 h.nd
 have hlt : ∀ r ∈ p.ops.flatMap al.dQ, 0 ≤ r ∧ r < p.aE := fun r hr => h.rg r (List.mem_append_left _ hr)
 have hlo : ∀ r ∈ p.outs.map (·.reg), 0 ≤ r ∧ r < p.aE := fun r hr => h.rg r (List.mem_append_right _ hr)
 refine ⟨?_, ?_⟩
 ·unfold aQ.wO
  rw [hops]
  refine List.nodup_append.2 ⟨List.nodup_append.2 ⟨hn.1, hU, fun a ha b hb e => ?_⟩, hO, fun a ha b hb e => ?_⟩
  ·subst e; exact hn.2.2 a ha a (hUo a hb).1 rfl
  ·subst e
   rcases List.mem_append.1 ha with ha | ha
   ·rcases hOs a hb with h1 | h1
    ·exact hn.2.2 a ha a h1 rfl
    ·have := hlt a ha; omega
   ·exact (hUo a ha).2 hb
 ·intro r hr'
  unfold aQ.wO at hr'
  rw [hops] at hr'
  rcases List.mem_append.1 hr' with h1 | h1
  ·rcases List.mem_append.1 h1 with h1 | h1
   ·have := hlt r h1; omega
   ·have := hlo r (hUo r h1).1; omega
  ·exact hOr r h1
theorem cR {l : List Port} {y : Port} {r : Int} (h : r ∈ (bb l y).map (·.reg)) : r = y.reg ∨ r ∈ l.map (·.reg) := by
 obtain ⟨z, hz, rfl⟩ := List.mem_map.1 h
 rcases pC hz with rfl | hz
 ·exact .inl rfl
 ·exact .inr (List.mem_map_of_mem hz)
theorem cF {l : List Port} {n : aw} {r : Int} (h : r ∈ (aR l n).map (·.reg)) : r ∈ l.map (·.reg) := by
 obtain ⟨z, hz, rfl⟩ := List.mem_map.1 h
 exact List.mem_map_of_mem (List.mem_filter.1 hz).1
theorem sD {l : List Port} {n : aw} (h : 0 ≤ bl l n) : aJ l n ∈ l ∧ (aJ l n).f.name = n := by
 obtain ⟨i, hi, _, h2⟩ := kf (fun x : Port => x.f.name == n) l (by show ¬ bl l n < 0; omega)
 unfold aJ
 cases e : l.find? (fun x => x.f.name == n) with
 | none => exact absurd h2 (by simpa using List.find?_eq_none.1 e l[i] (List.getElem_mem hi))
 | some g => exact ⟨List.mem_of_find?_eq_some e, by simpa using List.find?_some e⟩
structure Used (p p' : aQ) (U : List Int) : Prop where
 ops : p'.ops.flatMap al.dQ = p.ops.flatMap al.dQ ++ U
 nd : U.Nodup
 out : ∀ r ∈ U, r ∈ p.outs.map (·.reg) ∧ r ∉ p'.outs.map (·.reg)
 new : ∀ r ∈ p'.outs.map (·.reg), r ∈ p.outs.map (·.reg) ∨ p.aE ≤ r
 rl : p.aE ≤ p'.aE
theorem gl (l : List al) (o : al) : (l ++ [o]).flatMap al.dQ = l.flatMap al.dQ ++ o.dQ := by rw [List.flatMap_append]; simp
theorem HV {w : fg} {x : aS} {k : Nat} {p : aQ} {m : aU} (W : oy w x k p) (F : Fit w.names p m) (hnm : (p.outs.map (fun y => y.f.name)).Nodup) (has : x.bk.all m.dh = true) :
  ∃ P' tl U, (w.step x).all = (w.all ++ tl).set k (bT P') ∧ (∀ q ∈ tl, gu q) ∧ Used p P' U := by
 have hk := (List.getElem?_eq_some_iff.1 W.pt).1
 have hgd : w.all.getD k bS = p := by rw [List.getD_eq_getElem?_getD, W.pt]; rfl
 have e : (w.step x).all = (au w.all k x).set k (bT ((au w.all k x).getD k bS)) := by
  show (au w.all (cW w.names x.msg) x).set (cW w.names x.msg) (bT ((au w.all (cW w.names x.msg) x).getD (cW w.names x.msg) bS)) = _
  rw [W.ix]
 have key : ∀ (all : List aQ) (P : aQ), k < all.length → (all.set k P).set k (bT ((all.set k P).getD k bS)) = all.set k (bT P) := fun all P h => by
  rw [List.getD_eq_getElem?_getD, List.getElem?_set_self h, List.set_set]; rfl
 have hport : m.dh x.field = true → aJ p.outs x.field ∈ p.outs ∧ (aJ p.outs x.field).f.name = x.field := fun h => by
  have hh := fT h
  obtain ⟨q1, _, q3⟩ := fq F.outs ⟨_, hh.1, hh.2⟩
  exact ⟨q1, q3⟩
 have hback : m.dh x.field = true → (aJ p.outs x.field).reg ∉ (aR p.outs x.field).map (·.reg) := fun h => by
  obtain ⟨q1, q3⟩ := hport h
  have := F.bX.back hnm q1
  rwa [q3] at this
 have hlt : ∀ r ∈ p.outs.map (·.reg), r < p.aE := fun r hr => by
  obtain ⟨y, hy, rfl⟩ := List.mem_map.1 hr
  exact (F.reg y hy).2
 by_cases h6 : x.kind = 6
 ·have hhas : m.dh x.field = true := by simpa [aS.bk, h6] using has
  obtain ⟨q1, q3⟩ := hport hhas
  refine ⟨{ p with ops := p.ops ++ [{ jb with kind := 4, a := (aJ p.outs x.field).reg, b := p.aE, part := w.all.length }], aE := p.aE + 1, outs := bb (aR p.outs x.field) ⟨{ eY with name := x.also, num := x.num, ty := 15, ref := x.dest }, p.aE, w.all.length⟩ }, [bT { bS with name := x.dest, born := true, aE := 1, ins := [{ aJ p.outs x.field with reg := 0 }], outs := [{ aJ p.outs x.field with reg := 0 }] }], [(aJ p.outs x.field).reg], ?_, ?_, ?_⟩
  ·rw [e]
   unfold au
   simp only [h6, if_true, hgd]
   exact key _ _ (by simp; omega)
  ·intro q hq
   rw [List.mem_singleton.1 hq]
   refine ⟨List.nodup_cons.2 ⟨by simp, List.nodup_nil⟩, fun r hr => ?_⟩
   have : r = 0 := by simpa [aQ.wO, bT, bS] using hr
   subst this
   exact ⟨by decide, by show (0 : Int) < 1; decide⟩
  ·refine ⟨gl _ _, by simp, fun r hr => ?_, fun r hr => ?_, by show p.aE ≤ p.aE + 1; omega⟩
   ·have hr : r = (aJ p.outs x.field).reg := by simpa using hr
    subst hr
    refine ⟨List.mem_map_of_mem q1, fun h => ?_⟩
    rcases cR h with h | h
    ·have := (F.reg _ q1).2
     have h : (aJ p.outs x.field).reg = p.aE := h
     omega
    ·exact hback hhas h
   ·rcases cR hr with h | h
    ·exact .inr (Int.le_of_eq h.symm)
    ·exact .inl (cF h)
 ·by_cases h7 : x.kind = 7
  ·have hhas : m.dh x.field = true := by simpa [aS.bk, h7] using has
   obtain ⟨q1, q3⟩ := hport hhas
   refine ⟨{ p with ops := p.ops ++ [{ jb with kind := 5, a := (aJ p.outs x.field).reg, b := p.aE, part := (aJ p.outs x.field).part }], aE := p.aE + 1, outs := bb (aR p.outs x.field) { ((w.all.getD (aJ p.outs x.field).part.toNat bS).outs.headD ft) with reg := p.aE } }, [], [(aJ p.outs x.field).reg], ?_, fun q hq => (by cases hq), ?_⟩
   ·rw [e, List.append_nil]
    unfold au
    simp only [h7, show ¬ (7 : Int) = 6 by decide, if_true, if_false, hgd]
    exact key _ _ hk
   ·refine ⟨gl _ _, by simp, fun r hr => ?_, fun r hr => ?_, by show p.aE ≤ p.aE + 1; omega⟩
    ·have hr : r = (aJ p.outs x.field).reg := by simpa using hr
     subst hr
     refine ⟨List.mem_map_of_mem q1, fun h => ?_⟩
     rcases cR h with h | h
     ·have := (F.reg _ q1).2
      have h : (aJ p.outs x.field).reg = p.aE := h
      omega
     ·exact hback hhas h
    ·rcases cR hr with h | h
     ·exact .inr (Int.le_of_eq h.symm)
     ·exact .inl (cF h)
  ·refine (fun ⟨U, hu⟩ => ⟨aP p x, [], U, by
    rw [e, List.append_nil]
    unfold au
    simp only [h6, h7, if_false, hgd]
    exact key _ _ hk, fun q hq => (by cases hq), hu⟩ : (∃ U, Used p (aP p x) U) → _) ?_
   have hkd := W.kd
   rcases show x.kind = 1 ∨ x.kind = 2 ∨ x.kind = 3 ∨ x.kind = 4 ∨ x.kind = 5 ∨ x.kind = 8 ∨ x.kind = 9 ∨ x.kind = 10 by omega with h | h | h | h | h | h | h | h
   ·have hhas : m.dh x.field = true := by simpa [aS.bk, h] using has
    obtain ⟨q1, q3⟩ := hport hhas
    rw [qT h]
    refine ⟨[], by simp, by simp, fun r hr => (by cases hr), fun r hr => .inl ?_, Int.le_refl _⟩
    rcases cR hr with h | h
    ·have h : r = (aJ p.outs x.field).reg := h
     rw [h]; exact List.mem_map_of_mem q1
    ·exact cF h
   ·have hhas : m.dh x.field = true := by simpa [aS.bk, h] using has
    obtain ⟨q1, q3⟩ := hport hhas
    rw [qS h]
    refine ⟨[], by simp, by simp, fun r hr => (by cases hr), fun r hr => .inl ?_, Int.le_refl _⟩
    rcases cR hr with h | h
    ·have h : r = (aJ p.outs x.field).reg := h
     rw [h]; exact List.mem_map_of_mem q1
    ·exact cF h
   ·have hhas : m.dh x.field = true := by simpa [aS.bk, h] using has
    obtain ⟨q1, q3⟩ := hport hhas
    rw [qR h]
    refine ⟨[], gl _ _, by simp, fun r hr => (by cases hr), fun r hr => .inl ?_, Int.le_refl _⟩
    rcases cR hr with h | h
    ·have h : r = (aJ p.outs x.field).reg := h
     rw [h]; exact List.mem_map_of_mem q1
    ·exact cF h
   ·have hhas : m.dh x.field = true := by simpa [aS.bk, h] using has
    obtain ⟨q1, q3⟩ := hport hhas
    rw [qQ h]
    refine ⟨[(aJ p.outs x.field).reg], gl _ _, by simp, fun r hr => ?_, fun r hr => ?_, by show p.aE ≤ p.aE + 2; omega⟩
    ·have hr : r = (aJ p.outs x.field).reg := by simpa using hr
     subst hr
     have hq := (F.reg _ q1).2
     refine ⟨List.mem_map_of_mem q1, fun h => ?_⟩
     rcases cR h with h | h
     ·have h : (aJ p.outs x.field).reg = p.aE + 1 := h
      omega
     ·rcases cR h with h | h
      ·have h : (aJ p.outs x.field).reg = p.aE := h
       omega
      ·exact hback hhas h
    ·rcases cR hr with h | h
     ·have h : r = p.aE + 1 := h
      exact .inr (by omega)
     ·rcases cR h with h | h
      ·have h : r = p.aE := h
       exact .inr (by omega)
      ·exact .inl (cF h)
   ·have hhas : m.dh x.field = true ∧ m.dh x.also = true := by simpa [aS.bk, h] using has
    obtain ⟨q1, q3⟩ := hport hhas.1
    have hB := hback hhas.1
    have ha : 0 ≤ bl (aR p.outs x.field) x.also := W.h5 h
    have q4 : aJ (aR p.outs x.field) x.also ∈ aR p.outs x.field := (sD ha).1
    have q5 : (aJ (aR p.outs x.field) x.also).f.name = x.also := (sD ha).2
    have hB2 : (aJ (aR p.outs x.field) x.also).reg ∉ (aR (aR p.outs x.field) x.also).map (·.reg) := by
     have := (F.bX.fV x.field).back (by exact (List.Sublist.map _ List.filter_sublist).nodup hnm) q4
     rwa [q5] at this
    have q6 : (aJ (aR p.outs x.field) x.also).reg ∈ (aR p.outs x.field).map (·.reg) := List.mem_map_of_mem q4
    rw [qP h]
    refine ⟨[(aJ p.outs x.field).reg, (aJ (aR p.outs x.field) x.also).reg], gl _ _, ?_, fun r hr => ?_, fun r hr => ?_, by show p.aE ≤ p.aE + 1; omega⟩
    ·refine List.nodup_cons.2 ⟨fun h => ?_, by simp⟩
     have h := List.mem_singleton.1 h
     rw [h] at hB
     exact hB q6
    ·have hin : r ∈ p.outs.map (·.reg) ∧ r ∉ (aR (aR p.outs x.field) x.also).map (·.reg) := by
      rcases List.mem_cons.1 hr with rfl | hr
      ·exact ⟨List.mem_map_of_mem q1, fun h => hB (cF h)⟩
      ·rw [List.mem_singleton.1 hr]
       exact ⟨cF q6, hB2⟩
     refine ⟨hin.1, fun h => ?_⟩
     rcases cR h with h | h
     ·have := hlt r hin.1
      have h : r = p.aE := h
      omega
     ·exact hin.2 h
    ·rcases cR hr with h | h
     ·have h : r = p.aE := h
      exact .inr (by omega)
     ·exact .inl (cF (cF h))
   ·rw [BG h]
    refine ⟨[], gl _ _, by simp, fun r hr => (by cases hr), fun r hr => .inl ?_, Int.le_refl _⟩
    obtain ⟨y, hy, rfl⟩ := List.mem_map.1 hr
    obtain ⟨z, hz, rfl⟩ := List.mem_map.1 (show y ∈ p.outs.map _ from hy)
    rw [u1]
    exact List.mem_map_of_mem hz
   ·rw [BF h]
    refine ⟨[], gl _ _, by simp, fun r hr => (by cases hr), fun r hr => ?_, by show p.aE ≤ p.aE + 1; omega⟩
    rcases cR hr with h | h
    ·have h : r = p.aE := h
     exact .inr (by omega)
    ·exact .inl h
   ·rw [vj h]
    exact ⟨[], by simp, by simp, fun r hr => (by cases hr), fun r hr => .inl (cF hr), Int.le_refl _⟩
theorem gu.fB {p : aQ} (h : gu p) : gu (bT p) := ⟨h.nd, h.rg⟩
def y7 (w : fg) : Prop := ∀ p ∈ w.all, gu p
theorem y7.step {s t : aL} {x : aS} {m : aU} {at_ : Nat} {w : fg} (L : y7 w) (I : Inv s w) (A : c4 s x t m at_) (I' : Inv t (w.step x)) : y7 (w.step x) := by
 obtain ⟨k, p, W⟩ := rE I A
 obtain ⟨k2, p2, k3, S⟩ := I.vJ A
 have hm : m ∈ s.msgs := List.mem_of_getElem? A.eq
 have hne : m.name ≠ [] := gy (A.iV.nm m hm)
 have hkk : k2 = k := W.un k2 (by rw [S.nm, A.nm])
 subst hkk
 have hpp : p2 = p := by have := S.at_; rw [W.pt] at this; exact (Option.some.inj this).symm
 subst hpp
 have F := S.fit
 have hnm : (p2.outs.map (fun y => y.f.name)).Nodup := by
  have : p2.outs.map (fun y => y.f.name) = (p2.outs.map (·.f)).map (·.name) := by rw [List.map_map]; rfl
  rw [this, F.outs]; exact A.iV.fn m hm
 obtain ⟨P', tl, U, e, ht, u⟩ := HV W F hnm A.has
 have hk := (List.getElem?_eq_some_iff.1 W.pt).1
 obtain ⟨m', hm', e', p3, h3, F3⟩ := I'.live S.nm' hne
 have h4 : (w.step x).all[k2]? = some (bT P') := by rw [e, List.getElem?_set_self (by simp; omega)]
 rw [h4] at h3
 cases h3
 have hl : gu P' := (L p2 (List.mem_of_getElem? W.pt)).step u.ops u.nd u.out F3.dist (fun r hr => by
  obtain ⟨y, hy, rfl⟩ := List.mem_map.1 hr
  exact F3.reg y hy) u.new u.rl
 intro q hq
 rw [e] at hq
 rcases jV hq with rfl | hq
 ·exact hl.fB
 ·rcases List.mem_append.1 hq with h | h
  ·exact L q h
  ·exact ht q h
theorem uo : ∀ {l : List aS} {s : aL} {acc L : List aL} {w : fg}, Inv s w → y7 w → aL.dy l s acc = .ok L → y7 (l.foldl fg.step w)
 | [], s, acc, L, w, I, F, h => F
 | x :: l, s, acc, L, w, I, F, h => by
  unfold aL.dy at h
  cases e : s.apply x with
  | error k => rw [e] at h; cases h
  | ok t =>
   rw [e] at h
   have I' := I.step e
   obtain ⟨m, at_, A⟩ := gq e
   have := uo I' (F.step I A I') h
   exact this
theorem y7.begin {s : aL} (I : Inv s (iI s)) : y7 (iI s) := fun p hp => by
 obtain ⟨m, hm, rfl⟩ := List.mem_map.1 (show p ∈ s.msgs.map fun m => bT { bS with name := m.name, ins := bG s m, outs := bG s m, aE := m.fields.length } from hp)
 have he : ∀ r ∈ (bG s m).map (·.reg), 0 ≤ r ∧ r < (m.fields.length : Int) := fun r hr => by
  obtain ⟨y, hy, rfl⟩ := List.mem_map.1 hr
  unfold bG at hy
  obtain ⟨⟨f, i⟩, hfi, rfl⟩ := List.mem_map.1 hy
  have := (List.mem_zipIdx hfi).2.1
  exact ⟨Int.natCast_nonneg _, by show (i : Int) < _; omega⟩
 have hn : ((bG s m).map (·.reg)).Nodup := by
  have : (bG s m).map (·.reg) = (List.range m.fields.length).map (fun i : Nat => (i : Int)) := by
   unfold bG
   rw [List.map_map]
   refine List.ext_getElem (by simp) fun i h1 h2 => ?_
   simp [kD]
  rw [this]
  exact List.pairwise_map.2 (List.nodup_range.imp fun h e => h (Int.ofNat.inj e))
 exact ⟨by show (([] : List Int) ++ (bG s m).map (fun y : Port => y.reg)).Nodup; rw [List.nil_append]; exact hn, fun r hr => he r (by simpa [aQ.wO, bT, bS] using hr)⟩
theorem Jf {s : aL} {l : List aS} {L : List aL} (h : s.all l = .ok L) : ∀ p ∈ lower s l, gu p := by
 unfold aL.all at h
 split at h
 ·cases h
 rename_i h1
 split at h
 ·cases h
 have hs := aL.gI (s := s) (by simpa using h1)
 exact uo (Inv.begin hs) (y7.begin (Inv.begin hs)) h
theorem o9 {l : List al} {i : Nat} {x : al} {r : Int} (h : l[i]? = some x) (hr : r ∈ x.dQ) : r ∈ l.flatMap al.dQ := List.mem_flatMap.2 ⟨x, List.mem_of_getElem? h, hr⟩
theorem tD : ∀ {l : List al} {i j : Nat} {x y : al} {r : Int}, (l.flatMap al.dQ).Nodup → l[i]? = some x → l[j]? = some y → r ∈ x.dQ → r ∈ y.dQ → i = j
 | [], i, j, x, y, r, _, h, _, _, _ => by simp at h
 | z :: l, i, j, x, y, r, hn, hi, hj, hx, hy => by
  rw [List.flatMap_cons] at hn
  have hn := List.nodup_append.1 hn
  cases i with
  | zero =>
   cases j with
   | zero => rfl
   | succ j =>
    simp at hi hj; subst hi
    exact absurd rfl (hn.2.2 r hx r (o9 hj hy))
  | succ i =>
   cases j with
   | zero =>
    simp at hi hj; subst hj
    exact absurd rfl (hn.2.2 r hy r (o9 hi hx))
   | succ j =>
    have := tD (l := l) (i := i) (j := j) (x := x) (y := y) hn.2.1 (by simpa using hi) (by simpa using hj) hx hy
    rw [this]
theorem xy {a : List Int} : ∀ {l : List al} {i : Nat} {z : al}, z ∈ eW a i l → ∃ j, l[j]? = some z ∧ pa a ((i + j : Nat) : Int) = false
 | [], i, z, h => by simp [eW] at h
 | x :: l, i, z, h => by
  rw [eW] at h
  have key : z ∈ eW a (i + 1) l → ∃ j, (x :: l)[j]? = some z ∧ pa a ((i + j : Nat) : Int) = false := fun h => by
   obtain ⟨j, h1, h2⟩ := xy (l := l) h
   exact ⟨j + 1, by simpa using h1, by rw [show i + (j + 1) = i + 1 + j from by omega]; exact h2⟩
  split at h
  ·exact key h
  ·rename_i hn
   rcases List.mem_cons.1 h with rfl | h
   ·exact ⟨0, rfl, by simpa using hn⟩
   ·exact key h
theorem GQ {l m : List al} (h : l.Sublist m) : (l.flatMap al.dQ).Sublist (m.flatMap al.dQ) := by
 induction h with
 | slnil => exact List.Sublist.refl _
 | cons a h ih => rw [List.flatMap_cons]; exact ih.trans (List.sublist_append_right _ _)
 | cons_cons a h ih => rw [List.flatMap_cons, List.flatMap_cons]; exact (List.Sublist.refl _).append ih
theorem gu.drop {p : aQ} (h : gu p) (a : List Int) : gu (p.drop a) := by
 have hs : (p.drop a).wO.Sublist p.wO := (GQ (dx a p.ops 0)).append (List.Sublist.refl _)
 exact ⟨hs.nodup h.nd, fun r hr => h.rg r (hs.mem hr)⟩
theorem gu.free {p : aQ} (h : gu p) {a : List Int} {i : Nat} {x : al} {r : Int} (hx : p.ops[i]? = some x) (hi : pa a (i : Int) = true) (hr : r ∈ x.dQ) : r ∉ (p.drop a).wO ∧ 0 ≤ r ∧ r < p.aE := by
 have hn := List.nodup_append.1 h.nd
 refine ⟨fun hm => ?_, h.rg r (List.mem_append_left _ (o9 hx hr))⟩
 rcases List.mem_append.1 hm with hm | hm
 ·obtain ⟨z, hz, hrz⟩ := List.mem_flatMap.1 hm
  obtain ⟨j, h1, h2⟩ := xy (show z ∈ eW a 0 p.ops from hz)
  have := tD hn.1 hx h1 hr hrz
  subst this
  rw [Nat.zero_add, hi] at h2; cases h2
 ·exact hn.2.2 r (o9 hx hr) r hm rfl
theorem EO (u v : Int) (x : al) : (x.cO u v).dQ = x.dQ.map (pA u v) := by
 obtain ⟨k, a, b, c, src, dst, lo, hi, part, aE, dv⟩ := x
 by_cases h1 : k = 1
 ·subst h1; rfl
 by_cases h7 : k = 7
 ·subst h7; rfl
 by_cases h4 : k = 4
 ·subst h4; rfl
 by_cases h5 : k = 5
 ·subst h5; rfl
 by_cases h6 : k = 6
 ·subst h6; rfl
 simp only [al.cO, al.clean, al.dQ, h1, h7, h4, h5, h6, or_self, if_false, or_false]
 by_cases h2 : k = 2
 ·simp [h2]
 ·by_cases h3 : k = 3
  ·simp [h2, h3]
  ·simp [h2, h3]
theorem vU (u v : Int) (p : aQ) : (p.cO u v).wO = p.wO.map (pA u v) := by
 unfold aQ.wO aQ.cO
 rw [List.map_append, List.map_flatMap, List.flatMap_map, List.map_map, List.map_map]
 congr 1
 congr 1
 funext x
 exact EO u v x
theorem gu.cO {p : aQ} (h : gu p) {u v : Int} (hv : v ∉ p.wO) (h0 : 0 ≤ v ∧ v < p.aE) : gu (p.cO u v) := by
 refine ⟨?_, fun r hr => ?_⟩
 ·rw [vU]
  refine List.pairwise_map.2 (h.nd.imp_of_mem fun {a b} ha hb hab e => ?_)
  unfold pA at e
  split at e <;> split at e
  ·rename_i h1 h2; exact hab (h1.trans h2.symm)
  ·exact hv (e ▸ hb)
  ·exact hv (e ▸ ha)
  ·exact hab e
 ·rw [vU] at hr
  obtain ⟨a, ha, rfl⟩ := List.mem_map.1 hr
  show 0 ≤ pA u v a ∧ pA u v a < p.aE
  unfold pA
  split
  ·exact h0
  ·exact h.rg a ha
theorem ER {p : aQ} {u v r : Int} (h : r ∉ p.wO) (hr : r ≠ v) : r ∉ (p.cO u v).wO := fun hm => by
 rw [vU] at hm
 obtain ⟨a, ha, e⟩ := List.mem_map.1 hm
 unfold pA at e
 split at e
 ·exact hr e.symm
 ·subst e; exact h ha
structure tb (p q : aQ) : Prop where
 outs : q.outs.map (fun y => (y.f, y.part)) = p.outs.map (fun y => (y.f, y.part))
theorem tb.cO {p q : aQ} (h : tb p q) (u v : Int) : tb p (q.cO u v) := ⟨by
 rw [← h.outs]
 show (q.outs.map (Port.cO u v)).map _ = _
 rw [List.map_map]; rfl⟩
theorem yx {all : List aQ} {p q : aQ} (h : jL all p = some q) (L : gu p) : gu q ∧ tb p q := by
 obtain ⟨i, x, h1, h2⟩ := eA h
 rw [Nat.zero_add] at h2
 split at h2
 ·cases h2; exact ⟨L.drop _, ⟨rfl⟩⟩
 ·obtain ⟨k, y, h3, h4⟩ := eA h2
  have hy : p.ops[i + 1 + k]? = some y := by rw [List.getElem?_drop] at h3; exact h3
  unfold gD at h4
  split at h4
  ·rename_i hk
   cases h4
   have L2 : gu { p with ops := p.ops.set i (mU x y) } := by
    have e : ({ p with ops := p.ops.set i (mU x y) } : aQ).wO = p.wO := by
     unfold aQ.wO
     congr 1
     show (p.ops.set i (mU x y)).flatMap al.dQ = _
     rw [List.flatMap_def, List.flatMap_def, List.map_set]
     congr 1
     refine List.ext_getElem? fun j => ?_
     rw [List.getElem?_set]
     split
     ·rename_i e; subst e
      split
      ·rw [List.getElem?_map, h1]; rfl
      ·rename_i hn; rw [List.length_map] at hn; rw [List.getElem?_eq_none (by simp; omega)]
     ·rfl
    exact ⟨by rw [e]; exact L.nd, fun r hr => L.rg r (by rw [← e]; exact hr)⟩
   exact ⟨L2.drop _, ⟨rfl⟩⟩
  ·split at h4
   ·rename_i hk
    cases h4
    obtain ⟨f1, f2⟩ := L.free (a := [(i : Int), ((i + 1 + k : Nat) : Int)]) h1 (ew _ _) (show x.a ∈ x.dQ by simp [al.dQ, hk.1])
    exact ⟨(L.drop _).cO f1 f2, tb.cO (p := p) (q := p.drop _) ⟨rfl⟩ _ _⟩
   ·split at h4
    ·rename_i hk
     cases h4
     have hu : x.dQ = [x.a, x.b] := by unfold al.dQ; rw [hk.1]; rfl
     obtain ⟨f1, f2⟩ := L.free (a := [(i : Int), ((i + 1 + k : Nat) : Int)]) h1 (ew _ _) (show x.a ∈ x.dQ by rw [hu]; simp)
     obtain ⟨g1, g2⟩ := L.free (a := [(i : Int), ((i + 1 + k : Nat) : Int)]) h1 (ew _ _) (show x.b ∈ x.dQ by rw [hu]; simp)
     have hne : x.b ≠ x.a := fun e => by
      have hn := (List.nodup_append.1 L.nd).1
      have : x.dQ.Sublist (p.ops.flatMap al.dQ) := List.sublist_flatten_of_mem (List.mem_map_of_mem (List.mem_of_getElem? h1))
      have := this.nodup hn
      rw [hu, e] at this
      simp at this
     exact ⟨((L.drop _).cO f1 f2).cO (ER g1 hne) g2, (tb.cO (p := p) (q := p.drop _) ⟨rfl⟩ _ _).cO _ _⟩
    ·split at h4
     ·rename_i hk
      cases h4
      obtain ⟨f1, f2⟩ := L.free (a := [(i : Int), ((i + 1 + k : Nat) : Int)]) h1 (ew _ _) (show x.a ∈ x.dQ by unfold al.dQ; rw [hk.1]; simp)
      exact ⟨(L.drop _).cO f1 f2, tb.cO (p := p) (q := p.drop _) ⟨rfl⟩ _ _⟩
     ·cases h4
open Go Go.RowKit Go.Proofs
structure m4 (p q : aQ) : Prop where
 ins : q.ins = p.ins
 aE : q.aE = p.aE
 same : q.outs.map (fun y => (y.f, y.part)) = p.outs.map (fun y => (y.f, y.part))
 lin : gu q
structure qA (l r : List aQ) : Prop where
 len : r.length = l.length
 at_ : ∀ (i : Nat) q, r[i]? = some q → ∃ p, l[i]? = some p ∧ m4 p q
theorem GH : ∀ (n : Nat) {l : List aQ}, (∀ p ∈ l, gu p) → qA l (la n l)
 | 0, l, h => ⟨rfl, fun i q hq => ⟨q, hq, rfl, rfl, rfl, h q (List.mem_of_getElem? hq)⟩⟩
 | n + 1, l, h => by
  rw [la]
  cases e : iR l with
  | none => exact ⟨rfl, fun i q hq => ⟨q, hq, rfl, rfl, rfl, h q (List.mem_of_getElem? hq)⟩⟩
  | some r =>
   obtain ⟨i, p, q, h1, h2, h3, rfl⟩ := qK e
   obtain ⟨h4, h5⟩ := yx h2 (h p (List.mem_of_getElem? h1))
   have hr : ∀ p' ∈ l.set i q, gu p' := fun p' hp' => by
    rcases List.mem_or_eq_of_mem_set hp' with h6 | rfl
    ·exact h p' h6
    ·exact h4
   have F := GH n hr
   refine ⟨by rw [F.len, List.length_set], fun j z hz => ?_⟩
   obtain ⟨y, hy, G⟩ := F.at_ j z hz
   rw [List.getElem?_set] at hy
   split at hy
   ·rename_i e2; subst e2
    split at hy
    ·cases hy
     exact ⟨p, h1, G.ins.trans h3.ins, G.aE.trans h3.aE, G.same.trans h5.outs, G.lin⟩
    ·cases hy
   ·exact ⟨y, hy, G⟩
theorem GG {l : List aQ} (h : ∀ p ∈ l, gu p) : qA l (sx l) := GH _ h
theorem m4.port {p q : aQ} (h : m4 p q) {x : Port} (hx : x ∈ q.outs) : ∃ y ∈ p.outs, y.f = x.f ∧ y.part = x.part := by
 have : (x.f, x.part) ∈ p.outs.map (fun y => (y.f, y.part)) := by rw [← h.same]; exact List.mem_map_of_mem (f := fun y : Port => (y.f, y.part)) hx
 obtain ⟨y, hy, e⟩ := List.mem_map.1 this
 obtain ⟨e1, e2⟩ := Prod.mk.inj e
 exact ⟨y, hy, e1, e2⟩
theorem m4.NV {p q : aQ} (h : m4 p q) {x : Port} (hx : x ∈ q.outs) : 0 ≤ x.reg ∧ x.reg < q.aE := h.lin.out.2 _ (List.mem_map_of_mem hx)
theorem m4.eL {p q : aQ} (h : m4 p q) : q.outs.map (·.f) = p.outs.map (·.f) := by
 have := congrArg (List.map Prod.fst) h.same
 simpa [List.map_map, Function.comp_def] using this
theorem qA.parts {ps rs : List aQ} (F : qA ps rs) (h : gO ps) : gO rs := by
 have key : ∀ q ∈ rs, ∃ p ∈ ps, m4 p q := fun q hq => by
  obtain ⟨i, hi⟩ := List.mem_iff_getElem?.1 hq
  obtain ⟨p, hp, G⟩ := F.at_ i q hi
  exact ⟨p, List.mem_of_getElem? hp, G⟩
 refine ⟨by rw [F.len]; exact h.len, fun q hq => ?_, fun q hq => ?_, fun q hq x hx => ?_⟩
 ·obtain ⟨p, hp, G⟩ := key q hq
  have h1 := h.sides p hp
  have h2 : q.outs.length = p.outs.length := by simpa using congrArg List.length G.same
  rw [G.ins, h2]; exact h1
 ·obtain ⟨p, hp, G⟩ := key q hq
  rw [G.aE]; exact h.aE p hp
 ·obtain ⟨p, hp, G⟩ := key q hq
  rw [F.len]
  rcases List.mem_append.1 hx with hx | hx
  ·have := h.bX p hp x (List.mem_append_left _ (by rw [← G.ins]; exact hx))
   rw [G.aE]; exact this
  ·obtain ⟨y, hy, _, e⟩ := G.port hx
   have := h.bX p hp y (List.mem_append_right _ hy)
   have h3 := G.NV hx
   exact ⟨h3.1, h3.2, by rw [← e]; exact this.2.2⟩
theorem qA.Jr {ps rs : List aQ} (F : qA ps rs) {bh : Bool} {s : aL} {St : Nat → aU → Prop} (S : eN ps bh s St) : eN rs bh s St := by
 refine ⟨S.mem, fun k m hk => ?_⟩
 obtain ⟨p, h1, h2, h3, h4, h5⟩ := S.at_ k m hk
 have hl := (List.getElem?_eq_some_iff.1 h1).1
 obtain ⟨q, hq⟩ : ∃ q, rs[k]? = some q := ⟨_, List.getElem?_eq_getElem (by rw [F.len]; exact hl)⟩
 obtain ⟨p', hp', G⟩ := F.at_ k q hq
 rw [h1] at hp'; cases hp'
 refine ⟨q, hq, ?_⟩
 cases bh with
 | false =>
  have e : q.side false = p.side false := G.ins
  rw [e, G.aE]
  exact ⟨h2, h3, h4, h5⟩
 | true =>
  refine ⟨G.eL.trans h2, fun x hx => G.NV hx, G.lin.out.1, fun x hx => ?_⟩
  obtain ⟨y, hy, e1, e2⟩ := G.port hx
  have := h5 y hy
  rw [e1, e2] at this
  exact this
set_option maxRecDepth 100000
def E8 (s : aL) (l : List aS) : Except Int (List aL) → AV
 | .ok L => .tup [cA (sx (lower s l)), (L.getD l.length oG).av, .bool true]
 | .error _ => .tup [.agg [.sl []], oG.av, .bool false]
theorem rq (s : aL) (l : List aS) (hs : s.eK) (hb : ∀ x ∈ l, x.eK ∧ x.names.length ≤ 1000) (hd : ∀ x ∈ l, x.dv.s.length ≤ 140737488355328) (hl : l.length ≤ 9223372036854775807) : Pure Tryz.prog 9 [kL s l, .bool true] (E8 s l (s.all l)) := by
 have e0 : kL s l = .agg [.sl (s.enums.map eQ.av), .sl (s.msgs.map aU.av), .sl (l.map aS.av)] := rfl
 refine Pure.go II mixed Tryz.func9 rfl rfl fun H => ?_
 cases hp1 : s.all l with
 | ok x1 =>
  refine aB.jc rfl (Fn rfl) rfl (xD hs hb hl hp1) (aB.jc rfl (Fn rfl) rfl (ry hs hb hl hp1) (aB.jc rfl (Fn rfl) rfl (LC _ (oj hp1 fun x hx => ⟨(hb x hx).2, hd x hx⟩).ne (by have := (oj hp1 fun x hx => ⟨(hb x hx).2, hd x hx⟩).len; omega) (oj hp1 fun x hx => ⟨(hb x hx).2, hd x hx⟩).pb (oj hp1 fun x hx => ⟨(hb x hx).2, hd x hx⟩).fb) ?_))
  exact ⟨rfl, (aF.d1 rfl (bP (aH rfl) GA rfl rfl (JT hp1) rfl) (⟨by kernel_rfl, ⟨.inr rfl, (aM.r3 rfl (.cell kF rfl rfl rfl rfl (.cell gb rfl rfl rfl rfl (.tmp rfl .nil)))).cast rfl, rfl⟩⟩))⟩
 | error e1 =>
  exact aB.jc rfl (Fn rfl) rfl (xE hs hb hl hp1) (xz (by simpa using yV hp1) ⟨.inr rfl, (aM.r3 rfl (.cell kF rfl rfl rfl rfl (.cell gb rfl rfl rfl rfl (.tmp rfl .nil)))).cast rfl, rfl⟩)
section
variable {s : aL} {l : List aS} {L : List aL} {e : Int} (hc : m5 s l) (hsm : iQ l = true)
include hc hsm
theorem PY (h : s.all l = .ok L) : Pure Tryz.prog 9 [kL s l, .bool true] (.tup [cA (sx (lower s l)), (L.getD l.length oG).av, .bool true]) := by
 have := rq s l hc.s.eK (hc.steps hsm) (fun x hx => (hc.b x hx).s) (by have := (oA hsm).1; omega)
 rw [h] at this; exact this
theorem PZ (h : s.all l = .error e) : Pure Tryz.prog 9 [kL s l, .bool true] (.tup [.agg [.sl []], oG.av, .bool false]) := by
 have := rq s l hc.s.eK (hc.steps hsm) (fun x hx => (hc.b x hx).s) (by have := (oA hsm).1; omega)
 rw [h] at this; exact this
end
theorem va (s : aL) (l : List aS) (hc : m5 s l) (t u : Tree) (ht : t.fits) (hu : u.fits) (H : Hp) : HB Tryz.prog 4 [kL s l, .agg t.cells, .agg u.cells] H (.bool true) := by
 have e0 : kL s l = .agg [.sl (s.enums.map eQ.av), .sl (s.msgs.map aU.av), .sl (l.map aS.av)] := rfl
 refine HB.ah Tryz.func4 rfl rfl (aH rfl) (aK.go II mixed (aB.jc rfl (Fn rfl) rfl (C0 s l t u hc ht.eK hu.eK) (aC (fun hc1 => ?_) (fun hc1 => ?_))))
 ·exact aB.jc rfl (Fn rfl) rfl sI ⟨.inr rfl, (aM.r1 rfl (.tmp rfl .nil)).cast rfl⟩
 ·have hsm : iQ l = true ∧ t.small = true ∧ u.small = true := by simp [gp] at hc1; exact ⟨hc1.2.2, hc1.1⟩
  obtain ⟨hsm, hts, hus⟩ := hsm
  have hlt := qH hts ht
  have hlu := qH hus hu
  cases hp1 : s.all l with
  | ok x1 =>
   obtain ⟨m0, m1, C⟩ := J8 hp1 (oA hsm).1
   obtain ⟨St, S1, R1⟩ := C.outS
   have FL := GG (Jf hp1)
   refine aB.jc rfl (Fn rfl) rfl (PY hc hsm hp1) (aB.jc rfl (Fn rfl) rfl (Au _ (FL.parts C.parts) false s C.iV _ (FL.Jr C.inS) m0 C.hd0 (by rw [← List.head?_eq_getElem?]; exact C.hd0) t hlt ht.eK) ?_)
   exact aB.jc rfl (Fn rfl) rfl (Au _ (FL.parts C.parts) true _ C.FQ St (FL.Jr S1) m1 C.hd1 R1 u hlu hu.eK) (aB.jc rfl (Fn rfl) rfl sI ⟨.inr rfl, (aM.r1 rfl (.tmp rfl .nil)).cast rfl⟩)
  | error e1 =>
   exact aB.jc rfl (Fn rfl) rfl (PZ hc hsm hp1) (aB.jc rfl (Fn rfl) rfl sI ⟨.inr rfl, (aM.r1 rfl (.tmp rfl .nil)).cast rfl⟩)
section
variable {P : Program} {n : Nat} {t e : TypeId} {acs : List AV}
theorem gX {k : IntKind} (hu : P.underlying t = some (.int k)) (h : Ty P n t acs) : ∃ m, acs = [.int k m] ∧ (Lit.int k m).wf = true := by
 cases n with
 | zero => exact h.elim
 | succ n => unfold Ty at h; rw [hu] at h; exact h
theorem A4 (hu : P.underlying t = some .bool) (h : Ty P n t acs) : ∃ b, acs = [.bool b] := by
 cases n with
 | zero => exact h.elim
 | succ n => unfold Ty at h; rw [hu] at h; exact h
theorem gW (hu : P.underlying t = some .string) (h : Ty P n t acs) : ∃ s : aw, acs = [.str s] ∧ s.length ≤ 140737488355328 := by
 cases n with
 | zero => exact h.elim
 | succ n => unfold Ty at h; rw [hu] at h; obtain ⟨s, h1, h2⟩ := h; exact ⟨s, h1, by unfold reachBytes at h2; omega⟩
theorem eZ (hu : P.underlying t = some (.slice e)) (hb : 1 ≤ P.bytesOf e) (h : Ty P n t acs) : ∃ (k : Nat) (css : List (List AV)), k < n ∧ acs = [.sl (css.map (pack P e))] ∧ css.length ≤ 140737488355328 ∧ ∀ c ∈ css, Ty P k e c := by
 cases n with
 | zero => exact h.elim
 | succ n =>
  unfold Ty at h; rw [hu] at h
  obtain ⟨css, h1, h2, h3⟩ := h
  refine ⟨n, css, by omega, h1, ?_, h3⟩
  have : css.length * 1 ≤ css.length * P.bytesOf e := Nat.mul_le_mul_left _ hb
  unfold reachBytes at h2
  omega
theorem dp {fs : Array Field} (hu : P.underlying t = some (.struct fs)) (h : Ty P n t acs) : ∃ k, k < n ∧ Jh P (Ty P k) (fs.toList.map (·.type)) acs := by
 cases n with
 | zero => exact h.elim
 | succ n => unfold Ty at h; rw [hu] at h; exact ⟨n, by omega, h⟩
theorem an {R : TypeId → List AV → Prop} {t : TypeId} {ts : List TypeId} (h : Jh P R (t :: ts) acs) : ∃ a b, acs = a ++ b ∧ R t a ∧ Jh P R ts b := by
 obtain ⟨a, b, h1, _, h3, h4⟩ := h; exact ⟨a, b, h1, h3, h4⟩
theorem gB {R : TypeId → List AV → Prop} (h : Jh P R [] acs) : acs = [] := h
theorem cf {fs : Array Field} (hu : P.underlying t = some (.struct fs)) (cs : List AV) : pack P t cs = .agg cs := by unfold pack; rw [hu]
theorem fa {α : Type} {f : α → List AV} {Q : α → Prop} : ∀ {css : List (List AV)}, (∀ c ∈ css, ∃ x : α, c = f x ∧ Q x) → ∃ xs : List α, css = xs.map f ∧ ∀ x ∈ xs, Q x
 | [], _ => ⟨[], rfl, by simp⟩
 | c :: css, h => by
  obtain ⟨x, h1, h2⟩ := h c (by simp)
  obtain ⟨xs, h3, h4⟩ := fa (css := css) fun c hc => h c (by simp [hc])
  exact ⟨x :: xs, by simp [h1, h3], by intro y hy; rcases List.mem_cons.1 hy with rfl | hy; exact h2; exact h4 y hy⟩
end
theorem eh {α : Type} {P : Program} {t : TypeId} {f : α → List AV} {g : α → AV} (h : ∀ x, pack P t (f x) = g x) (xs : List α) : (xs.map f).map (pack P t) = xs.map g := by
 rw [List.map_map]; congr 1; funext x; exact h x
theorem Jo {m : Int} (h : (Lit.int .u64 m).wf = true) : ∃ k : Nat, m = (k : Int) ∧ k < 18446744073709551616 := by
 have : 0 ≤ m ∧ m ≤ 18446744073709551615 := by simpa [Lit.wf, IntKind.min, IntKind.max, IntKind.signed, IntKind.bits] using h
 exact ⟨m.toNat, by omega, by omega⟩
abbrev TY := Ty Tryz.prog
theorem LY (m : Int) : pack Tryz.prog 3 [.int .i64 m] = eJ m := by unfold pack; rw [Tryz.underlying3]; rfl
theorem K9 {n : Nat} {acs : List AV} (h : TY n 130 acs) : ∃ f : Rw, acs = f.cells ∧ f.s.length ≤ 140737488355328 ∧ f.n < 18446744073709551616 := by
 obtain ⟨k, _, h⟩ := dp Tryz.underlying130 h
 obtain ⟨a1, b1, rfl, h1, wa1⟩ := an h; obtain ⟨s1, rfl, _⟩ := gX Tryz.underlying3 h1
 obtain ⟨a2, b2, rfl, h1, wa2⟩ := an wa1; obtain ⟨s2, rfl, _⟩ := gX Tryz.underlying3 h1
 obtain ⟨a3, b3, rfl, h1, wa3⟩ := an wa2; obtain ⟨s3, rfl, w3⟩ := gX Tryz.underlying79 h1
 obtain ⟨a4, b4, rfl, h1, wa4⟩ := an wa3; obtain ⟨s4, rfl, w4⟩ := gW Tryz.underlying9 h1
 obtain rfl := gB wa4
 obtain ⟨k3, rfl, hk⟩ := Jo w3
 exact ⟨⟨s1, s2, k3, s4⟩, rfl, w4, hk⟩
theorem LW (f : Rw) : pack Tryz.prog 130 f.cells = f.av := cf Tryz.underlying130 _
theorem LS (f : bF) : pack Tryz.prog 81 f.cells = f.av := by rw [cf Tryz.underlying81, bF.bC]
theorem I5 (f : Slot) : pack Tryz.prog 78 f.cells = f.av := by rw [cf Tryz.underlying78, Slot.bC]
theorem I4 (f : Tree) : pack Tryz.prog 32 f.cells = f.av := by rw [cf Tryz.underlying32, Tree.bC]
def bF.fits (v : bF) : Prop := v.n < 18446744073709551616 ∧ v.s.length ≤ 140737488355328 ∧ v.m.length ≤ 140737488355328 ∧ ∀ u ∈ v.m, u.fits
def Slot.fits (x : Slot) : Prop := x.ag.length ≤ 140737488355328 ∧ ∀ v ∈ x.ag, v.fits
theorem Dp {n : Nat} {acs : List AV} (ih : ∀ k < n, ∀ acs, TY k 32 acs → ∃ t : Tree, acs = t.cells ∧ t.fits) (h : TY n 81 acs) : ∃ v : bF, acs = v.cells ∧ v.fits := by
 obtain ⟨k, hk, h⟩ := dp Tryz.underlying81 h
 obtain ⟨a1, b1, rfl, h1, wa1⟩ := an h; obtain ⟨s1, rfl, w1⟩ := gX Tryz.underlying79 h1
 obtain ⟨a2, b2, rfl, h1, wa2⟩ := an wa1; obtain ⟨s2, rfl, w2⟩ := gW Tryz.underlying9 h1
 obtain ⟨a3, b3, rfl, h1, wa3⟩ := an wa2; obtain ⟨k3, l3, hk3, rfl, e3, h3⟩ := eZ Tryz.underlying54 (by decide +kernel) h1
 obtain rfl := gB wa3
 obtain ⟨k1, rfl, hk1⟩ := Jo w1
 obtain ⟨xs, rfl, hx⟩ := fa (f := Tree.cells) (Q := Tree.fits) fun c hc => ih k3 (by omega) c (h3 c hc)
 rw [eh I4]
 exact ⟨.mk k1 s2 xs, rfl, hk1, w2, by rw [List.length_map] at e3; exact e3, hx⟩
theorem HZ {n : Nat} {acs : List AV} (ih : ∀ k < n, ∀ acs, TY k 32 acs → ∃ t : Tree, acs = t.cells ∧ t.fits) (h : TY n 78 acs) : ∃ v : Slot, acs = v.cells ∧ v.fits := by
 obtain ⟨k, hk, h⟩ := dp Tryz.underlying78 h
 obtain ⟨a1, b1, rfl, h1, wa1⟩ := an h; obtain ⟨s1, rfl, w1⟩ := gX Tryz.underlying3 h1
 obtain ⟨a3, b3, rfl, h1, wa3⟩ := an wa1; obtain ⟨k3, l3, hk3, rfl, e3, h3⟩ := eZ Tryz.underlying76 (by decide +kernel) h1
 obtain rfl := gB wa3
 obtain ⟨xs, rfl, hx⟩ := fa (f := bF.cells) (Q := bF.fits) fun c hc => Dp (n := k3) (fun j hj => ih j (by omega)) (h3 c hc)
 rw [eh LS]
 exact ⟨.mk s1 xs, rfl, by rw [List.length_map] at e3; exact e3, hx⟩
theorem A3 : ∀ (n : Nat) (acs : List AV), TY n 32 acs → ∃ t : Tree, acs = t.cells ∧ t.fits := by
 intro n
 induction n using Nat.strongRecOn with
 | _ n ih =>
  intro acs h
  obtain ⟨k, hk, h⟩ := dp Tryz.underlying32 h
  obtain ⟨a1, b1, rfl, h1, wa1⟩ := an h; obtain ⟨k1, l1, hk1, rfl, e1, h1⟩ := eZ Tryz.underlying29 (by decide +kernel) h1
  obtain ⟨a2, b2, rfl, h2, wa2⟩ := an wa1; obtain ⟨k2, l2, hk2, rfl, e2, h2⟩ := eZ Tryz.underlying30 (by decide +kernel) h2
  obtain rfl := gB wa2
  obtain ⟨xs, rfl, hx⟩ := fa (f := Slot.cells) (Q := Slot.fits) fun c hc => HZ (n := k1) (fun j hj => ih j (by omega)) (h1 c hc)
  obtain ⟨ys, rfl, hy⟩ := fa (f := Rw.cells) (Q := fun r => r.s.length ≤ 140737488355328 ∧ r.n < 18446744073709551616) fun c hc => K9 (h2 c hc)
  rw [eh I5, eh LW]
  refine ⟨.mk xs ys, rfl, Tree.eO.mk ⟨by rw [List.length_map] at e1; exact e1, by rw [List.length_map] at e2; exact e2, fun x h => (hx x h).1, fun x h v hv => ((hx x h).2 v hv).2.2.1, fun x h v hv => ((hx x h).2 v hv).2.1, fun x h v hv => ((hx x h).2 v hv).1, fun r h => (hy r h).1, fun r h => (hy r h).2⟩ fun x h v hv => ((hx x h).2 v hv).2.2.2⟩
theorem Kb {n : Nat} {acs : List AV} (h : TY n 88 acs) : ∃ f : ae, acs = f.cells := by
 obtain ⟨k, _, h⟩ := dp Tryz.underlying88 h
 obtain ⟨a1, b1, rfl, h1, wa1⟩ := an h; obtain ⟨s1, rfl, _⟩ := gW Tryz.underlying9 h1
 obtain ⟨a2, b2, rfl, h1, wa2⟩ := an wa1; obtain ⟨s2, rfl, _⟩ := gX Tryz.underlying3 h1
 obtain ⟨a3, b3, rfl, h1, wa3⟩ := an wa2; obtain ⟨s3, rfl, _⟩ := gX Tryz.underlying3 h1
 obtain ⟨a4, b4, rfl, h1, wa4⟩ := an wa3; obtain ⟨s4, rfl, _⟩ := gW Tryz.underlying9 h1
 obtain ⟨a5, b5, rfl, h1, wa5⟩ := an wa4; obtain ⟨s5, rfl⟩ := A4 Tryz.underlying4 h1
 obtain ⟨a6, b6, rfl, h1, wa6⟩ := an wa5; obtain ⟨s6, rfl⟩ := A4 Tryz.underlying4 h1
 obtain ⟨a7, b7, rfl, h1, wa7⟩ := an wa6; obtain ⟨s7, rfl, _⟩ := gW Tryz.underlying9 h1
 obtain rfl := gB wa7
 exact ⟨⟨s1, s2, s3, s4, s5, s6, s7⟩, rfl⟩
theorem LZ (f : ae) : pack Tryz.prog 88 f.cells = f.av := cf Tryz.underlying88 _
theorem Ka {n : Nat} {acs : List AV} (h : TY n 73 acs) : ∃ m : aU, acs = m.cells ∧ m.fields.length ≤ 140737488355328 := by
 obtain ⟨k, _, h⟩ := dp Tryz.underlying73 h
 obtain ⟨a1, b1, rfl, h1, wa1⟩ := an h; obtain ⟨s1, rfl, _⟩ := gW Tryz.underlying9 h1
 obtain ⟨a2, b2, rfl, h1, wa2⟩ := an wa1; obtain ⟨k2, l2, _, rfl, e2, h2⟩ := eZ Tryz.underlying71 (by decide +kernel) h1
 obtain ⟨a3, b3, rfl, h1, wa3⟩ := an wa2; obtain ⟨k3, l3, _, rfl, e3, h3⟩ := eZ Tryz.underlying60 (by decide +kernel) h1
 obtain rfl := gB wa3
 obtain ⟨xs, rfl, _⟩ := fa (f := ae.cells) (Q := fun _ => True) fun c hc => (by obtain ⟨f, hf⟩ := Kb (h2 c hc); exact ⟨f, hf, trivial⟩)
 obtain ⟨ys, rfl, _⟩ := fa (f := fun m : Int => [AV.int .i64 m]) (Q := fun _ => True) fun c hc => (by obtain ⟨m, hm, _⟩ := gX Tryz.underlying3 (h3 c hc); exact ⟨m, hm, trivial⟩)
 rw [eh LZ, eh LY]
 exact ⟨⟨s1, xs, ys⟩, rfl, by simpa using e2⟩
theorem LX (f : aU) : pack Tryz.prog 73 f.cells = f.av := cf Tryz.underlying73 _
theorem KX {n : Nat} {acs : List AV} (h : TY n 111 acs) : ∃ f : ks, acs = f.cells := by
 obtain ⟨k, _, h⟩ := dp Tryz.underlying111 h
 obtain ⟨a1, b1, rfl, h1, wa1⟩ := an h; obtain ⟨s1, rfl, _⟩ := gW Tryz.underlying9 h1
 obtain ⟨a2, b2, rfl, h1, wa2⟩ := an wa1; obtain ⟨s2, rfl, _⟩ := gX Tryz.underlying3 h1
 obtain rfl := gB wa2
 exact ⟨⟨s1, s2⟩, rfl⟩
theorem LR (f : ks) : pack Tryz.prog 111 f.cells = f.av := cf Tryz.underlying111 _
theorem Kc {n : Nat} {acs : List AV} (h : TY n 109 acs) : ∃ m : eQ, acs = m.cells ∧ m.values.length ≤ 140737488355328 := by
 obtain ⟨k, _, h⟩ := dp Tryz.underlying109 h
 obtain ⟨a1, b1, rfl, h1, wa1⟩ := an h; obtain ⟨s1, rfl, _⟩ := gW Tryz.underlying9 h1
 obtain ⟨a2, b2, rfl, h1, wa2⟩ := an wa1; obtain ⟨k2, l2, _, rfl, e2, h2⟩ := eZ Tryz.underlying107 (by decide +kernel) h1
 obtain rfl := gB wa2
 obtain ⟨xs, rfl, _⟩ := fa (f := ks.cells) (Q := fun _ => True) fun c hc => (by obtain ⟨f, hf⟩ := KX (h2 c hc); exact ⟨f, hf, trivial⟩)
 rw [eh LR]
 exact ⟨⟨s1, xs⟩, rfl, by simpa using e2⟩
theorem L0 (f : eQ) : pack Tryz.prog 109 f.cells = f.av := cf Tryz.underlying109 _
theorem KZ {n : Nat} {acs : List AV} (h : TY n 25 acs) : ∃ s : aL, acs = s.cells ∧ s.lens := by
 obtain ⟨k, _, h⟩ := dp Tryz.underlying25 h
 obtain ⟨a1, b1, rfl, h1, wa1⟩ := an h; obtain ⟨k1, l1, _, rfl, e1, h1⟩ := eZ Tryz.underlying22 (by decide +kernel) h1
 obtain ⟨a2, b2, rfl, h2, wa2⟩ := an wa1; obtain ⟨k2, l2, _, rfl, e2, h2⟩ := eZ Tryz.underlying23 (by decide +kernel) h2
 obtain rfl := gB wa2
 obtain ⟨xs, rfl, hx⟩ := fa (f := eQ.cells) (Q := fun m => m.values.length ≤ 140737488355328) fun c hc => Kc (h1 c hc)
 obtain ⟨ys, rfl, hy⟩ := fa (f := aU.cells) (Q := fun m => m.fields.length ≤ 140737488355328) fun c hc => Ka (h2 c hc)
 rw [eh L0, eh LX]
 exact ⟨⟨xs, ys⟩, rfl, ⟨by simpa using e1, by simpa using e2, hx, hy⟩⟩
theorem Nl : gj Tryz.prog 2 = true := by kernel_rfl
theorem tj {H : Type} {enc : TypeId × Value → H} {a : Assume} {C : Checked} {os : Os} {f : FuncId} {fn : Func} {s : ChangeSpec} {conds : List PathCond} {apart fresh handsOn again : Bool} {X : World → Array Value → Prop}
  (hX : ∀ (w w' : World) (args : Array Value), w.heap = w'.heap → X w args → X w' args) (own : ownKnob C.prog.godebug = none) (started : os.Started) (noInit : C.prog.inits.idxOf? f = none) (hfn : C.prog.funcs[f]? = some fn)
  (witness : ∃ (w : World) (tape : Tape) (i : Input), w.os = os ∧ (w.forCall tape i).Shaped C.prog ∧ i.vars = [] ∧ Input.okWide C.prog (w.forCall tape i) .any w.heap.size f i ∧
   ((s.pre enc C.prog fn conds apart (w.forCall tape i).memory i.args ∧ X (w.forCall tape i).memory i.args) ∧ sizedMet enc C.prog fn (OpenSpec.ofChange s) apart (w.forCall tape i).memory i.args) ∧ a.holds C.prog (lone (Frame.enter C.prog f i.args .normal) [] (w.forCall tape i)))
  (contract : ∀ (W : World) (base : Nat) (args : Array Value) (ds gs : List (DataW H)) (before : List MemPlace), (∀ (j : Nat) t v, fn.params[j]? = some t → args[j]? = some v → Value.okWide C.prog W .any base t v) →
   DataW.Whole enc C.prog fn.params.toList s.vars apart W args.toList ds gs before → (DataW.weightsEach C.prog (fn.params.toList ++ s.plain.varTypes C.prog) (ds ++ gs)).all (· ≤ reachBytes) = true → X W args → W.ShapedOpen C.prog →
   Calls C.prog f args W fun e W' => ∃ v, e = .returned v ∧ s.post enc C.prog fn apart fresh handsOn again W args v W') :
  ReturnsInHanded a C os f .any (fun w args => (s.pre enc C.prog fn conds apart w args ∧ X w args) ∧ sizedMet enc C.prog fn (OpenSpec.ofChange s) apart w args) (s.post enc C.prog fn apart fresh handsOn again) := by
 refine returnsInHanded_of_calls own started noInit witness fun w tape i _ hsh _ hok hpre _ => ?_
 obtain ⟨_, _, _, Nl, hfn2, _, _, _, _, hval⟩ := hok
 cases Option.some.inj (hfn2.symm.trans hfn)
 obtain ⟨⟨⟨ds, gs, before, hw, _⟩, hx⟩, hz⟩ := hpre
 refine (contract (w.forCall tape i) w.heap.size i.args ds gs before hval (DataW.Whole.of_heap (w' := w.forCall tape i) (by rfl) hw) (hz.weights hw) (hX _ _ _ (by rfl) hx) hsh).mono ?_
 rintro e W' ⟨v, rfl, hp⟩
 exact ChangeSpec.post_blind hp
abbrev sn : List (String × DataW Unit) := [("unicode/utf8.acceptRanges", Rows.laid_unicode_utf8_acceptRanges), ("unicode/utf8.first", Rows.laid_unicode_utf8_first)]
theorem Jg : (Rows.laid_unicode_utf8_acceptRanges : DataW Unit) = Lib.acceptData := by rfl
theorem M6 : (Rows.laid_unicode_utf8_first : DataW Unit) = Lib.firstData := by rfl
theorem MT {W : World} (h : laidMetH Tryz.prog sn W) : KM W ∧ gN ≤ W.heap.size := by
 rw [MakeChecks.laidMetH_plain _ _ _ (by kernel_rfl)] at h
 have h1 : Lib.VarReads Tryz.prog W "unicode/utf8.first" Lib.firstData := M6 ▸ Lib.laidMet.reads h (by simp [sn])
 have h2 : Lib.VarReads Tryz.prog W "unicode/utf8.acceptRanges" Lib.acceptData := Jg ▸ Lib.laidMet.reads h (by simp [sn])
 refine ⟨utf8Tabs_of_readsT (ρ := Tryz.sj) (U8Types.of196 Tryz.Fl) ⟨by kernel_rfl, by kernel_rfl, by kernel_rfl, by kernel_rfl, by kernel_rfl, by kernel_rfl, by kernel_rfl⟩ h1 h2, ?_⟩
 obtain ⟨g, t, cs, fuel, p, hg, _, hv, _⟩ := h2
 obtain rfl : 1 = g := Option.some.inj ((show Tryz.prog.globalNamed "unicode/utf8.acceptRanges" = some 1 by kernel_rfl).symm.trans hg)
 simp only [World.var?, hg, Option.bind_some] at hv
 split at hv
 ·rename_i e
  have := (Array.getElem?_eq_some_iff.1 e).1
  exact this
 ·cases hv
theorem LU (s : aw) : pack Tryz.prog 9 [.str s] = .str s := by unfold pack; rw [Tryz.underlying9]; rfl
theorem DP {x : aS} (h : x.dv.fits) : x.tree.fits := by
 obtain ⟨h1, h2, h3, h4⟩ := h
 refine Tree.eO.mk ⟨?_, ?_, ?_, ?_, ?_, ?_, ?_, ?_⟩ ?_ <;> simp [aS.tree, Tree.aO, Tree.rest, Slot.ag]
 ·exact h3
 ·exact h2
 ·exact h1
 ·exact h4
theorem JS {x : aS} (hf : x.dv.fits) (hn : x.names.length ≤ 140737488355328) (q2 : x.msg.length ≤ 140737488355328) (q3 : x.field.length ≤ 140737488355328) (q4 : x.dest.length ≤ 140737488355328) (q5 : x.also.length ≤ 140737488355328) : x.lens := by
 have hb := (DP hf).eK
 obtain ⟨h1, h2, h3, h4⟩ := hf
 exact ⟨⟨Nat.le_trans h2 (by omega), fun t ht => (h4 t ht).eK, Nat.le_trans hn (by omega)⟩, hb, hn, q2, q3, q4, q5, h2, h1⟩
theorem KY {n : Nat} {acs : List AV} (h : TY n 102 acs) : ∃ x : aS, acs = x.cells ∧ x.lens := by
 obtain ⟨k, _, h⟩ := dp Tryz.underlying102 h
 obtain ⟨a1, b1, rfl, h1, wa1⟩ := an h; obtain ⟨s1, rfl, _⟩ := gX Tryz.underlying3 h1
 obtain ⟨a2, b2, rfl, h1, wa2⟩ := an wa1; obtain ⟨s2, rfl, q2⟩ := gW Tryz.underlying9 h1
 obtain ⟨a3, b3, rfl, h1, wa3⟩ := an wa2; obtain ⟨s3, rfl, q3⟩ := gW Tryz.underlying9 h1
 obtain ⟨a4, b4, rfl, h1, wa4⟩ := an wa3; obtain ⟨s4, rfl, q4⟩ := gW Tryz.underlying9 h1
 obtain ⟨a5, b5, rfl, h1, wa5⟩ := an wa4; obtain ⟨s5, rfl, q5⟩ := gW Tryz.underlying9 h1
 obtain ⟨a6, b6, rfl, h1, wa6⟩ := an wa5; obtain ⟨s6, rfl, _⟩ := gX Tryz.underlying3 h1
 obtain ⟨a7, b7, rfl, h1, wa7⟩ := an wa6; obtain ⟨s7, rfl, _⟩ := gX Tryz.underlying3 h1
 obtain ⟨a8, b8, rfl, h1, wa8⟩ := an wa7; obtain ⟨s8, rfl, _⟩ := gX Tryz.underlying3 h1
 obtain ⟨a9, b9, rfl, h1, wa9⟩ := an wa8; obtain ⟨k9, l9, _, rfl, e9, h9⟩ := eZ Tryz.underlying100 (by decide +kernel) h1
 obtain ⟨aA, bA, rfl, h1, waA⟩ := an wa9; obtain ⟨v, rfl, hv⟩ := Dp (fun j _ acs h => A3 j acs h) h1
 obtain rfl := gB waA
 obtain ⟨xs, rfl, _⟩ := fa (f := fun s : aw => [AV.str s]) (Q := fun _ => True) fun c hc => (by obtain ⟨f, hf, _⟩ := gW Tryz.underlying9 (h9 c hc); exact ⟨f, hf, trivial⟩)
 rw [eh LU]
 exact ⟨⟨s1, s2, s3, s4, s5, s6, s7, s8, xs, v⟩, rfl, JS hv (by simpa using e9) q2 q3 q4 q5⟩
theorem LV (x : aS) : pack Tryz.prog 102 x.cells = x.av := cf Tryz.underlying102 _
theorem Br {n : Nat} {acs : List AV} (h : TY n 26 acs) : ∃ l : List aS, acs = [.sl (l.map aS.av)] ∧ l.length ≤ 140737488355328 ∧ ∀ x ∈ l, x.lens := by
 obtain ⟨k, css, _, rfl, e, h3⟩ := eZ Tryz.underlying26 (by decide +kernel) h
 obtain ⟨xs, rfl, hx⟩ := fa (f := aS.cells) (Q := aS.lens) fun c hc => KY (h3 c hc)
 rw [eh LV]
 exact ⟨xs, rfl, by simpa using e, hx⟩
theorem H4 {n : Nat} {acs : List AV} (h : TY n 28 acs) : ∃ (s : aL) (l : List aS), acs = s.cells ++ [.sl (l.map aS.av)] ∧ m5 s l := by
 obtain ⟨k, _, h⟩ := dp Tryz.underlying28 h
 obtain ⟨a1, b1, rfl, h1, wa1⟩ := an h; obtain ⟨s, rfl, hs⟩ := KZ h1
 obtain ⟨a2, b2, rfl, h1, wa2⟩ := an wa1; obtain ⟨l, rfl, hl, hx⟩ := Br h1
 obtain rfl := gB wa2
 exact ⟨s, l, by simp, hs, hl, hx⟩
def vX : List TypeId := [28, 26, 102, 100, 25, 22, 109, 107, 111, 23, 73, 71, 88, 60, 3, 9, 4, 79, 32, 29, 78, 76, 81, 54, 30, 130]
theorem uU : vX.all (nR Tryz.prog vX) = true := by decide +kernel
section
variable {H : Type} {enc : TypeId × Value → H} {W : World}
theorem u0 {r : Reach} {b0 : Nat} {v : Value} {d : DataW H} {ps : List MemPlace} (hval : Value.okWide Tryz.prog W r b0 32 v) (hd : DataW.Trod enc Tryz.prog W 0 (fun _ => true) true 32 v d ps) (hw : ∀ k ∈ d.weights Tryz.prog 32, k ≤ reachBytes) :
  ∃ t : Tree, t.fits ∧ V (Db W) v (.agg t.cells) := by
 obtain ⟨acs, n, h1, h2⟩ := xX vX uU (by decide) hval hd hw
 obtain ⟨s, rfl, hs⟩ := A3 n _ h2
 exact ⟨s, hs, cf Tryz.underlying32 _ ▸ h1⟩
theorem C9 {r : Reach} {b0 : Nat} {v : Value} {d : DataW H} {ps : List MemPlace} (hval : Value.okWide Tryz.prog W r b0 28 v) (hd : DataW.Trod enc Tryz.prog W 0 (fun _ => true) true 28 v d ps) (hw : ∀ k ∈ d.weights Tryz.prog 28, k ≤ reachBytes) :
  ∃ (s : aL) (l : List aS), m5 s l ∧ V (Db W) v (kL s l) := by
 obtain ⟨acs, n, h1, h2⟩ := xX vX uU (by decide) hval hd hw
 obtain ⟨s, l, rfl, hs⟩ := H4 h2
 rw [cf Tryz.underlying28] at h1
 exact ⟨s, l, hs, h1⟩
end
end Go.Proofs.YtgmdapgedlachaaGreatDoor.X
