/- The program logic's rules: nil slices in objects, to be appended to; regions that draw their order, of which a call panics. No condition. -/
import Derived.Test.YtabihkfhoohfnaaGreatDoorZCC
import Derived.Lib.Bytealg
import Derived.Lib.Strings
import Derived.Lib.ParseIntB
import Derived.Lib.ItoaNum
import Derived.Test.YtabihkfhoohfnaaGreatDoorProg
import Derived.KernelRfl
import Derived.Lib.ValidU
set_option linter.unusedVariables false
set_option linter.unusedSimpArgs false
namespace Go.Proofs.YtabihkfhoohfnaaGreatDoor.X
open Go Go.RowKit
theorem Rel.niltokF {E : Ent} {N : Nat} {G : Gh} {L : Loc} {a : Act} {w : World} {s : St} (h : Rel E N G L a w s) {t el esz : Nat} (ht : get s (.t t) = none) (hz : 0 < esz) : Rel E N G (L.setTok t (.slice none 0 0)) a w ((.t t, .tk false el esz []) :: s) := by
 obtain ⟨G', _, hle, hr⟩ := h.newtok false (xs := []) (v1 := .slice none 0 0) (row := none) (el := el) (esz := esz) (cells := []) ht hz (w1 := w) ⟨rfl, rfl, rfl, Nat.le_refl _, fun _ _ _ => rfl⟩ (by simp) (fun b hb => by simp [Value.ownBlock] at hb) (World.ownsRow_nil w 0 el esz) ⟨fun i e h => by simp at h, fun i e j c h => by simp at h⟩ (fun b hb => by simp [Value.ownBlock] at hb)
 have htok0 := h.notok t ht
 have htl := Loc.setTok_le (v := Value.slice none 0 0) htok0
 have hown : ∀ c b, owns ((.t t, .tk false el esz []) :: s) (L.setTok t (.slice none 0 0)) c b → owns s L c b := by
  intro c b hc
  by_cases e : c = .t t
  ·subst e
   obtain ⟨_, v, hv, hb⟩ := hc
   simp [Loc.setTok] at hv
   subst hv; cases hb
  ·have h2 := owns_cons e hc
   cases c with
   | b j => exact h2
   | t j =>
    obtain ⟨h3, v, hv, h4⟩ := h2
    have hj : j ≠ t := fun e' => e (by rw [e'])
    exact ⟨h3, v, by simpa [Loc.setTok, hj] using hv, h4⟩
   | s n => exact h2
   | h => exact h2
 refine ⟨h.size, h.defs, h.ge, h.kn, h.old, h.obs, h.obn, h.fr, fun n x g => (h.slot n x (by simpa [get] using g)).loc (L := L) (L' := L.setTok t (.slice none 0 0)) (fun _ _ e => e) htl, fun k cv g hl => (h.box k cv (by simpa [get] using g) hl).loc (L := L) (L' := L.setTok t (.slice none 0 0)) (fun _ _ e => e) htl, ?_,
  fun c d b hc hd => h.disj c d b (hown _ _ hc) (hown _ _ hd), by simpa [get] using h.heap, fun c b hc H g => h.hdisj c b (hown _ _ hc) H (by simpa [get] using g), fun k g => h.nobox k (by simpa [get] using g), ?_⟩
 ·intro j m el2 esz2 xs2 g
  by_cases e : j = t
  ·subst e
   simp [get] at g
   obtain ⟨rfl, rfl, rfl, rfl⟩ := g
   exact ⟨.slice none 0 0, by simp [Loc.setTok], ⟨[], fun _ => V.slE none 0, World.ownsRow_nil w 0 el esz, hz, ⟨fun i e h => by simp at h, fun i e j c h => by simp at h⟩, fun b e => (by cases e)⟩, fun b e => (by cases e)⟩
  ·obtain ⟨v, hv, rest⟩ := h.tok j m el2 esz2 xs2 (by simpa [get, Ne.symm e] using g)
   exact ⟨v, htl _ _ hv, rest⟩
 ·intro j g
  by_cases e : j = t
  ·subst e; simp [get] at g
  ·have := h.notok j (by simpa [get, Ne.symm e] using g)
   simpa [Loc.setTok, e] using this

/-- A cell that holds a nil slice becomes the slice t that grows, nothing in it yet. -/
theorem Kept.nilow {s : St} {Q : St → Prop} (k i t el esz : Nat) {cv : CV} {cs : List Sv} (hk : get s (.b k) = some cv) (hcv : cv.box? = some cs) (hi : cs[i]? = some (.v .nsl)) (ht : get s (.t t) = none) (hz : 0 < esz)
  (h : Kept ((.b k, cv.setBox (cs.set i (.ow t []))) :: (.t t, .tk false el esz []) :: s) Q) : Kept s Q := fun E N a w ⟨G, L, hr⟩ => by
 have h1 := hr.niltokF (el := el) ht hz
 refine h E N a w ⟨G, _, h1.rebox (cs := cs) (by simpa [get] using hk) hcv (by simp) fun j x y v hx hy hf hv => ?_⟩
 rw [List.getElem?_set] at hy
 split at hy
 ·rename_i e
  subst e
  rw [hi] at hx; cases hx
  split at hy
  ·cases hy
   have hV : V G v .nsl := hv
   cases hV
   exact ⟨rfl, V.slE none 0, by simp [Loc.setTok]⟩
  ·cases hy
 ·rw [hx] at hy; cases hy
  exact ⟨hf, hv⟩
section
variable {P : Program} {N : Nat} {s : St} {d : Nat} {ty : TypeId} {pos : String} {af : Array Edge} {g : Option (Nat × Bool)}
/-- alloc: a local of its own, at its zero value, nil slices known as such -/
theorem op_alln {t1 : TypeId} {zs : List AV} (hN : d < N) (hz : zeroN P t1 = some zs) (hk : get s (.b d) = none) :
  OpOK P N ⟨some d, .alloc t1, ty, pos, af, g⟩ s [.b d] [(.s d, .sv (.lp d 0)), (.b d, .bx (zs.map .v))] := by
 intro t hR E G L a w hr K Q hK
 have hk' : get t (.b d) = none := by rw [hR (.b d) (by simp)]; exact hk
 unfold zeroN at hz
 split at hz
 ·rename_i i hi
  split at hz
  ·rename_i z hzz
   obtain ⟨h1, h2⟩ := cavns_sound G hz
   have hok : ObjOK G (L.setBox d w.heap.size) (.cells z.cells t1) (.bx (zs.map .v)) := by
    refine ⟨_, _, rfl, by simpa using h1, fun j y e => ?_⟩
    simp only [List.getElem?_map] at e
    cases hc : zs[j]? with
    | none => rw [hc] at e; cases e
    | some c =>
     rw [hc] at e; cases e
     refine ⟨(h2 j c hc).1, ?_⟩
     have := (h2 j c hc).2
     show V G (z.cells.getD j undef) c
     rwa [Array.getD_eq_getD_getElem?, ← Array.getElem?_toList, ← List.getD_eq_getElem?_getD]
   have hr1 := hr.alloc d hk' (.cells z.cells t1) (.bx (zs.map .v)) rfl rfl hok
   have he : (execOp a.eval ⟨some d, .alloc t1, ty, pos, af, g⟩).run P w = .ok (.value (.pointer (some ⟨w.heap.size, 0, none⟩))) (w.alloc (.cells z.cells t1)) := by
    simp [execOp, Instr.alloc, zeroValue, typeInfo, hi, hzz, newVar, newRow]
   unfold Oper.wp
   rw [he]
   refine hK _ _ G (L.setBox d w.heap.size) ?_
   exact hr1.put d hN _ (.lp d 0) ⟨w.heap.size, by simp [Loc.setBox], rfl⟩
  ·cases hz
 ·cases hz
end
/-- An operation that panics. -/
def PanOK (P : Program) (N : Nat) (o : Oper) (s : St) (R : List Comp) (v : Value) (H' : Hp) : Prop :=
 ∀ t, Reads R s t → ∀ E G L a w, Rel E N G L a w t → ∀ (K : Act → World → Prop) (Q : Exit → Act → World → Prop),
  (∀ a' w' G' L', Rel E N G' L' a' w' ((.h, .hp H') :: t) → Q (.panic [{ v := v, recovered := false }]) a' w') → o.wp P a w K Q
section
variable {P : Program} {N : Nat} {s : St} {d : Option Tmp} {ty : TypeId} {pos : String} {af : Array Edge} {g : Option (Nat × Bool)}
theorem pan_call {f : FuncId} {xs : Array Operand} {tys : Array TypeId} {«as» : List AV} {H H' : Hp} {v : Value} (hf : isFn P f = true) (hH : get s .h = some (.hp H)) (ha : opvs xs.toList s = some «as») (hp : RunP P f «as» H v H') :
  PanOK P N ⟨d, .call { callee := .value (.func f), args := xs, argTypes := tys }, ty, pos, af, g⟩ s (rds xs.toList ++ [.h]) v H' := by
 intro t hR E G L a w hr K Q hQ
 obtain ⟨cargs, he, hV⟩ := enter_func (ty := ty) (pos := pos) (af := af) (g := g) hf ha (dst := d) E G L a w t hr hR.left
 have hHt : get t .h = some (.hp H) := by rw [hR .h (by simp)]; exact hH
 obtain ⟨H2, hH2, hok, hmay⟩ := hr.heap
 rw [hHt] at hH2; cases hH2
 unfold Oper.wp
 rw [he]
 refine (hp G w cargs (hr.geAt hHt) hr.kn hok hV).mono ?_
 rintro e w' ⟨G', rfl, hx, hkn, hok', hf', hft⟩
 exact hQ _ _ G' L (hr.called hHt hx hkn hok' hf' hft)
end
section
variable {P : Program} {N : Nat}
/-- A REGION THAT DRAWS ITS ORDER, and of which an operation panics; those behind it wait for it. -/
theorem Tri.drawP {s s1 : St} {id : Nat} {l1 l2 : List Oper} {o : Oper} {rs : List (List Comp × St)} {R : List Comp} {v : Value} {H' : Hp} {Q : Exit → St → Prop} (hm : P.follows .mixedOrders = true) (hc : Chain P N (l1 ++ o :: l2).toArray l1 s rs s1) (hg : o.guard = none) (hp : PanOK P N o s1 R v H')
  (hback : backFrom 0 ((l1 ++ o :: l2).map edges) = true) (hord : ordFrom 0 (rs ++ [(R, [])]) (ancs [] ((l1 ++ o :: l2).map edges)) = true) (haft : (List.range l2.length).all (fun j => ((ancs [] ((l1 ++ o :: l2).map edges)).getD (l1.length + 1 + j) []).contains l1.length) = true)
  (hQ : ∀ f, Q (.panic [{ v := v, recovered := false }]) ((.h, .hp H') :: stS f 0 rs s)) :
  Tri P N (.region id (l1 ++ o :: l2).toArray true) s Q := by
 intro E a w ⟨G, L, hr⟩
 obtain ⟨hlen, hstep, hend⟩ := hc.spec
 generalize hl : l1 ++ o :: l2 = l at *
 have hll : l.length = l1.length + 1 + l2.length := by rw [← hl]; simp; omega
 have hlo : l[l1.length]? = some o := by rw [← hl]; simp
 have hl1 : ∀ i, i < l1.length → l[i]? = l1[i]? := fun i h => by rw [← hl, List.getElem?_append_left h]
 have hsize : l.toArray.size = l.length := by simp
 have hop : ∀ (i : Nat) o, l.toArray[i]? = some o → l[i]? = some o := fun i o h => by simpa using h
 have hbk : ∀ i o, l.toArray[i]? = some o → ∀ e ∈ edges o, e < i := fun i o h e he => by
  have := back_spec hback i (edges o) (by simp [hop i o h]) e he
  omega
 refine wp_region_any hm ?_
 have hr0 : Rel E N G L a { w with drawn := w.drawn + 1 } s := by
  obtain ⟨H0, gH, hokH, hmayH⟩ := hr.heap
  have hst := hokH.stay (w' := { w with drawn := w.drawn + 1 }) (Gh.le.refl G) rfl (fun b hb => (hokH.foot hb).2) (fun _ _ => rfl) (Nat.le_refl _)
  refine ⟨hr.size, hr.defs, hr.ge, hr.kn, hr.old, hr.obs, hr.obn, ⟨hr.fr.os, hr.fr.tape, hr.fr.output, hr.fr.size, hr.fr.block⟩, hr.slot, hr.box, hr.tok, hr.disj, ⟨H0, gH, hst.1, fun b hb => hmayH b ((hst.2 b).1 hb)⟩, fun c b hc H2 g2 e2 => ?_, hr.nobox, hr.notok⟩
  rw [gH] at g2; cases g2
  exact hr.hdisj c b hc _ gH ((hst.2 b).1 e2)
 have hrs : ∀ (j : Nat) q, rs[j]? = some q → (rs ++ [(R, [])])[j]? = some q := fun j q h => by rw [List.getElem?_append_left (List.getElem?_eq_some_iff.1 h).1]; exact h
 have hrR : (rs ++ [(R, [])])[l1.length]? = some (R, []) := by rw [hlen]; simp
 have key : ∀ (fuel : Nat) (listed : Array Bool) (t : St) (a : Act) (w : World), listed.size = l.length → (∀ j, l1.length ≤ j → listed.getD j false = false) →
   (∀ j o, l[j]? = some o → listed.getD j false = true → ∀ e ∈ edges o, listed.getD e false = true) → (∀ c, get t c = get (stS (fun j => listed.getD j false) 0 rs s) c) → Fits E N t a w →
   (l.length ≤ fuel + cnt listed.toList) → wpAny P .any l.toArray (fun e a' w' => ∃ s', Fits E N s' a' w' ∧ Q e s') fuel listed a w := by
  have hlo2 : ∀ (listed : Array Bool), listed.size = l.length → listed.getD l1.length false = false → listed[l1.length]? = some false := fun listed hsz h => by
   have hlt : l1.length < listed.size := by omega
   rw [Array.getD_eq_getD_getElem?, Array.getElem?_eq_getElem hlt] at h
   rw [Array.getElem?_eq_getElem hlt]
   simpa using h
  intro fuel
  induction fuel with
  | zero =>
   intro listed t a w hsz hno hcl ht hf hcount
   exfalso
   have h3 := cnt_lt listed.toList l1.length (by rw [Array.getElem?_toList]; exact hlo2 listed hsz (hno _ (Nat.le_refl _)))
   have h4 : listed.toList.length = listed.size := Array.length_toList
   omega
  | succ fuel ih =>
   intro listed t a w hsz hno hcl ht ⟨G, L, hr⟩ hcount
   refine ⟨fun hnil => ?_, fun i hi => ?_⟩
   ·have := ready_nil (by rw [hsz, hsize]) hbk hnil l1.length (by rw [hsize]; omega)
    rw [hno _ (Nat.le_refl _)] at this; cases this
   unfold Region.ready at hi
   rw [List.mem_filter] at hi
   obtain ⟨hi1, hi2⟩ := hi
   simp only [Bool.and_eq_true, Bool.not_eq_true'] at hi2
   have hlt : i < l.length := by simpa using hi1
   have hlt' : i < listed.size := by omega
   have hli : listed[i] = false := by
    have := hi2.1
    rw [Array.getD_eq_getD_getElem?, Array.getElem?_eq_getElem hlt'] at this; simpa using this
   have hlif : listed.getD i false = false := by rw [Array.getD_eq_getD_getElem?, Array.getElem?_eq_getElem hlt']; simpa using hli
   have ho : l[i]? = some l[i] := List.getElem?_eq_getElem hlt
   have hedge : ∀ e ∈ edges l[i], listed.getD e false = true := by
    intro e he
    have h2 := hi2.2
    simp only [List.getElem?_toArray, ho, Option.map_some, Option.getD_some] at h2
    rw [Array.all_eq_true'] at h2
    unfold edges at he
    obtain ⟨x, hx, rfl⟩ := List.mem_map.1 he
    obtain ⟨hx1, hx2⟩ := List.mem_filter.1 hx
    have := h2 x (Array.mem_toList_iff.1 hx1)
    simpa [hx2] using this
   have hanc : ∀ (j : Nat), (j = i ∨ listed.getD j false = true) → j < l.length → ∀ k ∈ (ancs [] (l.map edges)).getD j [], listed.getD k false = true := by
    intro j
    induction j using Nat.strongRecOn with
    | _ j ihj =>
     intro hj hjl k hk
     have hoj : l[j]? = some l[j] := List.getElem?_eq_getElem hjl
     obtain ⟨x, hx1, hx2⟩ := ancs_spec (l.map edges) [] j (edges l[j]) (by simp [hjl])
     simp only [List.length_nil, Nat.zero_add] at hx1 hx2
     have hk' : k ∈ x := by rw [List.getD_eq_getElem?_getD, hx1] at hk; exact hk
     have hej : ∀ e ∈ edges l[j], listed.getD e false = true := by
      rcases hj with rfl | hj
      ·exact hedge
      ·exact hcl j l[j] hoj hj
     rcases hx2 k hk' with h | ⟨m, hm1, y, hy, hmlt, hky⟩
     ·exact hej k h
     ·refine ihj m hmlt (.inr (hej m hm1)) (by omega) k ?_
      rw [List.getD_eq_getElem?_getD, hy]; exact hky
   have hrlt : ∀ (j : Nat) q, rs[j]? = some q → j < l.length := fun j q h => by have := (List.getElem?_eq_some_iff.1 h).1; omega
   rcases Nat.lt_trichotomy i l1.length with hi1' | hi1' | hi1'
   ·obtain ⟨R', ws, s0, q1, q2, q3⟩ := hstep i l[i] (by rw [← hl1 i hi1']; exact ho)
    have hreads : Reads R' s0 t := by
     intro c hc
     rw [ht c, q3 c 0]
     refine stS_agree c rs 0 _ _ _ _ rfl fun j q hj hne => ?_
     simp only [Nat.zero_add]
     have hwc := mem_cw hne
     by_cases hji : j < i
     ·have hcf : conf q (R', ws) = true := by
       simp only [conf, Bool.or_eq_true]
       exact .inl (meets_of hwc (List.mem_append.2 (.inl hc)))
      have hmem := ord_spec hord j i q (R', ws) hji (hrs _ _ hj) (hrs _ _ q1) hcf
      simp only [Nat.zero_add] at hmem
      rw [hanc i (.inl rfl) hlt j hmem]
      simp [hji]
     ·by_cases hje : j = i
      ·subst hje
       rw [hlif]; simp
      ·have hcf : conf (R', ws) q = true := by
        simp only [conf, Bool.or_eq_true]
        exact .inr (meets_of hc hwc)
       cases hlj : listed.getD j false with
       | false => simp [hji]
       | true =>
        exfalso
        have hmem := ord_spec hord i j (R', ws) q (by omega) (hrs _ _ q1) (hrs _ _ hj) hcf
        simp only [Nat.zero_add] at hmem
        have := hanc j (.inr hlj) (hrlt j q hj) i hmem
        rw [hlif] at this; cases this
    refine wpOp_of_step (by simp [ho]) (q2 t hreads E G L a w hr _ _ fun a' w' G' L' hr' => ?_)
    have hset : ∀ j, (listed.setIfInBounds i true).getD j false = if j = i then true else listed.getD j false := by
     intro j
     rw [Array.getD_eq_getD_getElem?, Array.getD_eq_getD_getElem?]
     by_cases hj : j = i
     ·subst hj
      rw [Array.getElem?_setIfInBounds_self_of_lt hlt']; simp
     ·rw [Array.getElem?_setIfInBounds_ne (Ne.symm hj), if_neg hj]
    refine ih (listed.setIfInBounds i true) (ws ++ t) a' w' (by simpa using hsz) (fun j hj => by rw [hset, if_neg (by omega)]; exact hno j hj) ?_ ?_ ⟨G', L', hr'⟩ ?_
    ·intro j o hj hlj e he
     rw [hset] at hlj ⊢
     split
     ·rfl
     ·by_cases hji : j = i
      ·subst hji
       rw [ho] at hj; cases hj
       exact hedge e he
      ·rw [if_neg hji] at hlj
       exact hcl j o hj hlj e he
    ·intro c
     have hf : (fun j => (listed.setIfInBounds i true).getD j false) = fun j => if j = i then true else listed.getD j false := funext hset
     rw [hf, get_append]
     cases hw : get ws c with
     | none =>
      simp only
      rw [ht c]
      refine stS_agree c rs 0 _ _ _ _ rfl fun j q hj hne => ?_
      simp only [Nat.zero_add]
      by_cases hji : j = i
      ·subst hji
       rw [q1] at hj; cases hj
       exact absurd hw hne
      ·rw [if_neg hji]
     | some u =>
      simp only
      symm
      refine stS_last c rs 0 _ s i (R', ws) u q1 (by simp) hw fun j q hij hj hfj => ?_
      simp only [Nat.zero_add] at hfj
      rw [if_neg (by omega)] at hfj
      cases hqc : get q.2 c with
      | none => rfl
      | some u' =>
       exfalso
       have hwc : c ∈ cw (R', ws) := mem_cw (by rw [hw]; simp)
       have hqw : c ∈ cw q := mem_cw (by rw [hqc]; simp)
       have hcf : conf (R', ws) q = true := by
        simp only [conf, Bool.or_eq_true]
        exact .inl (meets_of hwc (List.mem_append.2 (.inr hqw)))
       have hmem := ord_spec hord i j (R', ws) q hij (hrs _ _ q1) (hrs _ _ hj) hcf
       simp only [Nat.zero_add] at hmem
       have := hanc j (.inr hfj) (hrlt j q hj) i hmem
       rw [hlif] at this; cases this
    ·have e1 : (listed.setIfInBounds i true).toList = listed.toList.set i true := by simp
     have hcnt := cnt_set listed.toList i (by rw [Array.getElem?_toList, Array.getElem?_eq_getElem hlt', hli])
     rw [e1, hcnt]
     omega
   ·subst hi1'
    have hoo : l[l1.length] = o := by rw [ho] at hlo; exact Option.some.inj hlo
    have hreads : Reads R s1 t := by
     intro c hc
     rw [ht c, hend c 0]
     refine stS_agree c rs 0 _ _ _ _ rfl fun j q hj hne => ?_
     simp only [Nat.zero_add]
     have hwc := mem_cw hne
     have hcf : conf q (R, []) = true := by
      simp only [conf, Bool.or_eq_true]
      exact .inl (meets_of hwc (List.mem_append.2 (.inl hc)))
     have hjl : j < l1.length := by have := (List.getElem?_eq_some_iff.1 hj).1; omega
     have hmem := ord_spec hord j l1.length q (R, []) hjl (hrs _ _ hj) hrR hcf
     simp only [Nat.zero_add] at hmem
     exact hanc l1.length (.inl rfl) hlt j hmem
    refine wpOp_of_step (o := o) (by simp [ho, hoo]) ?_
    rw [if_pos (by simp [Region.wanted, hg])]
    refine hp t hreads E G L a w hr _ _ fun a' w' G' L' hr' => ?_
    refine ⟨_, ⟨G', L', hr'.ext fun c => ?_⟩, hQ (fun j => listed.getD j false)⟩
    simp only [get]
    split
    ·rfl
    ·exact (ht c).symm
   ·exfalso
    have h1 := List.all_eq_true.1 haft (i - l1.length - 1) (by simp; omega)
    rw [show l1.length + 1 + (i - l1.length - 1) = i by omega] at h1
    have := hanc i (.inl rfl) hlt l1.length (by simpa using h1)
    rw [hno _ (Nat.le_refl _)] at this; cases this
 have h0 := key l.length (Array.replicate l.length false) s a { w with drawn := w.drawn + 1 } (by simp) (fun j hj => by
  rw [Array.getD_eq_getD_getElem?, Array.getElem?_replicate]; split <;> rfl) (fun j o hj hlj => by
  rw [Array.getD_eq_getD_getElem?] at hlj
  have hj' := (List.getElem?_eq_some_iff.1 hj).1
  simp [hj'] at hlj) (fun c => by
  have : get (stS (fun j => (Array.replicate l.length false).getD j false) 0 rs s) c = get (stS (fun _ => false) 0 rs s) c := by
   refine stS_agree c rs 0 _ _ _ _ rfl fun j q hj _ => ?_
   have hj' := (List.getElem?_eq_some_iff.1 hj).1
   have : j < l.length := by omega
   simp [Array.getD_eq_getD_getElem?, this]
  rw [this]
  have hid : ∀ (rs : List (List Comp × St)) (k : Nat) (u : St), stS (fun _ => false) k rs u = u := by
   intro rs
   induction rs with
   | nil => intro k u; rfl
   | cons q rs ih => intro k u; simp only [stS]; exact ih _ _
  rw [hid]) ⟨G, L, hr0⟩ (by omega)
 simpa using h0
/-- the same, operation by operation -/
def TriDP (P : Program) (N : Nat) (ops : Array Oper) (A : List (List Nat)) (Q : Exit → St → Prop) (s0 : St) (acc : List (List Comp × St)) (l : List Oper) (s : St) : Prop :=
 ∃ l1 o l2 rs s1 R v H', l = l1 ++ o :: l2 ∧ Chain P N ops l1 s rs s1 ∧ o.guard = none ∧ PanOK P N o s1 R v H' ∧ ordFrom 0 (acc ++ rs ++ [(R, [])]) A = true ∧ (List.range l2.length).all (fun j => (A.getD (acc.length + l1.length + 1 + j) []).contains (acc.length + l1.length)) = true ∧
  ∀ f, Q (.panic [{ v := v, recovered := false }]) ((.h, .hp H') :: stS f 0 (acc ++ rs) s0)
theorem TriDP.cons {ops : Array Oper} {A : List (List Nat)} {Q : Exit → St → Prop} {s0 s : St} {acc : List (List Comp × St)} {o : Oper} {l : List Oper} {R : List Comp} {ws : St} (hs : StepOK P N ops o s R ws) (h : TriDP P N ops A Q s0 (acc ++ [(R, ws)]) l (ws ++ s)) : TriDP P N ops A Q s0 acc (o :: l) s := by
 obtain ⟨l1, o', l2, rs, s1, R', v, H', rfl, h2, h3, h4, h5, h6, h7⟩ := h
 refine ⟨o :: l1, o', l2, (R, ws) :: rs, s1, R', v, H', rfl, .cons hs h2, h3, h4, by simpa using h5, ?_, by simpa using h7⟩
 rw [show acc.length + (o :: l1).length = (acc ++ [(R, ws)]).length + l1.length by simp; omega]
 exact h6
theorem TriDP.c1 {ops : Array Oper} {A : List (List Nat)} {Q : Exit → St → Prop} {s0 s : St} {acc : List (List Comp × St)} {o : Oper} {l : List Oper} {R : List Comp} {c : Comp} {v : CV} (hg : o.guard = none) (ho : OpOK P N o s R [(c, v)]) (h : TriDP P N ops A Q s0 (acc ++ [(R, [(c, v)])]) l ((c, v) :: s)) : TriDP P N ops A Q s0 acc (o :: l) s := TriDP.cons (StepOK.free hg ho) h
theorem TriDP.c2 {ops : Array Oper} {A : List (List Nat)} {Q : Exit → St → Prop} {s0 s : St} {acc : List (List Comp × St)} {o : Oper} {l : List Oper} {R : List Comp} {c c' : Comp} {v v' : CV} (hg : o.guard = none) (ho : OpOK P N o s R [(c, v), (c', v')]) (h : TriDP P N ops A Q s0 (acc ++ [(R, [(c, v), (c', v')])]) l ((c, v) :: (c', v') :: s)) : TriDP P N ops A Q s0 acc (o :: l) s := TriDP.cons (StepOK.free hg ho) h
theorem TriDP.pan {ops : Array Oper} {A : List (List Nat)} {Q : Exit → St → Prop} {s0 s : St} {acc : List (List Comp × St)} {o : Oper} {l : List Oper} {R : List Comp} {v : Value} {H' : Hp} (hg : o.guard = none) (hp : PanOK P N o s R v H') (ho : ordFrom 0 (acc ++ [(R, [])]) A = true) (ha : (List.range l.length).all (fun j => (A.getD (acc.length + 1 + j) []).contains acc.length) = true)
  (hQ : ∀ f, Q (.panic [{ v := v, recovered := false }]) ((.h, .hp H') :: stS f 0 acc s0)) : TriDP P N ops A Q s0 acc (o :: l) s :=
 ⟨[], o, l, [], s, R, v, H', rfl, .nil s, hg, hp, by simpa using ho, by simpa using ha, by simpa using hQ⟩
theorem Tri.drawnP {s : St} {id : Nat} {l : List Oper} {Q : Exit → St → Prop} (hm : P.follows .mixedOrders = true) (hback : backFrom 0 (l.map edges) = true) (h : TriDP P N l.toArray (ancs [] (l.map edges)) Q s [] l s) : Tri P N (.region id l.toArray true) s Q := by
 obtain ⟨l1, o, l2, rs, s1, R, v, H', rfl, h2, h3, h4, h5, h6, h7⟩ := h
 exact Tri.drawP hm h2 h3 h4 hback (by simpa using h5) (by simpa using h6) (by simpa using h7)
end
/- The data that the program speaks of: schemas, trees, steps; what stands for them. No condition. -/
abbrev Str := List UInt8
def iAV (n : Int) : AV := .int .i64 n
structure Fld where
 name : Str
 num : Int
 ty : Int
 ref : Str
 rep : Bool
 loose : Bool
 one : Str
 deriving DecidableEq, Inhabited
def Fld.cells (f : Fld) : List AV := [.str f.name, .int .i64 f.num, .int .i64 f.ty, .str f.ref, .bool f.rep, .bool f.loose, .str f.one]
def Fld.av (f : Fld) : AV := .agg f.cells
structure Msg where
 name : Str
 fields : List Fld
 barred : List Int
 deriving DecidableEq, Inhabited
def Msg.cells (m : Msg) : List AV := [.str m.name, .sl (m.fields.map Fld.av), .sl (m.barred.map iAV)]
def Msg.av (m : Msg) : AV := .agg m.cells
structure Vlu where
 name : Str
 num : Int
 deriving DecidableEq, Inhabited
def Vlu.cells (v : Vlu) : List AV := [.str v.name, .int .i64 v.num]
def Vlu.av (v : Vlu) : AV := .agg v.cells
structure Enm where
 name : Str
 values : List Vlu
 deriving DecidableEq, Inhabited
def Enm.cells (e : Enm) : List AV := [.str e.name, .sl (e.values.map Vlu.av)]
def Enm.av (e : Enm) : AV := .agg e.cells
structure Sch where
 enums : List Enm
 msgs : List Msg
 deriving DecidableEq, Inhabited
def Sch.cells (s : Sch) : List AV := [.sl (s.enums.map Enm.av), .sl (s.msgs.map Msg.av)]
def Sch.av (s : Sch) : AV := .agg s.cells
structure Rw where
 num : Int
 wire : Int
 n : Nat
 s : Str
 deriving DecidableEq, Inhabited
def Rw.cells (r : Rw) : List AV := [.int .i64 r.num, .int .i64 r.wire, .int .u64 (r.n : Int), .str r.s]
def Rw.av (r : Rw) : AV := .agg r.cells
mutual
inductive Val where
 | mk (n : Nat) (s : Str) (m : List Tree)
inductive Slot where
 | mk (num : Int) (vals : List Val)
inductive Tree where
 | mk (slots : List Slot) (rest : List Rw)
end
instance : Inhabited Tree := ⟨.mk [] []⟩
instance : Inhabited Val := ⟨.mk 0 [] []⟩
instance : Inhabited Slot := ⟨.mk 0 []⟩
def Val.n : Val → Nat | .mk n _ _ => n
def Val.s : Val → Str | .mk _ s _ => s
def Val.m : Val → List Tree | .mk _ _ m => m
def Slot.num : Slot → Int | .mk n _ => n
def Slot.vals : Slot → List Val | .mk _ v => v
def Tree.slots : Tree → List Slot | .mk s _ => s
def Tree.rest : Tree → List Rw | .mk _ r => r
mutual
def Val.av : Val → AV
 | .mk n s m => .agg [.int .u64 (n : Int), .str s, .sl (treesAV m)]
def Slot.av : Slot → AV
 | .mk n vs => .agg [.int .i64 n, .sl (valsAV vs)]
def Tree.av : Tree → AV
 | .mk ss r => .agg [.sl (slotsAV ss), .sl (r.map Rw.av)]
def treesAV : List Tree → List AV
 | [] => []
 | t :: l => t.av :: treesAV l
def valsAV : List Val → List AV
 | [] => []
 | v :: l => v.av :: valsAV l
def slotsAV : List Slot → List AV
 | [] => []
 | s :: l => s.av :: slotsAV l
end
theorem treesAV_map (l : List Tree) : treesAV l = l.map Tree.av := by induction l with | nil => simp [treesAV] | cons t l ih => simp [treesAV, ih]
theorem valsAV_map (l : List Val) : valsAV l = l.map Val.av := by induction l with | nil => simp [valsAV] | cons t l ih => simp [valsAV, ih]
theorem slotsAV_map (l : List Slot) : slotsAV l = l.map Slot.av := by induction l with | nil => simp [slotsAV] | cons t l ih => simp [slotsAV, ih]
def Val.cells (v : Val) : List AV := [.int .u64 (v.n : Int), .str v.s, .sl (v.m.map Tree.av)]
def Slot.cells (x : Slot) : List AV := [.int .i64 x.num, .sl (x.vals.map Val.av)]
def Tree.cells (t : Tree) : List AV := [.sl (t.slots.map Slot.av), .sl (t.rest.map Rw.av)]
theorem Val.av_eq (v : Val) : v.av = .agg v.cells := by cases v; simp [Val.av, Val.cells, Val.n, Val.s, Val.m, treesAV_map]
theorem Slot.av_eq (v : Slot) : v.av = .agg v.cells := by cases v; simp [Slot.av, Slot.cells, Slot.num, Slot.vals, valsAV_map]
theorem Tree.av_eq (v : Tree) : v.av = .agg v.cells := by cases v; simp [Tree.av, Tree.cells, Tree.slots, Tree.rest, slotsAV_map]
structure Stp where
 kind : Int
 msg : Str
 field : Str
 dest : Str
 also : Str
 num : Int
 other : Int
 ty : Int
 names : List Str
 dv : Val
 deriving Inhabited
def Stp.cells (x : Stp) : List AV := [.int .i64 x.kind, .str x.msg, .str x.field, .str x.dest, .str x.also, .int .i64 x.num, .int .i64 x.other, .int .i64 x.ty, .sl (x.names.map .str), .int .u64 (x.dv.n : Int), .str x.dv.s, .sl (x.dv.m.map Tree.av)]
def Stp.av (x : Stp) : AV := .agg x.cells
theorem ixmE {α : Type} {f : α → AV} {c : α → List AV} {xs : List α} {i : Nat} (he : ∀ x, f x = .agg (c x)) (h : i < xs.length) : (xs.map f)[((i : Nat) : Int).toNat]? = some (.agg (c xs[i])) := by
 simp [h, he]
theorem ixmE1 {α : Type} {f : α → AV} {c : α → List AV} {xs : List α} {i : Nat} {j : Int} (he : ∀ x, f x = .agg (c x)) (hj : j = (i : Int)) (h : i < xs.length) : (xs.map f)[j.toNat]? = some (.agg (c xs[i])) := by
 subst hj; simp [h, he]
open Go
/- What the lexer's functions compute, in plain Lean. No condition. -/
def isLet (c : UInt8) : Bool := decide (97 ≤ c.toNat ∧ c.toNat ≤ 122 ∨ 65 ≤ c.toNat ∧ c.toNat ≤ 90)
def isDig (c : UInt8) : Bool := decide (48 ≤ c.toNat ∧ c.toNat ≤ 57)
def isWd (c : UInt8) : Bool := isLet c || isDig c || decide (c.toNat = 95)
def isMark (c : UInt8) : Bool := decide (c.toNat = 123 ∨ c.toNat = 125 ∨ c.toNat = 40 ∨ c.toNat = 41 ∨ c.toNat = 61 ∨ c.toNat = 44 ∨ c.toNat = 46 ∨ c.toNat = 59)
def isBl (c : UInt8) : Bool := decide (c.toNat = 32 ∨ c.toNat = 10 ∨ c.toNat = 9)
def noNl (c : UInt8) : Bool := decide (c.toNat ≠ 10)
/-- how many bytes a text begins with that are such -/
def spn (p : UInt8 → Bool) : List UInt8 → Nat
 | [] => 0
 | c :: r => if p c then spn p r + 1 else 0
theorem spn_le (p : UInt8 → Bool) : ∀ l, spn p l ≤ l.length
 | [] => Nat.le_refl _
 | c :: r => by
  simp only [spn]
  split
  ·have := spn_le p r; simp; omega
  ·simp
theorem spn_drop (p : UInt8 → Bool) : ∀ (l : List UInt8) (i : Nat) (c : UInt8), i ≤ spn p l → l[i]? = some c → (p c = true → i + 1 ≤ spn p l) ∧ (p c = false → spn p l = i)
 | [], i, c, _, h => by simp at h
 | d :: r, i, c, hi, h => by
  simp only [spn] at hi ⊢
  cases i with
  | zero =>
   simp at h; subst h
   refine ⟨fun e => ?_, fun e => ?_⟩
   ·rw [if_pos e]; omega
   ·rw [if_neg (by simp [e])]
  | succ i =>
   split at hi
   ·rename_i hd
    have h2 : r[i]? = some c := by simpa using h
    have := spn_drop p r i c (by omega) h2
    rw [if_pos hd]
    exact ⟨fun e => by have := this.1 e; omega, fun e => by have := this.2 e; omega⟩
   ·omega
structure Tk where
 k : Nat
 s : List UInt8
 n : Nat
 neg : Bool
 pos : Nat
 deriving DecidableEq
def wordT (s : List UInt8) : Tk × Nat :=
 match s with
 | [] => (⟨0, [], 0, false, 0⟩, 0)
 | c :: _ => if isLet c then (⟨1, s.take (spn isWd s), 0, false, 0⟩, spn isWd s) else (⟨0, [], 0, false, 0⟩, 0)
def digs (u : Nat) (neg : Bool) : List UInt8 := if neg && decide (u ≠ 0) then 45 :: Lib.decDigits u else Lib.decDigits u
def isNeg (s : List UInt8) : Bool := Lib.hasPrefix s [45]
def unsg (s : List UInt8) : List UInt8 := Lib.trimPrefix s [45]
def numB (s : List UInt8) : Nat := s.length - (unsg s).length + spn isDig (unsg s)
def numTok (s : List UInt8) : Option (Nat × Bool × Nat) :=
 match Lib.parseUintB 64 ((unsg s).take (spn isDig (unsg s))) with
 | .ok u => if (isNeg s = true ∧ 9223372036854775808 < u) ∨ digs u (isNeg s) ≠ s.take (numB s) then none else some (u, isNeg s, numB s)
 | _ => none
/-- behind the first quote: what is told, and where it ends -/
def txtGo : List UInt8 → List UInt8 → Nat → Option (List UInt8 × Nat)
 | [], _, _ => none
 | c :: r, out, at_ =>
  if c = 39 then
   match r with
   | [] => some (out, at_ + 1)
   | d :: r' => if d = 39 then txtGo r' (out ++ [39]) (at_ + 2) else some (out, at_ + 1)
  else txtGo r (out ++ [c]) (at_ + 1)
def txtT (s : List UInt8) : Option (List UInt8 × Nat) :=
 match s with
 | [] => none
 | c :: r => if c = 39 then txtGo r [] 1 else none
def zeroT : Tk × Nat := (⟨0, [], 0, false, 0⟩, 0)
def markT (s : List UInt8) : Tk × Nat :=
 match s with
 | [] => zeroT
 | c :: _ => if isMark c then (⟨4, [c], 0, false, 0⟩, 1) else zeroT
def numTk (s : List UInt8) : Tk × Nat := match numTok s with
 | some (u, neg, k) => (⟨2, [], u, neg, 0⟩, k)
 | none => zeroT
def txtTk (s : List UInt8) : Tk × Nat := match txtT s with
 | some (o, k) => (⟨3, o, 0, false, 0⟩, k)
 | none => zeroT
def nxtT (s : List UInt8) : Tk × Nat :=
 if 0 < (wordT s).2 then wordT s else if 0 < (numTk s).2 then numTk s else if 0 < (txtTk s).2 then txtTk s else markT s
/-- what stands between tokens: how many bytes of it a text begins with -/
def isRem (r : List UInt8) : Bool := Lib.hasPrefix r [47, 47]
/-- the tokens of a text that begins at p, and where none begins -/
def lexGo (r : List UInt8) (p : Nat) : List Tk × Option Nat :=
 match r with
 | [] => ([], none)
 | c :: r' =>
  if isBl c then lexGo r' (p + 1)
  else if isRem (c :: r') then lexGo ((c :: r').drop (spn noNl (c :: r') - 1 + 1)) (p + spn noNl (c :: r'))
  else
   if (nxtT (c :: r')).2 = 0 then ([], some p)
   else (⟨(nxtT (c :: r')).1.k, (nxtT (c :: r')).1.s, (nxtT (c :: r')).1.n, (nxtT (c :: r')).1.neg, p⟩ :: (lexGo ((c :: r').drop ((nxtT (c :: r')).2 - 1 + 1)) (p + (nxtT (c :: r')).2)).1, (lexGo ((c :: r').drop ((nxtT (c :: r')).2 - 1 + 1)) (p + (nxtT (c :: r')).2)).2)
termination_by r.length
decreasing_by all_goals simp <;> omega
open Go Go.RowKit Go.Proofs
/- Plain laws: names, numbers of fields, types, fields, schemas, as the document defines them. No condition. -/
theorem mixed : Tryz.prog.follows .mixedOrders = true := by kernel_rfl
/-- the place of the first one; -1: there is none -/
def ixFrom {α : Type} (p : α → Bool) : List α → Nat → Int
 | [], _ => -1
 | a :: l, i => if p a then i else ixFrom p l (i + 1)
theorem ixFrom_step {α : Type} {p : α → Bool} {l : List α} {i : Nat} (h : i < l.length) : ixFrom p (l.drop i) i = if p l[i] then (i : Int) else ixFrom p (l.drop (i + 1)) (i + 1) := by
 rw [List.drop_eq_getElem_cons h]; rfl
theorem ixFrom_end {α : Type} {p : α → Bool} {l : List α} {i : Nat} (h : l.length ≤ i) : ixFrom p (l.drop i) i = -1 := by
 rw [List.drop_of_length_le h]; rfl
theorem all_step {α : Type} {p : α → Bool} {l : List α} {i : Nat} (h : i < l.length) : (l.drop i).all p = (p l[i] && (l.drop (i + 1)).all p) := by
 rw [List.drop_eq_getElem_cons h]; rfl
theorem all_end {α : Type} {p : α → Bool} {l : List α} {i : Nat} (h : l.length ≤ i) : (l.drop i).all p = true := by
 rw [List.drop_of_length_le h]; rfl
theorem any_step {α : Type} {p : α → Bool} {l : List α} {i : Nat} (h : i < l.length) : (l.drop i).any p = (p l[i] || (l.drop (i + 1)).any p) := by
 rw [List.drop_eq_getElem_cons h]; rfl
theorem any_end {α : Type} {p : α → Bool} {l : List α} {i : Nat} (h : l.length ≤ i) : (l.drop i).any p = false := by
 rw [List.drop_of_length_le h]; rfl
theorem take_app {α : Type} {l : List α} {i : Nat} {f : α → AV} {acc : List AV} (h : i < l.length) (ha : acc = (l.take i).map f) : acc ++ [f l[i]] = (l.take (i + 1)).map f := by
 rw [ha, List.take_succ_eq_append_getElem h, List.map_append]; rfl
theorem Pure.at {P : Program} {f : FuncId} {a a' : List AV} {r : AV} (h : Pure P f a r) (e : a' = a) : Pure P f a' r := e ▸ h
/-! ### names -/
def letter (c : UInt8) : Bool := (decide (97 ≤ c.toNat) && decide (c.toNat ≤ 122)) || (decide (65 ≤ c.toNat) && decide (c.toNat ≤ 90))
def idc (c : UInt8) : Bool := letter c || (decide (48 ≤ c.toNat) && decide (c.toNat ≤ 57)) || decide (c.toNat = 95)
def wordsL : List Str := [[101, 110, 117, 109], [109, 101, 115, 115, 97, 103, 101], [111, 110, 101, 111, 102], [114, 101, 112, 101, 97, 116, 101, 100], [114, 101, 115, 101, 114, 118, 101, 100], [108, 111, 111, 115, 101], [105, 110, 116, 51, 50], [105, 110, 116, 54, 52], [117, 105, 110, 116, 51, 50], [117, 105, 110, 116, 54, 52], [115, 105, 110, 116, 51, 50], [115, 105, 110, 116, 54, 52], [98, 111, 111, 108], [102, 105, 120, 101, 100, 51, 50], [102, 105, 120, 101, 100, 54, 52], [115, 102, 105, 120, 101, 100, 51, 50], [115, 102, 105, 120, 101, 100, 54, 52], [115, 116, 114, 105, 110, 103], [98, 121, 116, 101, 115], [114, 101, 110, 97, 109, 101], [114, 101, 110, 117, 109, 98, 101, 114], [114, 101, 116, 121, 112, 101], [115, 112, 108, 105, 116], [106, 111, 105, 110], [119, 114, 97, 112], [117, 110, 119, 114, 97, 112], [97, 100, 100], [100, 114, 111, 112], [116, 111], [105, 110, 116, 111], [97, 115], [111, 102], [100, 101, 102, 97, 117, 108, 116], [116, 114, 117, 101], [102, 97, 108, 115, 101]]
def nameOK (s : Str) : Bool := decide (1 ≤ s.length) && decide (s.length ≤ 12) && letter (s.headD 0) && s.all idc && wordsL.all (fun w => !(w == s))
/-- none stands ahead again, from the i-th on -/
def onceFrom (l : List Str) : List Str → Nat → Bool
 | [], _ => true
 | a :: r, i => !((l.take i).any fun b => a == b) && onceFrom l r (i + 1)
def once (l : List Str) : Bool := onceFrom l l 0
def riseS : List Str → Bool
 | a :: b :: l => !(!lessB a b) && riseS (b :: l)
 | _ => true
theorem onceFrom_step {l : List Str} {i : Nat} (h : i < l.length) : onceFrom l (l.drop i) i = (!((l.take i).any fun b => l[i] == b) && onceFrom l (l.drop (i + 1)) (i + 1)) := by
 rw [List.drop_eq_getElem_cons h]; rfl
theorem onceFrom_end {l : List Str} {i : Nat} (h : l.length ≤ i) : onceFrom l (l.drop i) i = true := by
 rw [List.drop_of_length_le h]; rfl
theorem riseS_step {l : List Str} {i : Nat} (h0 : 0 < i) (h : i < l.length) : riseS (l.drop (i - 1)) = (!(!lessB l[i - 1] l[i]) && riseS (l.drop (i + 1 - 1))) := by
 obtain ⟨k, rfl⟩ : ∃ k, i = k + 1 := ⟨i - 1, by omega⟩
 simp only [Nat.add_sub_cancel]
 rw [List.drop_eq_getElem_cons (show k < l.length by omega), List.drop_eq_getElem_cons h]
 rfl
theorem riseS_end {l : List Str} {i : Nat} (h0 : 0 < i) (h : l.length ≤ i) : riseS (l.drop (i - 1)) = true := by
 obtain ⟨k, rfl⟩ : ∃ k, i = k + 1 := ⟨i - 1, by omega⟩
 simp only [Nat.add_sub_cancel]
 by_cases hk : k < l.length
 ·rw [List.drop_eq_getElem_cons hk, List.drop_of_length_le h]; rfl
 ·rw [List.drop_of_length_le (by omega)]; rfl
/-! ### numbers and types -/
def fnum (n : Int) : Bool := decide (1 ≤ n) && decide (n ≤ 536870911) && (decide (n < 19000) || decide (19999 < n))
def tagOK (n w : Int) : Bool := decide (1 ≤ n) && decide (n ≤ 536870911) && (decide (w = 0) || decide (w = 1) || decide (w = 2) || decide (w = 5))
def wholeT (t : Int) : Bool := (decide (1 ≤ t) && decide (t ≤ 6)) || (decide (8 ≤ t) && decide (t ≤ 11))
def numT (t : Int) : Bool := wholeT t || decide (t = 7) || decide (t = 14)
def signT (t : Int) : Bool := decide (t = 1) || decide (t = 2) || decide (t = 5) || decide (t = 6) || decide (t = 10) || decide (t = 11) || decide (t = 14)
def wideT (t : Int) : Bool := decide (t = 2) || decide (t = 4) || decide (t = 6) || decide (t = 9) || decide (t = 11)
def Sch.none (s : Sch) : Bool := decide (s.msgs.length = 0) || s.enums.any (fun e => decide (e.values.length = 0))
def Sch.barred (s : Sch) : Bool := s.msgs.any fun m => m.fields.any fun f => m.barred.any (· == f.num)
def Sch.msgIx (s : Sch) (name : Str) : Int := ixFrom (fun m : Msg => m.name == name) s.msgs 0
/-- a schema's lists are no longer than lists are -/
structure Sch.big (s : Sch) : Prop where
 e : s.enums.length ≤ 9223372036854775807
 m : s.msgs.length ≤ 9223372036854775807
/- Plain laws: values of messages: parts, sameness, how great and how deep. No condition. -/
/-- within, at whatever depth -/
inductive Tree.Sub : Tree → Tree → Prop where
 | refl (t : Tree) : Sub t t
 | step {t t1 t2 : Tree} {v : Val} {x : Slot} (h1 : t1 ∈ v.m) (h2 : v ∈ x.vals) (h3 : x ∈ t2.slots) (h : Sub t t1) : Sub t t2
def Tree.Every (Q : Tree → Prop) (t : Tree) : Prop := ∀ u, Tree.Sub u t → Q u
theorem Tree.Every.here {Q : Tree → Prop} {t : Tree} (h : t.Every Q) : Q t := h t (.refl t)
theorem Tree.Every.sub {Q : Tree → Prop} {t t1 : Tree} {v : Val} {x : Slot} (h : t.Every Q) (h1 : t1 ∈ v.m) (h2 : v ∈ x.vals) (h3 : x ∈ t.slots) : t1.Every Q := fun u hu => h u (.step h1 h2 h3 hu)
theorem Tree.Every.mk {Q : Tree → Prop} {t : Tree} (h : Q t) (hs : ∀ x ∈ t.slots, ∀ v ∈ x.vals, ∀ u ∈ v.m, u.Every Q) : t.Every Q := by
 intro u hu
 cases hu with
 | refl => exact h
 | step h1 h2 h3 hh => exact hs _ h3 _ h2 _ h1 u hh
theorem Tree.sub_lt {t t1 : Tree} {v : Val} {x : Slot} (h1 : t1 ∈ v.m) (h2 : v ∈ x.vals) (h3 : x ∈ t.slots) : SizeOf.sizeOf t1 < SizeOf.sizeOf t := by
 cases t with
 | mk ss r =>
  cases x with
  | mk n vs =>
   cases v with
   | mk k s m =>
    have a1 : SizeOf.sizeOf t1 < SizeOf.sizeOf m := List.sizeOf_lt_of_mem h1
    have a2 : SizeOf.sizeOf (Val.mk k s m) < SizeOf.sizeOf vs := List.sizeOf_lt_of_mem h2
    have a3 : SizeOf.sizeOf (Slot.mk n vs) < SizeOf.sizeOf ss := List.sizeOf_lt_of_mem h3
    simp only [Val.mk.sizeOf_spec, Slot.mk.sizeOf_spec, Tree.mk.sizeOf_spec] at *
    omega
/-- By what is within. -/
theorem Tree.ind {Q : Tree → Prop} (h : ∀ t, (∀ x ∈ t.slots, ∀ v ∈ x.vals, ∀ u ∈ v.m, Q u) → Q t) : ∀ t, Q t := by
 have key : ∀ (n : Nat) t, SizeOf.sizeOf t < n → Q t := by
  intro n
  induction n with
  | zero => intro t ht; omega
  | succ n ih => intro t ht; exact h t fun x hx v hv u hu => ih u (by have := Tree.sub_lt hu hv hx; omega)
 exact fun t => key _ t (Nat.lt_succ_self _)
/-- its lists are no longer than lists are -/
structure Tree.big1 (t : Tree) : Prop where
 s : t.slots.length ≤ 9223372036854775807
 r : t.rest.length ≤ 9223372036854775807
 v : ∀ x ∈ t.slots, x.vals.length ≤ 9223372036854775807
 m : ∀ x ∈ t.slots, ∀ v ∈ x.vals, v.m.length ≤ 9223372036854775807
 vs : ∀ x ∈ t.slots, ∀ v ∈ x.vals, v.s.length ≤ 9223372036854775807
 vn : ∀ x ∈ t.slots, ∀ v ∈ x.vals, v.n < 18446744073709551616
 rs : ∀ r ∈ t.rest, r.s.length ≤ 9223372036854775807
 rn : ∀ r ∈ t.rest, r.n < 18446744073709551616
def Tree.big (t : Tree) : Prop := t.Every Tree.big1
noncomputable def eqb {α : Type} (a b : α) : Bool := @decide (a = b) (Classical.propDecidable _)
theorem eqb_true {α : Type} {a b : α} : eqb a b = true ↔ a = b := by unfold eqb; simp
theorem eqb_false {α : Type} {a b : α} : eqb a b = false ↔ ¬ a = b := by unfold eqb; simp
theorem Tree.ext {a b : Tree} (h1 : a.slots = b.slots) (h2 : a.rest = b.rest) : a = b := by cases a; cases b; simp [Tree.slots, Tree.rest] at *; exact ⟨h1, h2⟩
theorem Slot.ext {a b : Slot} (h1 : a.num = b.num) (h2 : a.vals = b.vals) : a = b := by cases a; cases b; simp [Slot.num, Slot.vals] at *; exact ⟨h1, h2⟩
theorem Val.ext {a b : Val} (h1 : a.n = b.n) (h2 : a.s = b.s) (h3 : a.m = b.m) : a = b := by cases a; cases b; simp [Val.n, Val.s, Val.m] at *; exact ⟨h1, h2, h3⟩
theorem take_eq_step {α : Type} {a b : List α} {i : Nat} (ha : i < a.length) (hb : i < b.length) (h : a.take i = b.take i) (e : a[i] = b[i]) : a.take (i + 1) = b.take (i + 1) := by
 rw [List.take_succ_eq_append_getElem ha, List.take_succ_eq_append_getElem hb, h, e]
theorem take_eq_end {α : Type} {a b : List α} {i : Nat} (hl : a.length = b.length) (hi : a.length ≤ i) (h : a.take i = b.take i) : a = b := by
 rwa [List.take_of_length_le hi, List.take_of_length_le (by omega)] at h
theorem ne_at {α : Type} {a b : List α} {i : Nat} (ha : i < a.length) (hb : i < b.length) (e : ¬ a[i] = b[i]) : ¬ a = b := by
 rintro rfl; exact e rfl
/-! ### how much of so much a value leaves (numbers wrap round) -/
abbrev w64 (n : Int) : Int := IntKind.i64.wrap n
def leftR : List Rw → Int → Int
 | [], n => n
 | x :: l, n => if 0 ≤ n then leftR l (w64 (n - w64 ((x.s.length : Int).tdiv 20))) else n
mutual
def Tree.left : Tree → Int → Int → Int
 | .mk ss r, n, d => if d ≤ 0 then -1 else leftS ss (leftR r (w64 (w64 (n - (r.length : Int)) - (ss.length : Int)))) d
def Slot.left : Slot → Int → Int → Int
 | .mk _ vs, n, d => leftV vs (w64 (n - (vs.length : Int))) d
def Val.left : Val → Int → Int → Int
 | .mk _ s m, n, d => leftT m (w64 (n - w64 ((s.length : Int).tdiv 20))) d
def leftS : List Slot → Int → Int → Int
 | [], n, _ => n
 | x :: l, n, d => if 0 ≤ n then leftS l (x.left n d) d else n
def leftV : List Val → Int → Int → Int
 | [], n, _ => n
 | x :: l, n, d => if 0 ≤ n then leftV l (x.left n d) d else n
def leftT : List Tree → Int → Int → Int
 | [], n, _ => n
 | x :: l, n, d => if 0 ≤ n then leftT l (x.left (w64 (n - 1)) (w64 (d - 1))) d else n
end
theorem Tree.left_eq (t : Tree) (n d : Int) : t.left n d = if d ≤ 0 then -1 else leftS t.slots (leftR t.rest (w64 (w64 (n - (t.rest.length : Int)) - (t.slots.length : Int)))) d := by
 cases t; simp [Tree.left, Tree.slots, Tree.rest]
theorem Slot.left_eq (x : Slot) (n d : Int) : x.left n d = leftV x.vals (w64 (n - (x.vals.length : Int))) d := by
 cases x; simp [Slot.left, Slot.vals]
theorem Val.left_eq (x : Val) (n d : Int) : x.left n d = leftT x.m (w64 (n - w64 ((x.s.length : Int).tdiv 20))) d := by
 cases x; simp [Val.left, Val.s, Val.m]
theorem leftR_step {l : List Rw} {i : Nat} {n : Int} (h : i < l.length) : leftR (l.drop i) n = if 0 ≤ n then leftR (l.drop (i + 1)) (w64 (n - w64 ((l[i].s.length : Int).tdiv 20))) else n := by
 rw [List.drop_eq_getElem_cons h]; rfl
theorem leftS_step {l : List Slot} {i : Nat} {n d : Int} (h : i < l.length) : leftS (l.drop i) n d = if 0 ≤ n then leftS (l.drop (i + 1)) (l[i].left n d) d else n := by
 rw [List.drop_eq_getElem_cons h]; simp [leftS]
theorem leftV_step {l : List Val} {i : Nat} {n d : Int} (h : i < l.length) : leftV (l.drop i) n d = if 0 ≤ n then leftV (l.drop (i + 1)) (l[i].left n d) d else n := by
 rw [List.drop_eq_getElem_cons h]; simp [leftV]
theorem leftT_step {l : List Tree} {i : Nat} {n d : Int} (h : i < l.length) : leftT (l.drop i) n d = if 0 ≤ n then leftT (l.drop (i + 1)) (l[i].left (w64 (n - 1)) (w64 (d - 1))) d else n := by
 rw [List.drop_eq_getElem_cons h]; simp [leftT]
theorem leftR_end {l : List Rw} {i : Nat} {n : Int} (h : l.length ≤ i) : leftR (l.drop i) n = n := by rw [List.drop_of_length_le h]; rfl
theorem leftS_end {l : List Slot} {i : Nat} {n d : Int} (h : l.length ≤ i) : leftS (l.drop i) n d = n := by rw [List.drop_of_length_le h]; simp [leftS]
theorem leftV_end {l : List Val} {i : Nat} {n d : Int} (h : l.length ≤ i) : leftV (l.drop i) n d = n := by rw [List.drop_of_length_le h]; simp [leftV]
theorem leftT_end {l : List Tree} {i : Nat} {n d : Int} (h : l.length ≤ i) : leftT (l.drop i) n d = n := by rw [List.drop_of_length_le h]; simp [leftT]
theorem leftR_neg {l : List Rw} {n : Int} (h : ¬ 0 ≤ n) : leftR l n = n := by cases l <;> simp [leftR]; omega
theorem leftS_neg {l : List Slot} {n d : Int} (h : ¬ 0 ≤ n) : leftS l n d = n := by cases l <;> simp [leftS]; omega
theorem leftV_neg {l : List Val} {n d : Int} (h : ¬ 0 ≤ n) : leftV l n d = n := by cases l <;> simp [leftV]; omega
theorem leftT_neg {l : List Tree} {n d : Int} (h : ¬ 0 ≤ n) : leftT l n d = n := by cases l <;> simp [leftT]; omega
/- Plain laws: numbers of types, on the wire and in values. No condition. -/
def kindT (t : Int) : Int :=
 if t = 1 ∨ t = 5 ∨ t = 10 then 7 else if t = 2 ∨ t = 6 ∨ t = 11 then 15 else if t = 3 ∨ t = 8 then 3 else if t = 4 ∨ t = 9 then 11 else if t = 7 then 2 else if t = 14 then 6 else 0
theorem ty_cases (t : Int) : (t < 1 ∨ 15 < t) ∨ t = 1 ∨ t = 2 ∨ t = 3 ∨ t = 4 ∨ t = 5 ∨ t = 6 ∨ t = 7 ∨ t = 8 ∨ t = 9 ∨ t = 10 ∨ t = 11 ∨ t = 12 ∨ t = 13 ∨ t = 14 ∨ t = 15 := by omega
theorem kindT_out {t : Int} (h : t < 1 ∨ 15 < t) : kindT t = 0 := by unfold kindT; split <;> first | omega | (split <;> first | omega | (split <;> first | omega | (split <;> first | omega | (split <;> first | omega | (split <;> first | omega | rfl)))))
theorem kind_num (t : Int) : (!(ibits .and .i64 (kindT t) 2 == 0)) = numT t := by
 rcases ty_cases t with h | h
 ·rw [kindT_out h, show ibits .and .i64 0 2 = 0 by decide]
  have : numT t = false := by unfold numT wholeT; simp; omega
  rw [this]; rfl
 ·rcases h with rfl | rfl | rfl | rfl | rfl | rfl | rfl | rfl | rfl | rfl | rfl | rfl | rfl | rfl | rfl <;> decide
theorem kind_whole (t : Int) : (!(ibits .and .i64 (kindT t) 1 == 0)) = wholeT t := by
 rcases ty_cases t with h | h
 ·rw [kindT_out h, show ibits .and .i64 0 1 = 0 by decide]
  have : wholeT t = false := by unfold wholeT; simp; omega
  rw [this]; rfl
 ·rcases h with rfl | rfl | rfl | rfl | rfl | rfl | rfl | rfl | rfl | rfl | rfl | rfl | rfl | rfl | rfl <;> decide
theorem kind_sign (t : Int) : (!(ibits .and .i64 (kindT t) 4 == 0)) = signT t := by
 rcases ty_cases t with h | h
 ·rw [kindT_out h, show ibits .and .i64 0 4 = 0 by decide]
  have : signT t = false := by unfold signT; simp; omega
  rw [this]; rfl
 ·rcases h with rfl | rfl | rfl | rfl | rfl | rfl | rfl | rfl | rfl | rfl | rfl | rfl | rfl | rfl | rfl <;> decide
theorem kind_wide (t : Int) : (!(ibits .and .i64 (kindT t) 8 == 0)) = wideT t := by
 rcases ty_cases t with h | h
 ·rw [kindT_out h, show ibits .and .i64 0 8 = 0 by decide]
  have : wideT t = false := by unfold wideT; simp; omega
  rw [this]; rfl
 ·rcases h with rfl | rfl | rfl | rfl | rfl | rfl | rfl | rfl | rfl | rfl | rfl | rfl | rfl | rfl | rfl <;> decide
theorem kind_cell {t : Int} (h0 : 0 ≤ t) (h1 : t < 16) : ([.int .i64 0, .int .i64 7, .int .i64 15, .int .i64 3, .int .i64 11, .int .i64 7, .int .i64 15, .int .i64 2, .int .i64 3, .int .i64 11, .int .i64 7, .int .i64 15, .int .i64 0, .int .i64 0, .int .i64 6, .int .i64 0] : List AV)[t.toNat]? = some (.int .i64 (kindT t)) := by
 have : t = 0 ∨ t = 1 ∨ t = 2 ∨ t = 3 ∨ t = 4 ∨ t = 5 ∨ t = 6 ∨ t = 7 ∨ t = 8 ∨ t = 9 ∨ t = 10 ∨ t = 11 ∨ t = 12 ∨ t = 13 ∨ t = 14 ∨ t = 15 := by omega
 rcases this with rfl | rfl | rfl | rfl | rfl | rfl | rfl | rfl | rfl | rfl | rfl | rfl | rfl | rfl | rfl | rfl <;> rfl
/-- a number's sign -/
def s64 (n : Nat) : Int := IntKind.i64.wrap (n : Int)
theorem s64_eq {n : Nat} (h : n < 18446744073709551616) : s64 n = if n < 9223372036854775808 then (n : Int) else (n : Int) - 18446744073709551616 := by
 unfold s64; simp only [IntKind.wrap, IntKind.bits, IntKind.signed]; simp; omega
def fitsT (z : Int) : Bool := decide (-2147483648 ≤ z) && decide (z ≤ 2147483647)
theorem fits_wrap (z : Int) : (IntKind.i64.wrap (IntKind.i32.wrap z) == z) = fitsT z := by
 have h : IntKind.i64.wrap (IntKind.i32.wrap z) = IntKind.i32.wrap z := by simp only [IntKind.wrap, IntKind.bits, IntKind.signed]; simp; omega
 rw [h]
 simp only [IntKind.wrap, IntKind.bits, IntKind.signed, fitsT]
 rw [Bool.eq_iff_iff]
 simp
 omega
def mayT (t : Int) (n : Nat) : Bool :=
 if t < 1 ∨ 15 < t then false else if wideT t then true else if signT t then fitsT (s64 n) else if t = 3 ∨ t = 8 then decide (n < 4294967296) else if t = 7 then decide (n < 2) else decide (n = 0)
/- Plain laws: which values are values of a message of a schema. No condition. -/
theorem ixFrom_cases {α : Type} (p : α → Bool) : ∀ (l : List α) (k : Nat), (ixFrom p l k = -1 ∧ l.find? p = none) ∨ ∃ (i : Nat) (h : i < l.length), ixFrom p l k = ((k + i : Nat) : Int) ∧ l.find? p = some l[i] ∧ p l[i] = true
 | [], k => .inl ⟨rfl, rfl⟩
 | a :: l, k => by
  by_cases h : p a = true
  ·refine .inr ⟨0, by simp, ?_, ?_, h⟩
   ·simp [ixFrom, h]
   ·simp [h]
  ·have h' : p a = false := by simpa using h
   rcases ixFrom_cases p l (k + 1) with ⟨h1, h2⟩ | ⟨i, hi, h1, h2, h3⟩
   ·exact .inl ⟨by simp [ixFrom, h', h1], by simp [h', h2]⟩
   ·exact .inr ⟨i + 1, by simp; omega, by simp [ixFrom, h', h1]; omega, by simp [h', h2], by simpa using h3⟩
def Msg.fix (m : Msg) (num : Int) : Option Fld := m.fields.find? (fun f => f.num == num)
def Msg.at (m : Msg) (num : Int) : Int := ixFrom (fun f : Fld => f.num == num) m.fields 0
theorem Msg.at_cases (m : Msg) (num : Int) : (m.at num = -1 ∧ m.fix num = none) ∨ ∃ (i : Nat) (h : i < m.fields.length), m.at num = (i : Int) ∧ m.fix num = some m.fields[i] ∧ m.fields[i].num = num := by
 rcases ixFrom_cases (fun f : Fld => f.num == num) m.fields 0 with h | ⟨i, h, h1, h2, h3⟩
 ·exact .inl h
 ·exact .inr ⟨i, h, by simpa [Msg.at] using h1, h2, by simpa using h3⟩
def Msg.ixN (m : Msg) (num : Int) : Nat := (m.at num).toNat
theorem Msg.at_nn {m : Msg} {num : Int} (h : decide (m.at num < 0) = false) : 0 ≤ m.at num := by have := of_decide_eq_false h; omega
theorem Msg.at_eq {m : Msg} {num : Int} (h : decide (m.at num < 0) = false) : m.at num = (m.ixN num : Int) := by have := of_decide_eq_false h; unfold Msg.ixN; omega
theorem Msg.at_lt {m : Msg} {num : Int} (h : decide (m.at num < 0) = false) : m.ixN num < m.fields.length := by
 have h := of_decide_eq_false h
 rcases m.at_cases num with ⟨h1, _⟩ | ⟨i, hi, h1, _⟩
 ·omega
 ·unfold Msg.ixN; rw [h1]; simpa using hi
theorem Msg.at_fix {m : Msg} {num : Int} (h : decide (m.at num < 0) = false) : m.fix num = some (m.fields[m.ixN num]'(Msg.at_lt h)) := by
 have h' := of_decide_eq_false h
 rcases m.at_cases num with ⟨h1, _⟩ | ⟨i, hi, h1, h2, _⟩
 ·omega
 ·rw [h2]; congr 1; have : m.ixN num = i := by unfold Msg.ixN; rw [h1]; simp
  simp [this]
theorem Msg.at_no {m : Msg} {num : Int} (h : decide (m.at num < 0) = true) : m.fix num = none := by
 have h := of_decide_eq_true h
 rcases m.at_cases num with ⟨h1, h2⟩ | ⟨i, hi, h1, _⟩
 ·exact h2
 ·omega
def Sch.msgAt (s : Sch) (name : Str) : Option Msg := s.msgs.find? (fun m => m.name == name)
theorem Sch.ix_cases (s : Sch) (name : Str) : (s.msgIx name = -1 ∧ s.msgAt name = Option.none) ∨ ∃ (i : Nat) (h : i < s.msgs.length), s.msgIx name = (i : Int) ∧ s.msgAt name = some s.msgs[i] ∧ s.msgs[i].name = name := by
 rcases ixFrom_cases (fun m : Msg => m.name == name) s.msgs 0 with h | ⟨i, h, h1, h2, h3⟩
 ·exact .inl h
 ·exact .inr ⟨i, h, by simpa [Sch.msgIx] using h1, h2, by simpa using h3⟩
def Sch.ixN (s : Sch) (name : Str) : Nat := (s.msgIx name).toNat
theorem Sch.ix_nn {s : Sch} {name : Str} (h : decide (s.msgIx name < 0) = false) : 0 ≤ s.msgIx name := by have := of_decide_eq_false h; omega
theorem Sch.ix_eq {s : Sch} {name : Str} (h : decide (s.msgIx name < 0) = false) : s.msgIx name = (s.ixN name : Int) := by have := of_decide_eq_false h; unfold Sch.ixN; omega
theorem Sch.ix_lt {s : Sch} {name : Str} (h : decide (s.msgIx name < 0) = false) : s.ixN name < s.msgs.length := by
 have h := of_decide_eq_false h
 rcases s.ix_cases name with ⟨h1, _⟩ | ⟨i, hi, h1, _⟩
 ·omega
 ·unfold Sch.ixN; rw [h1]; simpa using hi
theorem Sch.ix_at {s : Sch} {name : Str} (h : decide (s.msgIx name < 0) = false) : s.msgAt name = some (s.msgs[s.ixN name]'(Sch.ix_lt h)) := by
 have h' := of_decide_eq_false h
 rcases s.ix_cases name with ⟨h1, _⟩ | ⟨i, hi, h1, h2, _⟩
 ·omega
 ·rw [h2]; congr 1; have : s.ixN name = i := by unfold Sch.ixN; rw [h1]; simp
  simp [this]
theorem Sch.ix_no {s : Sch} {name : Str} (h : decide (s.msgIx name < 0) = true) : s.msgAt name = Option.none := by
 have h := of_decide_eq_true h
 rcases s.ix_cases name with ⟨h1, h2⟩ | ⟨i, hi, h1, _⟩
 ·exact h2
 ·omega
theorem ntr {b : Bool} (h : (!b) = true) : b = false := by cases b <;> simp_all
theorem nfl {b : Bool} (h : (!b) = false) : b = true := by cases b <;> simp_all
theorem dge {a : Int} (h : decide (0 ≤ a) = true) : decide (a < 0) = false := by have := of_decide_eq_true h; simp; omega
theorem dlt {a : Int} (h : decide (0 ≤ a) = false) : decide (a < 0) = true := by have := of_decide_eq_false h; simp; omega
/-- what the walks ask of a schema -/
structure Sch.fine (s : Sch) : Prop where
 m : s.msgs.length ≤ 1000
 f : ∀ m ∈ s.msgs, m.fields.length ≤ 1000
 o : ∀ m ∈ s.msgs, ∀ f ∈ m.fields, f.one.length ≤ 1000
theorem wf64 (n : Int) : (Lit.int .i64 (IntKind.i64.wrap n)).wf = true := by
 simp only [Lit.wf, IntKind.min, IntKind.max, IntKind.wrap, IntKind.bits, IntKind.signed]; simp; omega
def Fld.hidden (f : Fld) : Bool := !f.rep && f.one == [] && !decide (f.ty = 15)
def Rw.right (r : Rw) : Bool := tagOK r.num r.wire && (if r.wire = 2 then decide (r.n = 0) else r.s == [] && (!decide (r.wire = 5) || decide (r.n < 4294967296)))
def restOK (m : Msg) (r : Rw) : Bool := r.right && (m.fix r.num).isNone
/-- the name of a slot's oneof -/
def Msg.oneOf (m : Msg) (x : Slot) : Str := ((m.fix x.num).map (·.one)).getD []
def newOne (ones : List Str) (one : Str) : Bool := one == [] || !ones.any (· == one)
mutual
def Val.ok (s : Sch) (f : Fld) : Val → Bool
 | .mk n str m =>
  if numT f.ty then mayT f.ty n && str == [] && decide (m.length = 0)
  else if f.ty = 12 then decide (n = 0) && decide (m.length = 0) && Lib.validD str
  else if f.ty = 13 then decide (n = 0) && decide (m.length = 0)
  else if f.ty = 15 then decide (n = 0) && str == [] && treeOk1 s f.ref m
  else false
def Slot.ok (s : Sch) (m : Msg) : Slot → Bool
 | .mk num vs => match m.fix num with
  | none => false
  | some f => decide (0 < vs.length) && (f.rep || decide (vs.length = 1)) && valsOk s f vs && (!f.hidden || (!decide ((vs.head?.map Val.n).getD 0 = 0) || !((vs.head?.map Val.s).getD [] == [])))
def Tree.ok (s : Sch) (name : Str) : Tree → Bool
 | .mk ss r => match s.msgAt name with
  | none => false
  | some m => slotsOk s m ss none [] && r.all (restOK m)
def valsOk (s : Sch) (f : Fld) : List Val → Bool
 | [] => true
 | v :: l => v.ok s f && valsOk s f l
def slotsOk (s : Sch) (m : Msg) : List Slot → Option Int → List Str → Bool
 | [], _, _ => true
 | x :: l, last, ones => (match last with | none => true | some n => decide (n < x.num)) && x.ok s m && newOne ones (m.oneOf x) && slotsOk s m l (some x.num) (ones ++ [m.oneOf x])
def treeOk1 (s : Sch) (name : Str) : List Tree → Bool
 | [t] => t.ok s name
 | _ => false
end
theorem Val.ok_eq (s : Sch) (f : Fld) (v : Val) : v.ok s f = if numT f.ty then mayT f.ty v.n && v.s == [] && decide (v.m.length = 0)
  else if f.ty = 12 then decide (v.n = 0) && decide (v.m.length = 0) && Lib.validD v.s
  else if f.ty = 13 then decide (v.n = 0) && decide (v.m.length = 0)
  else if f.ty = 15 then decide (v.n = 0) && v.s == [] && treeOk1 s f.ref v.m
  else false := by cases v; simp only [Val.ok, Val.n, Val.s, Val.m]; rfl
theorem Slot.ok_eq (s : Sch) (m : Msg) (x : Slot) : x.ok s m = match m.fix x.num with
  | none => false
  | some f => decide (0 < x.vals.length) && (f.rep || decide (x.vals.length = 1)) && valsOk s f x.vals && (!f.hidden || (!decide ((x.vals.head?.map Val.n).getD 0 = 0) || !((x.vals.head?.map Val.s).getD [] == []))) := by
 cases x; simp only [Slot.ok, Slot.num, Slot.vals]; rfl
theorem Tree.ok_eq (s : Sch) (name : Str) (t : Tree) : t.ok s name = match s.msgAt name with
  | none => false
  | some m => slotsOk s m t.slots none [] && t.rest.all (restOK m) := by cases t; simp only [Tree.ok, Tree.slots, Tree.rest]
theorem treeOk1_one (s : Sch) (name : Str) {l : List Tree} (h : l.length = 1) : treeOk1 s name l = (l[0]'(by omega)).ok s name := by
 match l, h with
 | [t], _ => simp [treeOk1]
theorem treeOk1_no (s : Sch) (name : Str) {l : List Tree} (h : l.length ≠ 1) : treeOk1 s name l = false := by
 match l, h with
 | [], _ => simp [treeOk1]
 | _ :: _ :: _, _ => simp [treeOk1]
theorem valsOk_all (s : Sch) (f : Fld) (l : List Val) : valsOk s f l = l.all (Val.ok s f) := by
 induction l with
 | nil => simp [valsOk]
 | cons v l ih => simp [valsOk, ih]
def lastN (l : List Slot) (i : Nat) : Option Int := if h : 0 < i ∧ i ≤ l.length then some (l[i - 1]'(by omega)).num else none
theorem lastN_step {l : List Slot} {i : Nat} (h : i < l.length) : lastN l (i + 1) = some l[i].num := by
 unfold lastN; rw [dif_pos ⟨by omega, by omega⟩]; simp
theorem lastN_zero (l : List Slot) : lastN l 0 = none := by unfold lastN; simp
theorem lastN_pos {l : List Slot} {i : Nat} (h0 : 0 < i) (h : i < l.length) : lastN l i = some (l[i - 1]'(by omega)).num := by
 unfold lastN; rw [dif_pos ⟨h0, by omega⟩]
theorem Slot.ok_vals {s : Sch} {m : Msg} {x : Slot} {f : Fld} (hf : m.fix x.num = some f) : x.ok s m = (decide (0 < x.vals.length) && (f.rep || decide (x.vals.length = 1)) && x.vals.all fun v => v.ok s f && (!f.hidden || (!decide (v.n = 0) || !(v.s == [])))) := by
 rw [Slot.ok_eq, hf]
 simp only [valsOk_all]
 cases hv : x.vals with
 | nil => simp
 | cons v r =>
  cases hh : f.hidden with
  | false => simp
  | true =>
   have hr : f.rep = false := by unfold Fld.hidden at hh; simp at hh; exact hh.1.1
   cases r with
   | nil => simp [hr]; first | done | rfl
   | cons w r => simp [hr]
theorem Slot.ok_at {s : Sch} {m : Msg} {x : Slot} (h : x.ok s m = true) : decide (m.at x.num < 0) = false := by
 by_cases hd : decide (m.at x.num < 0) = true
 ·rw [Slot.ok_eq, Msg.at_no hd] at h; cases h
 ·simpa using hd
theorem headN {l : List Val} (h : 0 < l.length) : (l.head?.map Val.n).getD 0 = l[0].n := by cases l with | nil => simp at h | cons a l => rfl
theorem headS {l : List Val} (h : 0 < l.length) : (l.head?.map Val.s).getD [] = l[0].s := by cases l with | nil => simp at h | cons a l => rfl
theorem newOne_any {m : Msg} {l : List Slot} {one : Str} : newOne (l.map m.oneOf) one = !(l.any fun y => !(one == []) && (m.oneOf y == one)) := by
 unfold newOne
 by_cases h : one = []
 ·subst h; simp
 ·have h' : (one == []) = false := by simpa using h
  rw [h']; simp [List.any_map, Function.comp_def]
theorem any_count {l : List Str} {a : Str} : l.any (· == a) = decide (0 < l.count a) := by
 rw [Bool.eq_iff_iff]; simp [List.count_pos_iff]
theorem oneOf_fix {m : Msg} {x : Slot} {f : Fld} (h : m.fix x.num = some f) : m.oneOf x = f.one := by unfold Msg.oneOf; rw [h]; rfl
theorem cnt_step {m : Msg} {l : List Slot} {i : Nat} {f : List UInt8 → Int} {one : Str} (hi : i < l.length) (hf : ∀ key, f key = ((((l.take i).map m.oneOf).count key : Nat) : Int)) (ho : m.oneOf l[i] = one) (hb : i < 9223372036854775807) :
  ∀ key, (if key = one then IntKind.i64.wrap (f one + 1) else f key) = ((((l.take (i + 1)).map m.oneOf).count key : Nat) : Int) := by
 intro key
 rw [List.take_succ_eq_append_getElem hi, List.map_append, List.count_append]
 have hle : ((l.take i).map m.oneOf).count one ≤ i := by
  have := List.count_le_length (a := one) (l := (l.take i).map m.oneOf)
  rw [List.length_map, List.length_take] at this; omega
 split
 ·rename_i e; subst e
  rw [hf, inc (by omega)]
  simp [ho]
 ·rename_i e
  rw [hf]
  have : [l[i]].map m.oneOf = [one] := by simp [ho]
  rw [this, List.count_singleton, if_neg (by simpa using Ne.symm e)]
  simp
theorem cnt_new {m : Msg} {l : List Slot} {i : Nat} {f : List UInt8 → Int} {one : Str} (hf : ∀ key, f key = ((((l.take i).map m.oneOf).count key : Nat) : Int)) (hb : i < 9223372036854775807) :
  decide (1 < IntKind.i64.wrap (f one + 1)) = ((l.take i).map m.oneOf).any (· == one) := by
 have hle : ((l.take i).map m.oneOf).count one ≤ i := by
  have := List.count_le_length (a := one) (l := (l.take i).map m.oneOf)
  rw [List.length_map, List.length_take] at this; omega
 have key : ∀ c : Nat, decide ((1 : Int) < ((c + 1 : Nat) : Int)) = decide (0 < c) := fun c => by rw [Bool.eq_iff_iff]; simp; omega
 rw [hf, inc (by omega), any_count]
 exact key _
def slotsAt (s : Sch) (m : Msg) (l : List Slot) (i : Nat) : Bool := slotsOk s m (l.drop i) (lastN l i) ((l.take i).map m.oneOf)
theorem slotsAt_step {s : Sch} {m : Msg} {l : List Slot} {i : Nat} (h : i < l.length) : slotsAt s m l i = ((match lastN l i with | none => true | some n => decide (n < l[i].num)) && l[i].ok s m && newOne ((l.take i).map m.oneOf) (m.oneOf l[i]) && slotsAt s m l (i + 1)) := by
 unfold slotsAt
 rw [List.drop_eq_getElem_cons h, lastN_step h, List.take_succ_eq_append_getElem h, List.map_append]
 simp [slotsOk]
theorem slotsAt_end {s : Sch} {m : Msg} {l : List Slot} {i : Nat} (h : l.length ≤ i) : slotsAt s m l i = true := by
 unfold slotsAt; rw [List.drop_of_length_le h]; simp [slotsOk]
theorem slotsAt_zero (s : Sch) (m : Msg) (l : List Slot) : slotsAt s m l 0 = slotsOk s m l none [] := by
 unfold slotsAt lastN; simp
theorem rising_len : ∀ {l1 l2 : List Int}, l1.Pairwise (· < ·) → (∀ a ∈ l1, a ∈ l2) → l1.length ≤ l2.length
 | [], _, _, _ => by simp
 | a :: l1, l2, h, hs => by
  have ha : a ∈ l2 := hs a (by simp)
  have h2 := List.pairwise_cons.1 h
  have := rising_len (l1 := l1) (l2 := l2.erase a) h2.2 fun b hb => (List.mem_erase_of_ne (by have := h2.1 b hb; omega)).2 (hs b (by simp [hb]))
  rw [List.length_erase_of_mem ha] at this
  have : 0 < l2.length := List.length_pos_of_mem ha
  simp; omega
/-- the slots so far are known, and rise -/
structure goodS (m : Msg) (l : List Slot) (i : Nat) : Prop where
 le : i ≤ l.length
 kn : ∀ x ∈ l.take i, (m.fix x.num).isSome = true
 up : ((l.take i).map Slot.num).Pairwise (· < ·)
theorem goodS.zero (m : Msg) (l : List Slot) : goodS m l 0 := ⟨by omega, by simp, by simp⟩
theorem goodS.step {m : Msg} {l : List Slot} {i : Nat} (g : goodS m l i) (h : i < l.length) (hl : (match lastN l i with | none => true | some n => decide (n < l[i].num)) = true) (hf : (m.fix l[i].num).isSome = true) : goodS m l (i + 1) := by
 refine ⟨h, fun x hx => ?_, ?_⟩
 ·rw [List.take_succ_eq_append_getElem h] at hx
  rcases List.mem_append.1 hx with hx | hx
  ·exact g.kn x hx
  ·rw [List.mem_singleton.1 hx]; exact hf
 ·rw [List.take_succ_eq_append_getElem h, List.map_append, List.pairwise_append]
  refine ⟨g.up, by simp, fun a ha b hb => ?_⟩
  simp at hb
  subst hb
  by_cases h0 : 0 < i
  ·rw [lastN_pos h0 h] at hl
   have hlt : (l[i - 1]'(by omega)).num < l[i].num := by simpa using hl
   obtain ⟨j, hj, rfl⟩ := List.getElem_of_mem ha
   rw [List.length_map, List.length_take] at hj
   by_cases hji : j = i - 1
   ·subst hji; simpa using hlt
   ·have hp := List.pairwise_iff_getElem.1 g.up j (i - 1) (by simp; omega) (by simp; omega) (by omega)
    simp at hp
    simp
    omega
  ·have : i = 0 := by omega
   subst this
   simp at ha
theorem goodS.len {m : Msg} {l : List Slot} {i : Nat} (g : goodS m l i) : i ≤ m.fields.length := by
 have h1 := rising_len (l2 := m.fields.map (·.num)) g.up fun a ha => by
  obtain ⟨x, hx, rfl⟩ := List.mem_map.1 ha
  have hk := g.kn x hx
  rcases m.at_cases x.num with ⟨_, h2⟩ | ⟨q, hq, _, h2, h3⟩
  ·rw [h2] at hk; cases hk
  ·exact List.mem_map.2 ⟨_, List.getElem_mem hq, h3⟩
 rw [List.length_map, List.length_map, List.length_take] at h1
 have := g.le
 omega
theorem Slot.ok_some {s : Sch} {m : Msg} {x : Slot} (h : x.ok s m = true) : (m.fix x.num).isSome = true := by
 rw [Msg.at_fix (Slot.ok_at h)]; rfl
/- Plain laws: a list of texts, sorted, rises just if none is there twice. No condition. -/
theorem lessB_iff : ∀ {a b : Str}, lessB a b = true ↔ a < b
 | a, [] => by simp [lessB]
 | [], b :: l => by simp [lessB]
 | a :: l, b :: m => by
  simp only [lessB, Bool.or_eq_true, Bool.and_eq_true, decide_eq_true_eq, beq_iff_eq, List.cons_lt_cons_iff]
  rw [lessB_iff]
theorem rise_pw : ∀ {l : List Str}, riseS l = true → l.Pairwise (· < ·)
 | [], _ => .nil
 | [a], _ => by simp
 | a :: b :: l, h => by
  simp only [riseS, Bool.and_eq_true, Bool.not_not] at h
  have ih := rise_pw h.2
  have hab := lessB_iff.1 h.1
  refine .cons (fun x hx => ?_) ih
  rcases List.mem_cons.1 hx with rfl | hx
  ·exact hab
  ·exact List.lt_trans hab ((List.pairwise_cons.1 ih).1 x hx)
theorem rise_of : ∀ {l : List Str}, l.Pairwise (· ≤ ·) → l.Nodup → riseS l = true
 | [], _, _ => rfl
 | [a], _, _ => rfl
 | a :: b :: l, h, hn => by
  have h1 := List.pairwise_cons.1 h
  have h2 := List.nodup_cons.1 hn
  have hab : a ≤ b := h1.1 b (by simp)
  have hne : a ≠ b := fun e => h2.1 (by simp [e])
  have hlt : a < b := by
   rcases List.le_iff_lt_or_eq.1 hab with h | h
   ·exact h
   ·exact absurd h hne
  simp only [riseS, Bool.and_eq_true, Bool.not_not]
  exact ⟨lessB_iff.2 hlt, rise_of h1.2 h2.2⟩
theorem onceFrom_iff : ∀ (r pre : List Str), onceFrom (pre ++ r) r pre.length = true ↔ (∀ x ∈ r, x ∉ pre) ∧ r.Nodup
 | [], pre => by simp [onceFrom]
 | a :: r, pre => by
  have ih := onceFrom_iff r (pre ++ [a])
  rw [List.append_assoc, List.length_append] at ih
  simp only [List.singleton_append, List.length_cons, List.length_nil, Nat.zero_add] at ih
  simp only [onceFrom, Bool.and_eq_true, Bool.not_eq_true', List.take_left, ih]
  constructor
  ·rintro ⟨h1, h2, h3⟩
   have h1' : a ∉ pre := fun hm => by
    have : (pre.any fun b => a == b) = true := List.any_eq_true.2 ⟨a, hm, by simp⟩
    rw [h1] at this; cases this
   refine ⟨fun x hx => ?_, List.nodup_cons.2 ⟨fun hm => h2 a hm (by simp), h3⟩⟩
   rcases List.mem_cons.1 hx with rfl | hx
   ·exact h1'
   ·exact fun hm => h2 x hx (by simp [hm])
  ·rintro ⟨h1, h2⟩
   have h3 := List.nodup_cons.1 h2
   refine ⟨?_, fun x hx hm => ?_, h3.2⟩
   ·rw [Bool.eq_false_iff]
    intro h
    obtain ⟨b, hb, e⟩ := List.any_eq_true.1 h
    have : a = b := by simpa using e
    subst this
    exact h1 a (by simp) hb
   ·rcases List.mem_append.1 hm with hm | hm
    ·exact h1 x (by simp [hx]) hm
    ·simp at hm; subst hm; exact h3.1 hx
theorem once_iff (l : List Str) : once l = true ↔ l.Nodup := by
 have := onceFrom_iff l []
 simpa [once] using this
def sortS (l : List Str) : List Str := l.mergeSort fun x y => decide (x ≤ y)
theorem sortS_len (l : List Str) : (sortS l).length = l.length := by simp [sortS]
theorem sortS_perm (l : List Str) : (sortS l).Perm l := List.mergeSort_perm l _
theorem sortS_pw (l : List Str) : (sortS l).Pairwise (· ≤ ·) := by
 have tr : ∀ a b c : Str, decide (a ≤ b) = true → decide (b ≤ c) = true → decide (a ≤ c) = true := fun a b c h1 h2 => by simp only [decide_eq_true_eq] at *; exact List.le_trans h1 h2
 have to : ∀ a b : Str, (decide (a ≤ b) || decide (b ≤ a)) = true := fun a b => by simp only [Bool.or_eq_true, decide_eq_true_eq]; exact List.le_total a b
 exact (List.pairwise_mergeSort tr to l).imp fun h => of_decide_eq_true h
theorem rise_sort (l : List Str) : riseS (sortS l) = once l := by
 rw [Bool.eq_iff_iff, once_iff]
 constructor
 ·intro h
  exact (sortS_perm l).nodup_iff.1 ((rise_pw h).imp fun {a b} hab e => by subst e; exact List.lt_irrefl _ hab)
 ·intro h
  exact rise_of (sortS_pw l) ((sortS_perm l).nodup_iff.2 h)
/- Plain laws: the grammar of migrations: what tokens are as steps. No condition. -/
def endTk : Tk := ⟨0, [], 0, false, 0⟩
def tkAt (L : List Tk) (i : Nat) : Tk := L.getD i endTk
/-- does a word, or a mark, stand there? -/
def gTake (L : List Tk) (w : Str) (i : Nat) : Bool := (tkAt L i).s == w && (decide ((tkAt L i).k = 1) || decide ((tkAt L i).k = 4))
def gNeed (L : List Tk) (w : Str) (i : Nat) : PR Unit := if gTake L w i then .ok () (i + 1) else .bad i
/-- words and marks, one behind the other -/
def gNeeds (L : List Tk) : List Str → Nat → PR Unit
 | [], i => .ok () i
 | w :: l, i => (gNeed L w i).bind fun _ j => gNeeds L l j
/-- a token of a kind that is such -/
def gOf (L : List Tk) (k : Nat) (p : Tk → Bool) (i : Nat) : PR Tk := if (tkAt L i).k = k ∧ p (tkAt L i) = true then .ok (tkAt L i) (i + 1) else .bad i
def gName (L : List Tk) (i : Nat) : PR Str := (gOf L 1 (fun _ => true) i).bind fun t j => .ok t.s j
def numP (t : Tk) : Bool := !t.neg && decide (t.n ≤ 1073741824)
def gNum (L : List Tk) (i : Nat) : PR Int := (gOf L 2 numP i).bind fun t j => .ok (t.n : Int) j
def gGiven (L : List Tk) (i : Nat) : PR Int := (gNeeds L [[61]] i).bind fun _ j => gNum L j
/-! ### types -/
def tyWords : List Str := [[], [105, 110, 116, 51, 50], [105, 110, 116, 54, 52], [117, 105, 110, 116, 51, 50], [117, 105, 110, 116, 54, 52], [115, 105, 110, 116, 51, 50], [115, 105, 110, 116, 54, 52], [98, 111, 111, 108], [102, 105, 120, 101, 100, 51, 50], [102, 105, 120, 101, 100, 54, 52], [115, 102, 105, 120, 101, 100, 51, 50], [115, 102, 105, 120, 101, 100, 54, 52], [115, 116, 114, 105, 110, 103], [98, 121, 116, 101, 115], [], []]
/-- a type's word -/
def wordOf (t : Int) : Str := if t < 0 ∨ 16 ≤ t then [] else tyWords.getD t.toNat []
/-- the type of a word; 0: there is none -/
def ofT (s : Str) : Int := if s = [] then 0 else if ixFrom (· == s) tyWords 0 < 0 then 0 else ixFrom (· == s) tyWords 0
/-- the value of digits -/
def rdT (t : Int) (n : Nat) (neg : Bool) : Option Nat :=
 if wholeT t = false then none
 else if neg = true ∧ 0 < n then (if signT t = false ∨ 9223372036854775808 < n then none else if mayT t (18446744073709551616 - n) then some (18446744073709551616 - n) else none)
 else if signT t = true ∧ 9223372036854775808 ≤ n then none else if mayT t n then some n else none
def tyP (such : Int → Bool) (t : Tk) : Bool := decide (ofT t.s ≠ 0) && such (ofT t.s)
def gTy (L : List Tk) (such : Int → Bool) (i : Nat) : PR Int := (gOf L 1 (tyP such) i).bind fun t j => .ok (ofT t.s) j
def valP (ty : Int) (x : Tk) : Bool := (rdT ty x.n x.neg).isSome
/-- a value of a type -/
def gVal (L : List Tk) (t : Int) (i : Nat) : PR Val :=
 if t = 7 then (if gTake L [116, 114, 117, 101] i then .ok (.mk 1 [] []) (i + 1) else (gNeeds L [[102, 97, 108, 115, 101]] i).bind fun _ j => .ok (.mk 0 [] []) j)
 else if wholeT t = false then (gOf L 3 (fun _ => true) i).bind fun x j => .ok (.mk 0 x.s []) j
 else (gOf L 2 (valP t) i).bind fun x j => .ok (.mk ((rdT t x.n x.neg).getD 0) [] []) j
/-- names behind commas; at most so many -/
def gMore (L : List Tk) : Nat → List Str → Nat → PR (List Str)
 | 0, acc, i => .ok acc i
 | n + 1, acc, i => if gTake L [44] i then (gName L (i + 1)).bind fun s j => gMore L n (acc ++ [s]) j else .ok acc i
def gNames (L : List Tk) (i : Nat) : PR (List Str) := (gName L i).bind fun s j => gMore L (L.length - j) [s] j
def stepWords : List Str := [[114, 101, 110, 97, 109, 101], [114, 101, 110, 117, 109, 98, 101, 114], [114, 101, 116, 121, 112, 101], [115, 112, 108, 105, 116], [106, 111, 105, 110], [119, 114, 97, 112], [117, 110, 119, 114, 97, 112], [111, 110, 101, 111, 102], [97, 100, 100], [100, 114, 111, 112]]
/-- the kind of a step's word; 0: there is none -/
def stepKind (s : Str) : Int := ixFrom (· == s) stepWords 0 + 1
def kindP (t : Tk) : Bool := decide (stepKind t.s ≠ 0)
def gKind (L : List Tk) (i : Nat) : PR Int := (gOf L 1 kindP i).bind fun t j => .ok (stepKind t.s) j
section
variable (L : List Tk)
/-- what splits, joins and wraps have -/
def gFields (x : Stp) (i : Nat) : PR Stp :=
 (if x.kind = 5 then (gNeeds L [[44]] i).bind fun _ a => (gName L a).bind fun u b => .ok { x with also := u } b else .ok x i).bind fun x a =>
 (gNeeds L [[105, 110, 116, 111]] a).bind fun _ a => (gName L a).bind fun s a =>
 (if x.kind = 6 then (gNeeds L [[97, 115]] a).bind fun _ a => (gName L a).bind fun u b => .ok { x with dest := s, also := u } b else .ok { x with dest := s } a).bind fun x a =>
 (gGiven L a).bind fun n a =>
 if x.kind = 4 then (gNeeds L [[44]] a).bind fun _ a => (gName L a).bind fun u b => (gGiven L b).bind fun m c => .ok { x with num := n, also := u, other := m } c else .ok { x with num := n } a
/-- behind a step's field, ahead of its end -/
def gRest0 (x : Stp) (i : Nat) : PR Stp :=
 if x.kind = 1 then (gNeeds L [[116, 111]] i).bind fun _ j => (gName L j).bind fun s k => .ok { x with dest := s } k
 else if x.kind = 2 then (gNeeds L [[116, 111]] i).bind fun _ j => (gNum L j).bind fun n k => .ok { x with num := n } k
 else if x.kind = 3 then (gNeeds L [[116, 111]] i).bind fun _ j => (gTy L wholeT j).bind fun t k => .ok { x with ty := t } k
 else if x.kind = 4 ∨ x.kind = 5 ∨ x.kind = 6 then gFields L x i
 else if x.kind = 8 then (gNeeds L [[111, 102]] i).bind fun _ j => (gNames L j).bind fun l k => .ok { x with names := l } k
 else if x.kind = 9 then (gGiven L i).bind fun n a => (gTy L (fun _ => true) a).bind fun t b => (gNeeds L [[100, 101, 102, 97, 117, 108, 116]] b).bind fun _ c => (gVal L t c).bind fun v k => .ok { x with num := n, ty := t, dv := v } k
 else .ok x i
def gRest (x : Stp) (i : Nat) : PR Stp := (gRest0 L x i).bind fun y j => (gNeeds L [[59]] j).bind fun _ k => .ok y k
def stp0 : Stp := ⟨0, [], [], [], [], 0, 0, 0, [], .mk 0 [] []⟩
def gStep (i : Nat) : PR Stp :=
 (gKind L i).bind fun k a => (gName L a).bind fun m b => (gNeeds L [[46]] b).bind fun _ c => (gName L c).bind fun f d => gRest L { stp0 with kind := k, msg := m, field := f } d
/-- steps, and where each begins -/
def gSteps : Nat → List (Stp × Nat) → Nat → PR (List (Stp × Nat))
 | 0, acc, i => .ok acc i
 | n + 1, acc, i => if (tkAt L i).k = 0 then .ok acc i else (gStep L i).bind fun x j => gSteps n (acc ++ [(x, (tkAt L i).pos)]) j
end
end Go.Proofs.YtabihkfhoohfnaaGreatDoor.X
