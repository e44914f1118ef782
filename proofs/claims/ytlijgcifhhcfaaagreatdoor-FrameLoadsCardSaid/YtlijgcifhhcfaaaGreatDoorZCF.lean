/- the document: what can be unwrapped. -/
import Derived.Test.YtlijgcifhhcfaaaGreatDoorZCE
import Derived.Test.YtlijgcifhhcfaaaGreatDoorZCC
set_option linter.unusedVariables false
set_option linter.unusedSimpArgs false
set_option linter.unusedSectionVars false
set_option maxRecDepth 100000
namespace Go.Proofs.YtlijgcifhhcfaaaGreatDoor.X
open Go Go.RowKit Go.Proofs
theorem ku : aa Tryz.prog 122 = true := by kernel_rfl
theorem Fe : aa Tryz.prog 166 = true := by kernel_rfl
def aN.vE (s : aN) (m : aT) (f : ag) : Int := if s.boxed m f = true then s.bJ f.ref else -1
def aN.D2 (s : aN) (n : aw) : aT := s.msgs.getD (s.bJ n).toNat jz
theorem so {s : aN} {n : aw} (h : decide (s.bJ n < 1) = false) : (s.msgs.map aT.av)[(s.bJ n).toNat]? = some (.agg (s.D2 n).cells) := by
 have h := of_decide_eq_false h
 obtain ⟨i, hi, e, _⟩ := ks (fun m : aT => m.name == n) s.msgs (by show ¬ s.bJ n < 0; omega)
 have e : s.bJ n = (i : Int) := e
 unfold aN.D2
 rw [e, Int.toNat_natCast, List.getElem?_map, List.getElem?_eq_getElem hi, List.getD_eq_getElem?_getD, List.getElem?_eq_getElem hi]
 rfl
theorem FP {m : aT} (h : (!(((m.fields.map ag.av).length : Int) == 1)) = false) : (m.fields.map ag.av)[(0 : Int).toNat]? = some (.agg (m.fields.headD eF).cells) := by
 rw [List.length_map] at h
 cases e : m.fields with
 | nil => rw [e] at h; simp at h
 | cons a l => rfl
theorem k6 {s : aN} {m : aT} {f : ag} : s.vE m f = if f.ty = 15 ∧ f.alone = true ∧ 1 ≤ s.bJ f.ref ∧ f.ref ≠ m.name ∧ s.yq f.ref = 1 ∧ (s.D2 f.ref).fields.length = 1 ∧ ((s.D2 f.ref).fields.headD eF).one = [] then s.bJ f.ref else -1 := by
 unfold aN.vE
 congr 1
 simp only [aN.boxed, Bool.and_eq_true, decide_eq_true_eq, Bool.not_eq_true', beq_eq_false_iff_ne, eq_iff_iff]
 rcases ao (fun m' : aT => m'.name == f.ref) s.msgs 0 with ⟨q1, q2⟩ | ⟨i, hi, q1, q2, q3⟩
 ·have e : s.bJ f.ref = -1 := q1
  rw [e]
  constructor
  ·rintro ⟨⟨⟨⟨_, h⟩, _⟩, _⟩, _⟩; omega
  ·rintro ⟨_, _, h, _⟩; omega
 ·have e : s.bJ f.ref = ((0 + i : Nat) : Int) := q1
  have e2 : s.eS f.ref = some s.msgs[i] := q2
  have e3 : s.D2 f.ref = s.msgs[i] := by
   unfold aN.D2
   rw [e, Int.toNat_natCast, Nat.zero_add, List.getD_eq_getElem?_getD, List.getElem?_eq_getElem hi]; rfl
  rw [e2, e3]
  simp only [Option.map_some]
  cases s.msgs[i].fields with
  | nil => simp
  | cons a l =>
   cases l with
   | nil => simp [and_assoc]
   | cons b r => simp
theorem EZ (s : aN) (m : aT) (f : ag) (hs : s.sm) : Pure Tryz.prog 123 [s.av, m.av, f.av] (.int .i64 (s.vE m f)) := by
 have hm := hs.m
 refine Pure.aL Tryz.func123 rfl rfl (aF rfl) fun H => (aC.seq (aC.region (aB.run II 4 rfl (aB.nil (aC.seq (aC.seq (aC.region (aB.run II 4 rfl (aB.tell (d := 11) rfl (fun hg1 => ?_) (fun hg1 => ?_))))))))))
 ·exact aB.run II 4 rfl (aB.nil (aC.az rfl rfl (aC.seq (aC.region (aB.run II 1 rfl (aB.nil (aC.ret ⟨.inr rfl, (aE.r1 rfl (.tmp rfl .nil)).cast (congrArg (AV.int .i64) (by rw [k6]; simp_all <;> omega)), rfl⟩)))))))
 ·refine aB.run II 1 rfl (aB.g1 rfl (aF rfl) rfl rfl (aG (aF rfl) ku rfl (kj _)) (aB.run II 2 rfl (aB.nil (aC.cond rfl (fun hc2 => ?_) (fun hc2 => ?_)))))
  ·exact aC.seq (aC.region (aB.run II 1 rfl (aB.nil (aC.ret ⟨.inr rfl, (aE.r1 rfl (.tmp rfl .nil)).cast (congrArg (AV.int .i64) (by rw [k6]; simp_all <;> omega)), rfl⟩))))
  ·refine aC.skip (aC.seq (aC.region (aB.run II 3 rfl (aB.c1 rfl (aG (aF rfl) kY rfl (iY _ _ (by omega))) (aB.run II 1 rfl (aB.nil (aC.seq (aC.seq (aC.region (aB.run II 3 rfl (aB.tell (d := 22) rfl (fun hg3 => ?_) (fun hg3 => ?_))))))))))))
   ·exact aB.run II 35 rfl (aB.nil (aC.az rfl rfl (aC.seq (aC.region (aB.run II 1 rfl (aB.nil (aC.ret ⟨.inr rfl, (aE.r1 rfl (.tmp rfl .nil)).cast (congrArg (AV.int .i64) (by rw [k6]; simp_all <;> omega)), rfl⟩)))))))
   ·refine aB.run II 7 rfl (aB.tell (d := 29) rfl (fun hg4 => ?_) (fun hg4 => ?_))
    ·exact aB.run II 28 rfl (aB.nil (aC.az rfl rfl (aC.seq (aC.region (aB.run II 1 rfl (aB.nil (aC.ret ⟨.inr rfl, (aE.r1 rfl (.tmp rfl .nil)).cast (congrArg (AV.int .i64) (by rw [k6]; simp_all <;> omega)), rfl⟩)))))))
    ·refine aB.run II 3 rfl (aB.g1 rfl (aF rfl) rfl rfl (aG (aF rfl) Fe rfl (HC _ _ hs)) (aB.run II 3 rfl (aB.tell (d := 36) rfl (fun hg5 => ?_) (fun hg5 => ?_))))
     ·exact aB.run II 21 rfl (aB.nil (aC.az rfl rfl (aC.seq (aC.region (aB.run II 1 rfl (aB.nil (aC.ret ⟨.inr rfl, (aE.r1 rfl (.tmp rfl .nil)).cast (congrArg (AV.int .i64) (by rw [k6]; simp_all <;> omega)), rfl⟩)))))))
     ·refine aB.run II 3 rfl (aB.g1 rfl (aF rfl) rfl rfl (aH (aF rfl) bM rfl rfl (by have := of_decide_eq_false hg3; omega) (so hg3) rfl) ?_)
      refine aB.run II 6 rfl (aB.tell (d := 46) rfl (fun hg6 => ?_) (fun hg6 => ?_))
      ·exact aB.run II 11 rfl (aB.nil (aC.az rfl rfl (aC.seq (aC.region (aB.run II 1 rfl (aB.nil (aC.ret ⟨.inr rfl, (aE.r1 rfl (.tmp rfl .nil)).cast (congrArg (AV.int .i64) (by rw [k6]; simp_all <;> omega)), rfl⟩)))))))
      ·refine aB.run II 3 rfl (aB.g1 rfl (aF rfl) rfl rfl (aH (aF rfl) bM rfl rfl (by have := of_decide_eq_false hg3; omega) (so hg3) rfl) ?_)
       refine aB.run II 2 rfl (aB.g1 rfl (aF rfl) rfl rfl (aH (aF rfl) bT rfl rfl (by decide) (FP hg6) rfl) (aB.run II 4 rfl (aB.nil (aC.cond rfl (fun hc7 => ?_) (fun hc7 => ?_)))))
       ·exact aC.seq (aC.region (aB.run II 1 rfl (aB.nil (aC.ret ⟨.inr rfl, (aE.r1 rfl (.tmp rfl .nil)).cast (congrArg (AV.int .i64) (by rw [k6]; simp_all <;> omega)), rfl⟩))))
       ·exact aC.skip (aC.seq (aC.region (aB.run II 2 rfl (aB.nil (aC.ret ⟨.inr rfl, (aE.r1 rfl (.tmp rfl .nil)).cast (congrArg (AV.int .i64) (by rw [k6]; simp_all <;> omega)), rfl⟩)))))
theorem jU {s : aN} {m : aT} {f : ag} (h : s.boxed m f = true) : 1 ≤ s.bJ f.ref ∧ (s.D2 f.ref).fields.length = 1 ∧ ((s.eS f.ref).getD jz).fields.headD eF = (s.D2 f.ref).fields.headD eF := by
 simp only [aN.boxed, Bool.and_eq_true, decide_eq_true_eq, Bool.not_eq_true', beq_eq_false_iff_ne] at h
 obtain ⟨⟨⟨⟨⟨h1, h2⟩, h3⟩, h4⟩, h5⟩, h6⟩ := h
 rcases ao (fun m' : aT => m'.name == f.ref) s.msgs 0 with ⟨q1, q2⟩ | ⟨i, hi, q1, q2, q3⟩
 ·have e : s.bJ f.ref = -1 := q1
  rw [e] at h3; omega
 ·have e : s.bJ f.ref = ((0 + i : Nat) : Int) := q1
  have e2 : s.eS f.ref = some s.msgs[i] := q2
  have e3 : s.D2 f.ref = s.msgs[i] := by
   unfold aN.D2
   rw [e, Int.toNat_natCast, Nat.zero_add, List.getD_eq_getElem?_getD, List.getElem?_eq_getElem hi]; rfl
  rw [e2] at h6 ⊢
  rw [e3]
  simp only [Option.map_some, Option.getD_some] at h6 ⊢
  refine ⟨h3, ?_, trivial⟩
  split at h6
  ·rename_i hh; simp at hh; rw [hh]; rfl
  ·cases h6
theorem CL {m : aT} (h : m.fields.length = 1) : (m.fields.map ag.av)[(0 : Int).toNat]? = some (.agg (m.fields.headD eF).cells) := by
 cases e : m.fields with
 | nil => rw [e] at h; simp at h
 | cons a l => rfl
theorem EY (s : aN) (f : ag) (x : aS) (m : aT) (hs : s.sm) (h7 : x.kind = 7 → s.boxed m f = true) : Pure Tryz.prog 82 [s.av, f.av, x.av] (.sl ((x.comes s f).map ag.av)) := by
 have hm := hs.m
 refine Pure.aL Tryz.func82 rfl rfl (aF rfl) fun H => (aC.seq (aC.region (aB.run II 4 rfl (aB.nil (aC.seq (aC.seq (aC.region (aB.run II 2 rfl (aB.nil (aC.blk (aC.seq (aC.region (aB.run II 2 rfl (aB.nil (aC.cond rfl (fun hc1 => ?_) (fun hc1 => ?_))))))))))))))))
 ·exact aC.seq (aC.region (aB.run II 4 rfl (aB.nil (aC.seq (aC.region (aB.run II 3 rfl (aB.nil (aC.ret ⟨.inr rfl, (aE.r1 rfl (.tmp rfl .nil)).cast (congrArg AV.sl (by have hk : x.kind = 2 := (by simpa using hc1); simp only [aS.comes, hk, if_false, if_true]; rfl)), rfl⟩))))))))
 ·refine aC.seq (aC.region (aB.run II 2 rfl (aB.nil (aC.cond rfl (fun hc2 => ?_) (fun hc2 => ?_)))))
  ·exact aC.seq (aC.region (aB.run II 12 rfl (aB.nil (aC.ret ⟨.inr rfl, (aE.r1 rfl (.tmp rfl .nil)).cast (congrArg AV.sl (by have hk : x.kind = 4 := (by simpa using hc2); simp only [aS.comes, hk, show ¬ (4 : Int) = 2 by decide, if_false, if_true]; rfl)), rfl⟩))))
  ·refine aC.seq (aC.region (aB.run II 2 rfl (aB.nil (aC.cond rfl (fun hc3 => ?_) (fun hc3 => ?_)))))
   ·exact aC.seq (aC.region (aB.run II 7 rfl (aB.nil (aC.ret ⟨.inr rfl, (aE.r1 rfl (.tmp rfl .nil)).cast (congrArg AV.sl (by have hk : x.kind = 5 := (by simpa using hc3); simp only [aS.comes, hk, show ¬ (5 : Int) = 2 by decide, show ¬ (5 : Int) = 4 by decide, if_false, if_true]; rfl)), rfl⟩))))
   ·refine aC.seq (aC.region (aB.run II 2 rfl (aB.nil (aC.cond rfl (fun hc4 => ?_) (fun hc4 => ?_)))))
    ·exact aC.seq (aC.region (aB.run II 9 rfl (aB.nil (aC.ret ⟨.inr rfl, (aE.r1 rfl (.tmp rfl .nil)).cast (congrArg AV.sl (by have hk : x.kind = 6 := (by simpa using hc4); simp only [aS.comes, hk, show ¬ (6 : Int) = 2 by decide, show ¬ (6 : Int) = 4 by decide, show ¬ (6 : Int) = 5 by decide, if_false, if_true]; rfl)), rfl⟩))))
    ·refine aC.seq (aC.region (aB.run II 2 rfl (aB.nil (aC.cond rfl (fun hc5 => ?_) (fun hc5 => ?_)))))
     ·refine aC.seq (aC.drawn mixed rfl (aD.run II 5 rfl (aD.c1 rfl (aG (aF rfl) kY rfl (iY _ _ (by omega))) (aD.c1 rfl (aH (aF rfl) bM rfl rfl (by have := jU (h7 (by simpa using hc5)); omega) (so (by have := jU (h7 (by simpa using hc5)); simp; omega)) rfl) ?_))))
      exact aD.run II 2 rfl (aD.c1 rfl (aH (aF rfl) bT rfl rfl (by decide) (CL (jU (h7 (by simpa using hc5))).2.1) rfl) (aD.run II 3 rfl (aD.nil (by kernel_rfl) (Kept.now (aC.ret ⟨.inr rfl, (aE.r1 rfl (.tmp rfl .nil)).cast (congrArg AV.sl (by have hb := jU (h7 (by simpa using hc5)); have hk : x.kind = 7 := (by simpa using hc5); simp only [aS.comes, hk, show ¬ (7 : Int) = 2 by decide, show ¬ (7 : Int) = 4 by decide, show ¬ (7 : Int) = 5 by decide, show ¬ (7 : Int) = 6 by decide, if_false, if_true, List.map_cons, List.map_nil]; rw [hb.2.2]; rfl)), rfl⟩)))))
     ·refine aC.seq (aC.region (aB.run II 2 rfl (aB.nil (aC.cond rfl (fun hc6 => ?_) (fun hc6 => ?_)))))
      ·exact aC.seq (aC.region (aB.run II 9 rfl (aB.nil (aC.ret ⟨.inr rfl, (aE.r1 rfl (.tmp rfl .nil)).cast (congrArg AV.sl (by have hk : x.kind = 9 := (by simpa using hc6); simp only [aS.comes, hk, show ¬ (9 : Int) = 2 by decide, show ¬ (9 : Int) = 4 by decide, show ¬ (9 : Int) = 5 by decide, show ¬ (9 : Int) = 6 by decide, show ¬ (9 : Int) = 7 by decide, if_false, if_true]; rfl)), rfl⟩))))
      ·exact aC.skip (aC.seq (aC.region (aB.run II 1 rfl (aB.nil (aC.ret ⟨.inr rfl, (aE.r1 rfl (.tmp rfl .nil)).cast (congrArg AV.sl (by simp_all [aS.comes])), rfl⟩)))))
open Go Go.RowKit
/- The program logic's rules: what an interface value holds; how code ends, told in another way. No condition. -/
section
variable {P : Program} {N : Nat} {s : St} {Q : Exit → St → Prop} {d : Nat} {ty : TypeId} {pos : String} {af : Array Edge} {g : Option (Nat × Bool)}
end
/- The program logic's rules: what a call has made and let go of; calls that panic, the objects being somehow; several cells of an object stored at once; regions that draw their order, with a call that panics. No condition. -/
def KV (D : Nat → Prop) : Hc → Prop
 | .v a => bG D a
 | .row _ _ xs => ∀ x ∈ xs, bG D x
structure JW (H H1 : Hp) : Prop where
 n : H1.next = H.next
 o : ∀ i cs, H1.obj i = some cs → H.obj i = some cs ∨ ((∃ x, H.obj i = some x) ∧ ∀ x ∈ cs, KV (fun id => id < H.next) x)
theorem JW.refl (H : Hp) : JW H H := ⟨rfl, fun _ _ e => .inl e⟩
theorem AN {G G' : Gh} {w w' : World} {H H' H1 : Hp} (hH : dX G w H) (hok : dX G' w' H') (hx : ln (ab G H w) G G' w) (hk : JW H H1) (hobj : ∀ i, i < H.next → H'.obj i = H1.obj i) :
  dX (G'.res H.next) w' H1 ∧ ln (ab G H w) G (G'.res H.next) w ∧ ∀ b, ab (G'.res H.next) H1 w' b → ab G' H' w' b := by
 have hlt : ∀ id b, G.ob id = some b → id < H.next := fun id b e => (hH.lt id b e).1
 have hres1 : ∀ id, id < H.next → (G'.res H.next).ob id = G'.ob id := fun id h => by simp [Gh.res, h]
 have hres2 : ∀ id b, (G'.res H.next).ob id = some b → id < H.next ∧ G'.ob id = some b := fun id b h => by
  simp only [Gh.res] at h
  split at h
  ·exact ⟨by assumption, h⟩
  ·cases h
 have hop : ∀ {u : Value} {a : AV}, V G u a → bG (fun id => id < H.next) a := fun hu => hu.ops.mono fun id ⟨b, e⟩ => hlt id b e
 have hidl0 : ∀ id cs, H.obj id = some cs → id < H.next := fun id cs e => by
  obtain ⟨blk, _, _, q1, _⟩ := hH.obj id cs e
  exact hlt id blk q1
 have hidl : ∀ id cs, H1.obj id = some cs → id < H.next := fun id cs e => by
  rcases hk.o id cs e with h | ⟨⟨x, h⟩, _⟩
  ·exact hidl0 _ _ h
  ·exact hidl0 _ _ h
 have hcin : ∀ id cs, H1.obj id = some cs → ∀ x ∈ cs, KV (fun id => id < H.next) x := fun id cs e x hxm => by
  rcases hk.o id cs e with h | ⟨_, h⟩
  ·obtain ⟨blk0, arr0, el0, p1, p2, p3, p4, p5⟩ := hH.obj id cs h
   obtain ⟨j, hj⟩ := gd hxm
   have hp := p4 j x hj
   cases x with
   | v a => exact hop hp.2
   | row el2 esz xs =>
    have hp' : eu G w true el2 esz (arr0.getD j undef) xs := hp
    obtain ⟨cells0, _, _, _, l4, _⟩ := hp'
    intro y hy
    obtain ⟨i, hi⟩ := gd hy
    refine bG.xt fun c hc => ?_
    obtain ⟨k, hk'⟩ := gd hc
    exact hop (l4.2 i y k c hi hk').2
  ·exact h x hxm
 have bj : ∀ id j b, bj (G'.res H.next) H1 w' id j b → X.bj G' H' w' id j b := by
  rintro id j b ⟨cs, el, esz, xs, b0, arr, t, fr, h1, h2, h3, h4, h5⟩
  exact ⟨cs, el, esz, xs, b0, arr, t, fr, by rw [hobj id (hidl id cs h1)]; exact h1, h2, (hres2 _ _ h3).2, h4, h5⟩
 have hfoot : ∀ b, ab (G'.res H.next) H1 w' b → ab G' H' w' b := by
  rintro b (⟨id, ⟨cs, h1⟩, h2⟩ | ⟨id, j, h1⟩)
  ·exact .inl ⟨id, ⟨cs, by rw [hobj id (hidl id cs h1)]; exact h1⟩, (hres2 _ _ h2).2⟩
  ·exact .inr ⟨id, j, bj _ _ _ h1⟩
 refine ⟨⟨fun id b e => ⟨by rw [hk.n]; exact (hres2 id b e).1, (hok.lt id b (hres2 id b e).2).2⟩, fun id id' b e e' ⟨c, k⟩ ⟨c', k'⟩ => hok.inj id id' b (hres2 _ _ e).2 (hres2 _ _ e').2 ⟨c, by rw [hobj id (hidl id c k)]; exact k⟩ ⟨c', by rw [hobj id' (hidl id' c' k')]; exact k'⟩, fun id cs e => ?_, fun id j blk hh' => ?_⟩, ⟨hx.kn, fun id b e => ⟨by rw [hres1 id (hlt id b e)]; exact (hx.ob id b e).1, (hx.ob id b e).2⟩, fun id b e => hx.obn id b (hres2 id b e).2⟩, hfoot⟩
 ·obtain ⟨blk, arr, el, q1, q2, q3, q4, q5⟩ := hok.obj id cs (by rw [hobj id (hidl id cs e)]; exact e)
  refine ⟨blk, arr, el, by rw [hres1 id (hidl id cs e)]; exact q1, q2, q3, fun j x hx => ?_, q5⟩
  have hq := q4 j x hx
  have hp := hcin id cs e x (List.mem_of_getElem? hx)
  cases x with
  | v a => exact ⟨hq.1, hq.2.res hp⟩
  | row el2 esz xs =>
   have hq' : eu G' w' true el2 esz (arr.getD j undef) xs := hq
   obtain ⟨cells, k1, k2, k3, k4, k5⟩ := hq'
   exact ⟨cells, (fun e => by cases e), k2, k3, ⟨k4.1, fun i e j c a b => ⟨(k4.2 i e j c a b).1, (k4.2 i e j c a b).2.res ((hp e (List.mem_of_getElem? a)).xU c (List.mem_of_getElem? b))⟩⟩, k5⟩
 ·obtain ⟨q1, q2⟩ := hok.apart id j blk (bj _ _ _ hh')
  exact ⟨fun id' e => q1 id' (hres2 _ _ e).2, fun id' j' h2 => q2 id' j' (bj _ _ _ h2)⟩
theorem cc.drop {P : Program} {f : FuncId} {args : List AV} {H H' H1 : Hp} {r : AV} (h : cc P f args H r H') (hk : JW H H1) (hobj : ∀ i, i < H.next → H'.obj i = H1.obj i) (hro : bG (fun id => id < H.next) r) : cc P f args H r H1 := by
 intro G w cargs hg hkn hH hV
 refine (h G w cargs hg hkn hH hV).mono ?_
 rintro e w' ⟨v, G', he, hv, hx, hkn', hok, hfr, hft⟩
 obtain ⟨h1, h2, h3⟩ := AN hH hok hx hk hobj
 exact ⟨v, G'.res H.next, he, hv.res hro, h2, hkn', h1, hfr, fun b hb => hft b (h3 b hb)⟩
section
variable {P : Program} {N : Nat} {ops : Array Oper} {l : List Oper} {s : St} {Q : Exit → St → Prop} {o : Oper} {R : List aM}
variable {d : Nat} {ty : TypeId} {pos : String} {af : Array Edge} {dst : Option Tmp} {g : Option (Nat × Bool)}
def LL : Hc → Bool
 | .v _ => true
 | _ => false
def nk (cs : List Hc) (off : Nat) (ys : List AV) : List Hc := cs.take off ++ ys.map .v ++ cs.drop (off + ys.length)
theorem s9 {t1 : TypeId} {x y : Operand} {id off n : Nat} {b : Bool} {cs : List Hc} {av : AV} {H : Hp} (hl : lk P t1 = some (b, n)) (hx : cu x s = some (.op id off)) (hH : get s .h = some (.hp H)) (ho : H.obj id = some cs) (hy : cu y s = some av) (ht : (Sv.v av).ma = false)
  (hn : av.cells.length = n) (hf : off + n ≤ cs.length) (hold : ((cs.drop off).take n).all LL = true) :
  ae P N ⟨none, .store t1 x y, ty, pos, af, g⟩ s (rd x ++ (rd y ++ [.h])) [(.h, .hp (H.set id (nk cs off av.cells)))] := by
 intro t hR E G L a w hr K Q hK
 have hv := aU hr hR.left hx
 have hz := aU hr hR.right.left hy
 generalize hav : a.eval x = u at hv
 cases hv
 rename_i blk hb
 obtain ⟨H0, gH, hok, hmay⟩ := hr.heap
 have hHt : get t .h = some (.hp H) := by rw [hR .h (by simp)]; exact hH
 rw [hHt] at gH; cases gH
 obtain ⟨blk0, arr, el1, p1, p2, p3, p4, p5⟩ := hok.obj id cs ho
 rw [hb] at p1; cases p1
 obtain ⟨h1, h2⟩ := V.cells hz (fun vs e => by subst e; cases ht)
 have hlen : (a.eval y).cells.toList.length = n := by rw [Array.length_toList, h1, hn]
 have hone : ∀ u ∈ (a.eval y).cells.toList, u.oneCell' = true := by
  intro u hu
  obtain ⟨j, hj, rfl⟩ := List.mem_iff_getElem.1 hu
  have hj' : j < av.cells.length := by omega
  obtain ⟨q1, q2⟩ := h2 j av.cells[j] (by simp [hj'])
  have : (a.eval y).cells.getD j undef = (a.eval y).cells.toList[j] := by
   rw [Array.getD_eq_getD_getElem?, ← Array.getElem?_toList, List.getElem?_eq_getElem hj]; rfl
  rw [← this]
  exact q2.eY q1
 have hst := run_storeCells_at P blk off el1 (a.eval y).cells.toList 0 arr w p2 (by have := p3.1; rw [hlen]; omega) hone
 obtain ⟨_, hs⟩ := nM hl w
 simp only [Nat.add_zero] at hst
 let arr' : Array Value := (arr.toList.take off ++ (a.eval y).cells.toList ++ arr.toList.drop (off + (a.eval y).cells.toList.length)).toArray
 have hrun : (execOp a.eval ⟨none, .store t1 x y, ty, pos, af, g⟩).run P w = .ok .skip (w.setRow blk arr') := by
  have hne : ¬ ((a.eval y).cells.size ≠ n) := by rw [h1, hn]; simp
  simp only [execOp, Sem.run_bind, hav, Instr.storeAt, Instr.sureAddr, Sem.run_pure, Result.andThen_ok, storeVar, hs]
  rw [if_neg hne]
  simp only [hst, Result.andThen_ok]
  rfl
 have hl1 : (arr.toList.take off).length = off := by rw [List.length_take, Array.length_toList]; omega
 have hl2 : (cs.take off).length = off := by rw [List.length_take]; omega
 have key : ∀ j, arr'.getD j undef = if j < off then arr.getD j undef else if j < off + n then (a.eval y).cells.getD (j - off) undef else arr.getD j undef := by
  intro j
  simp only [arr', Array.getD_eq_getD_getElem?, List.getElem?_toArray]
  rw [List.append_assoc]
  split
  ·rename_i hj
   rw [List.getElem?_append_left (by omega), List.getElem?_take, if_pos hj, Array.getElem?_toList]
  ·rename_i hj
   rw [List.getElem?_append_right (by omega), hl1]
   split
   ·rename_i hj2
    rw [List.getElem?_append_left (by omega), Array.getElem?_toList]
   ·rename_i hj2
    rw [List.getElem?_append_right (by omega), hlen, List.getElem?_drop, Array.getElem?_toList]
    congr 2
    omega
 have hset : ∀ (j : Nat) x, (nk cs off av.cells)[j]? = some x → (off ≤ j ∧ j < off + n ∧ ∃ c, av.cells[j - off]? = some c ∧ x = .v c) ∨ (¬ (off ≤ j ∧ j < off + n) ∧ cs[j]? = some x) := by
  intro j x e
  simp only [nk] at e
  rw [List.append_assoc] at e
  by_cases hj : j < off
  ·rw [List.getElem?_append_left (by omega), List.getElem?_take, if_pos hj] at e
   exact .inr ⟨by omega, e⟩
  ·rw [List.getElem?_append_right (by omega), hl2] at e
   by_cases hj2 : j < off + n
   ·rw [List.getElem?_append_left (by simp; omega), List.getElem?_map] at e
    obtain ⟨c, hc, rfl⟩ := Option.map_eq_some_iff.1 e
    exact .inl ⟨by omega, hj2, c, hc, rfl⟩
   ·rw [List.getElem?_append_right (by simp; omega), List.getElem?_drop] at e
    have he : off + av.cells.length + (j - off - (av.cells.map Hc.v).length) = j := by simp; omega
    rw [he] at e
    exact .inr ⟨by omega, e⟩
 have hr2 := hr.mB (cs' := nk cs off av.cells) (arr' := arr') (w' := w.setRow blk arr') hHt ho hb p2 rfl rfl rfl (size_setRow w blk arr') (fun j hj => setRow_other w blk j arr' hj) (setRow_heap w blk arr arr' el1 (0, 0) p2)
  (by constructor <;> simp only [arr', nk, List.size_toArray, List.length_append, hl1, hl2, hlen, hn, List.length_drop, Array.length_toList, List.length_map] <;> omega)
  (fun j x e => by
   rw [key j]
   rcases hset j x e with ⟨q1, q2, c, hc, rfl⟩ | ⟨q1, q2⟩
   ·rw [if_neg (by omega), if_pos q2]
    exact h2 _ c hc
   ·by_cases hj : j < off
    ·rw [if_pos hj]; exact p4 j x q2
    ·rw [if_neg hj, if_neg (by omega)]; exact p4 j x q2)
  (fun j el esz xs e => by
   rcases hset j _ e with ⟨_, _, c, _, q⟩ | ⟨q1, q2⟩
   ·cases q
   ·refine ⟨q2, ?_⟩
    rw [key j]
    by_cases hj : j < off
    ·rw [if_pos hj]
    ·rw [if_neg hj, if_neg (by omega)])
 unfold Oper.wp
 rw [hrun]
 exact hK undef _ G L hr2
end
/- The program logic's rules: functions that read, make objects, and let go of them. No condition. -/
def Hp.new (H : Hp) (cs : List Hc) : Hp := (⟨H.next + 1, H.obj⟩ : Hp).set H.next cs
theorem Hp.fH (H : Hp) (cs : List Hc) : (H.new cs).obj H.next = some cs := Hp.bk
theorem Hp.ko (H : Hp) (cs : List Hc) {i : Nat} (h : i < H.next) : (H.new cs).obj i = H.obj i := by
 simp only [Hp.new, Hp.set]; rw [if_neg (by omega)]
theorem Hp.FD (H : Hp) (cs ds : List Hc) : (H.new cs).set H.next ds = H.new ds := Hp.set_set
section
variable {α : Type} {P : Program} {f : FuncId} {fn : Func} {args : List AV} {Hat : Nat → Hp} {av : α → AV} {pv : Nat → Value} {i j n : Nat} {r : PR α} {a : α}
end
/- The program logic's rules: nil slices in objects, to be appended to; regions that draw their order, of which a call panics. No condition. -/
theorem Rel.FC {E : de} {N : Nat} {G : Gh} {L : Loc} {a : Act} {w : World} {s : St} (h : Rel E N G L a w s) {t el esz : Nat} (ht : get s (.t t) = none) (hz : 0 < esz) : Rel E N G (L.ck t (.slice none 0 0)) a w ((.t t, .tk false el esz []) :: s) := by
 obtain ⟨G', _, hle, hr⟩ := h.si false (xs := []) (v1 := .slice none 0 0) (row := none) (el := el) (esz := esz) (cells := []) ht hz (w1 := w) ⟨rfl, rfl, rfl, Nat.le_refl _, fun _ _ _ => rfl⟩ (by simp) (fun b hb => by simp [Value.ownBlock] at hb) (World.ownsRow_nil w 0 el esz) ⟨fun i e h => by simp at h, fun i e j c h => by simp at h⟩ (fun b hb => by simp [Value.ownBlock] at hb)
 have htok0 := h.notok t ht
 have htl := Loc.rI (v := Value.slice none 0 0) htok0
 have hown : ∀ c b, owns ((.t t, .tk false el esz []) :: s) (L.ck t (.slice none 0 0)) c b → owns s L c b := by
  intro c b hc
  by_cases e : c = .t t
  ·subst e
   obtain ⟨_, v, hv, hb⟩ := hc
   simp [Loc.ck] at hv
   subst hv; cases hb
  ·have h2 := ct e hc
   cases c with
   | b j => exact h2
   | t j =>
    obtain ⟨h3, v, hv, h4⟩ := h2
    have hj : j ≠ t := fun e' => e (by rw [e'])
    exact ⟨h3, v, by simpa [Loc.ck, hj] using hv, h4⟩
   | s n => exact h2
   | h => exact h2
 refine ⟨h.size, h.defs, h.ge, h.kn, h.old, h.obs, h.obn, h.fr, fun n x g => (h.slot n x (by simpa [get] using g)).loc (L := L) (L' := L.ck t (.slice none 0 0)) (fun _ _ e => e) htl, fun k cv g hl => (h.box k cv (by simpa [get] using g) hl).loc (L := L) (L' := L.ck t (.slice none 0 0)) (fun _ _ e => e) htl, ?_,
  fun c d b hc hd => h.disj c d b (hown _ _ hc) (hown _ _ hd), by simpa [get] using h.heap, fun c b hc H g => h.hdisj c b (hown _ _ hc) H (by simpa [get] using g), fun k g => h.nobox k (by simpa [get] using g), ?_⟩
 ·intro j m el2 esz2 xs2 g
  by_cases e : j = t
  ·subst e
   simp [get] at g
   obtain ⟨rfl, rfl, rfl, rfl⟩ := g
   exact ⟨.slice none 0 0, by simp [Loc.ck], ⟨[], fun _ => V.slE none 0, World.ownsRow_nil w 0 el esz, hz, ⟨fun i e h => by simp at h, fun i e j c h => by simp at h⟩, fun b e => (by cases e)⟩, fun b e => (by cases e)⟩
  ·obtain ⟨v, hv, rest⟩ := h.tok j m el2 esz2 xs2 (by simpa [get, Ne.symm e] using g)
   exact ⟨v, htl _ _ hv, rest⟩
 ·intro j g
  by_cases e : j = t
  ·subst e; simp [get] at g
  ·have := h.notok j (by simpa [get, Ne.symm e] using g)
   simpa [Loc.ck, e] using this

theorem Kept.ph {s : St} {Q : St → Prop} (k i t el esz : Nat) {cv : CV} {cs : List Sv} (hk : get s (.b k) = some cv) (hcv : cv.xE = some cs) (hi : cs[i]? = some (.v .nsl)) (ht : get s (.t t) = none) (hz : 0 < esz)
  (h : Kept ((.b k, cv.bq (cs.set i (.ow t []))) :: (.t t, .tk false el esz []) :: s) Q) : Kept s Q := fun E N a w ⟨G, L, hr⟩ => by
 have h1 := hr.FC (el := el) ht hz
 refine h E N a w ⟨G, _, h1.Jd (cs := cs) (by simpa [get] using hk) hcv (by simp) fun j x y v hx hy hf hv => ?_⟩
 rw [List.getElem?_set] at hy
 split at hy
 ·rename_i e
  subst e
  rw [hi] at hx; cases hx
  split at hy
  ·cases hy
   have hV : V G v .nsl := hv
   cases hV
   exact ⟨rfl, V.slE none 0, by simp [Loc.ck]⟩
  ·cases hy
 ·rw [hx] at hy; cases hy
  exact ⟨hf, hv⟩
section
variable {P : Program} {N : Nat} {s : St} {d : Nat} {ty : TypeId} {pos : String} {af : Array Edge} {g : Option (Nat × Bool)}
end
section
variable {P : Program} {N : Nat} {s : St} {d : Option Tmp} {ty : TypeId} {pos : String} {af : Array Edge} {g : Option (Nat × Bool)}
end
section
variable {P : Program} {N : Nat}
end
/- The program logic's rules: slices over rows that are objects: their elements, append. No condition. -/
theorem aB.many {P : Program} {N : Nat} {ops : Array Oper} {o : Oper} {l : List Oper} {s : St} {Q : St → Prop} (hg : o.guard = none) (W : St → Prop)
  (ho : ∀ E G L a w, Rel E N G L a w s → ∀ (K : Act → World → Prop) (Q : Exit → Act → World → Prop), (∀ v w' G' L' ws, W ws → Rel E N G' L' (a.put o.dst v) w' (ws ++ s) → K (a.put o.dst v) w') → o.wp P a w K Q)
  (h : ∀ ws, W ws → aB P N ops l (ws ++ s) Q) : aB P N ops (o :: l) s Q := by
 intro E a w ⟨G, L, hr⟩ QQ hQ
 exact wpList_plain hg fun K hK => (ho E G L a w hr K QQ fun v w' G' L' ws hw hr' => hK _ _ (h ws hw E _ _ ⟨G', L', hr'⟩ QQ hQ))
section
variable {P : Program} {N : Nat} {s : St} {d : Nat} {ty : TypeId} {pos : String} {af : Array Edge} {g : Option (Nat × Bool)}
theorem Jq {t1 e : TypeId} {x : Operand} {id n c : Nat} (hN : d < N) (h1 : P.underlying t1 = some (.slice e)) (hx : cu x s = some (.os id n c)) :
  ae P N ⟨some d, .call { callee := .builtin .len, args := #[x], argTypes := #[t1] }, ty, pos, af, g⟩ s (rd x) [(.s d, .sv (.v (.int .i64 n)))] :=
 ae.val rfl hN fun E G L a w t hr hR => by
  have hv := aU hr hR hx
  generalize hav : a.eval x = u at hv
  cases hv
  refine ⟨.int .i64 n, ?_, .int _ _⟩
  simp [execOp, resolve, invoke, builtin, hav, Builtin.len_, run_underlying h1, goInt]
theorem bV {t1 : TypeId} {x i : Operand} {id n c esz : Nat} {k : IntKind} {j : Int} (hN : d < N) (ht : ie P t1 = some esz) (hx : cu x s = some (.os id n c)) (hi : cu i s = some (.int k j)) (h0 : 0 ≤ j) (h1 : j < n) :
  ae P N ⟨some d, .indexAddr t1 x i, ty, pos, af, g⟩ s (rd x ++ rd i) [(.s d, .sv (.v (.op id (j.toNat * esz))))] :=
 ae.val rfl hN fun E G L a w t hr hR => by
  have hv := aU hr hR.left hx
  have hn := jw (aU hr hR.right hi)
  obtain ⟨el, inf, hu, hinf, hsize⟩ := sr ht
  generalize hav : a.eval x = u at hv
  cases hv
  rename_i b cap hb hle hz
  refine ⟨.pointer (some ⟨b, j.toNat * esz, none⟩), ?_, V.op id _ b hb⟩
  simp [execOp, hav, hn, Instr.indexAt, asIntOf, run_underlying hu, h0, h1, sizeOf, typeInfo, hinf, hsize, Addr.add_lit]
theorem nA {w : World} (t ty e e0 : TypeId) (i : TypeInfo) (ht : P.underlying t = some (.slice e)) (hi : P.info? e = some i)
  (g sLen sCap : Nat) (cur : Array Value) (hg : w.heap[g]? = some (.cells cur e0 (0, 0)))
  (a : Addr) (m c : Nat) (news : List Value) (hl : news.length = m * i.size) (hnews : ∀ (j : Nat) u, news[j]? = some u → w.cell? (a.add j) = some u) (h1 : ∀ u ∈ news, u.oneCell' = true)
  (hroom : sLen + m ≤ sCap) (hfit : sLen * i.size + news.length ≤ cur.size) :
  (Builtin.append_ #[t, t] ty #[.slice (some ⟨g, 0, none⟩) sLen sCap, .slice (some a) m c]).run P w =
   .ok (.slice (some ⟨g, 0, none⟩) (sLen + m) sCap) (w.setRow g (cur.toList.take (sLen * i.size) ++ news ++ cur.toList.drop (sLen * i.size + news.length)).toArray) := by
 have hf := run_firstCells_some (P := P) w i.size m a m c news hl hnews
 have hst := run_storeCells_at P g (sLen * i.size) e0 news 0 cur w hg (by simpa using hfit) h1
 simp only [Nat.add_zero] at hst
 simp [Builtin.append_, run_underlying ht, sizeOf, typeInfo, hi, Builtin.lenOf, hroom, hf, Addr.add_lit, hst]
def HW {α : Type} (cs : List α) (k : Nat) (l : List α) : List α := cs.take k ++ l ++ cs.drop (k + l.length)
theorem BR {α : Type} {cs l : List α} {k j : Nat} (h : k + l.length ≤ cs.length) : (HW cs k l)[j]? = if j < k then cs[j]? else if j < k + l.length then l[j - k]? else cs[j]? := by
 unfold HW
 have h1 : (cs.take k).length = k := by rw [List.length_take]; omega
 by_cases hj : j < k
 ·rw [List.append_assoc, List.getElem?_append_left (by omega), List.getElem?_take, if_pos hj, if_pos hj]
 ·rw [if_neg hj, List.append_assoc, List.getElem?_append_right (by omega), h1]
  by_cases h2 : j < k + l.length
  ·rw [if_pos h2, List.getElem?_append_left (by omega)]
  ·rw [if_neg h2, List.getElem?_append_right (by omega), List.getElem?_drop]
   congr 1; omega
theorem mZ {z : Array Value} (h : ∀ v ∈ z, v.oneCell' = true) (n : Nat) : ∀ v ∈ Builtin.zeroCells z n, v.oneCell' = true := by
 intro v hv
 simp [Builtin.zeroCells] at hv
 obtain ⟨i, hi, rfl⟩ := hv
 have hpos : 0 < z.size := Nat.pos_of_ne_zero fun e => by rw [e] at hi; simp at hi
 have hlt : i % z.size < z.size := Nat.mod_lt _ hpos
 rw [getElem!_pos z _ hlt]
 exact h _ (Array.getElem_mem hlt)
/-! ### the heap's objects, anew -/
theorem Hp.y5 {H : Hp} {id i : Nat} : (H.del id).obj i = if i = id then none else H.obj i := rfl
theorem Rel.w9 {E : de} {G G' : Gh} {L : Loc} {a : Act} {w : World} (h : Rel E N G L a w s) {H H' : Hp} (hH : get s .h = some (.hp H)) (hle : G.le G') (hkn : G'.kn = G.kn) (hobn : ∀ id b, G'.ob id = some b → ∃ i, G.ob i = some b) (hok' : dX G' w H') (hft : ∀ b, ab G' H' w b → ab G H w b) :
  Rel E N G' L a w ((.h, .hp H') :: s) := by
 obtain ⟨H0, gH, hok, hmay⟩ := h.heap
 rw [hH] at gH; cases gH
 have hown : ∀ c b, owns ((.h, .hp H') :: s) L c b → owns s L c b := by
  intro c b hc
  cases c <;> simp only [owns, get, reduceCtorEq, if_false] at hc ⊢ <;> exact hc
 refine ⟨h.size, h.defs, h.ge, by rw [hkn]; exact h.kn, by rw [hkn]; exact h.old, fun id b e => ⟨hle.ob _ _ (h.obs id b e).1, (hle.sz _ _ (h.obs id b e).1).trans (h.obs id b e).2⟩, fun id b e => ?_, h.fr, fun n x g => (h.slot n x (by simpa [get] using g)).mono hle, fun j cv g hl => ?_, fun j m el esz xs g => ?_,
  fun c d b hc hd => h.disj c d b (hown _ _ hc) (hown _ _ hd), ⟨H', rfl, hok', fun b hb => hmay b (hft b hb)⟩, fun c b hc H2 g2 e2 => ?_, fun j g => h.nobox j (by simpa [get] using g), fun j g => h.notok j (by simpa [get] using g)⟩
 ·obtain ⟨i, e2⟩ := hobn id b e
  exact h.obn i b e2
 ·have g' : get s (.b j) = some cv := by simpa [get] using g
  exact (h.box j cv g' hl).stay hle (fun id b e => .inl (hobn id b e)) (fun _ _ => rfl) (fun b2 p1 o => by rw [hkn])
 ·have g' : get s (.t j) = some (.tk m el esz xs) := by simpa [get] using g
  exact (h.tok j m el esz xs g').stay hle (fun id b e => .inl (hobn id b e)) (fun _ _ _ _ => rfl) (fun v b2 hv hb2 o => by rw [hkn])
 ·simp [get] at g2
  subst g2
  exact h.hdisj c b (hown _ _ hc) H hH (hft b e2)
theorem Rel.LO {E : de} {G : Gh} {L : Loc} {a : Act} {w : World} (h : Rel E N G L a w s) {H : Hp} (hH : get s .h = some (.hp H)) (id : Nat) : Rel E N G L a w ((.h, .hp (H.del id)) :: s) := by
 obtain ⟨H0, gH, hok, hmay⟩ := h.heap
 rw [hH] at gH; cases gH
 obtain ⟨h1, h2, h3⟩ := hok.del id
 exact h.w9 hH (Gh.le.refl G) rfl (fun id b e => ⟨id, e⟩) h1 h3
theorem Rel.LP {E : de} {G : Gh} {L : Loc} {a : Act} {w : World} (h : Rel E N G L a w s) {H : Hp} (hH : get s .h = some (.hp H)) {id : Nat} {xs ys : List AV} (ho : H.obj id = some ((xs ++ ys).map .v)) : Rel E N G L a w ((.h, .hp (H.set id (xs.map .v))) :: s) := by
 obtain ⟨H0, gH, hok, hmay⟩ := h.heap
 rw [hH] at gH; cases gH
 have hobj : ∀ i hs2, (H.set id (xs.map .v)).obj i = some hs2 → (i = id ∧ hs2 = xs.map .v) ∨ (i ≠ id ∧ H.obj i = some hs2) := by
  intro i hs2 e
  by_cases e2 : i = id
  ·have e3 : (if i = id then some (xs.map Hc.v) else H.obj i) = some hs2 := e
   rw [if_pos e2] at e3; cases e3; exact .inl ⟨e2, rfl⟩
  ·have e3 : (if i = id then some (xs.map Hc.v) else H.obj i) = some hs2 := e
   rw [if_neg e2] at e3; exact .inr ⟨e2, e3⟩
 have hl : ∀ i, (∃ c, (H.set id (xs.map .v)).obj i = some c) → ∃ c, H.obj i = some c := by
  rintro i ⟨c, k⟩
  rcases hobj _ _ k with ⟨rfl, _⟩ | ⟨_, p⟩
  ·exact ⟨_, ho⟩
  ·exact ⟨_, p⟩
 have hhr : ∀ i j b, bj G (H.set id (xs.map .v)) w i j b → bj G H w i j b := by
  rintro i j b ⟨cs2, el, esz, ys2, b0, arr2, t2, fr, q1, q2, q3, q4, q5⟩
  rcases hobj _ _ q1 with ⟨rfl, rfl⟩ | ⟨e1, e2⟩
  ·rw [List.getElem?_map] at q2
   cases hx : xs[j]? with
   | none => rw [hx] at q2; cases q2
   | some y => rw [hx] at q2; cases q2
  ·exact ⟨cs2, el, esz, ys2, b0, arr2, t2, fr, e2, q2, q3, q4, q5⟩
 refine h.w9 hH (Gh.le.refl G) rfl (fun id b e => ⟨id, e⟩) ⟨hok.lt, fun i i' b e e' k k' => hok.inj i i' b e e' (hl i k) (hl i' k'), fun i cs e => ?_, fun i j b hr => ?_⟩ (fun b hf => ?_)
 ·rcases hobj _ _ e with ⟨rfl, rfl⟩ | ⟨e1, e2⟩
  ·obtain ⟨blk, arr, el, q1, q2, q3, q4, q5⟩ := hok.obj _ _ ho
   refine ⟨blk, arr, el, q1, q2, ⟨?_, q3.2⟩, fun j x hx => q4 j x ?_, q5⟩
   ·have := q3.1; simp only [List.length_map, List.length_append] at this ⊢; omega
   ·rw [List.map_append, List.getElem?_append_left (List.getElem?_eq_some_iff.1 hx).1]; exact hx
  ·exact hok.obj i cs e2
 ·obtain ⟨q1, q2⟩ := hok.apart i j b (hhr _ _ _ hr)
  exact ⟨q1, fun i' j' hr' => q2 i' j' (hhr _ _ _ hr')⟩
 ·rcases hf with ⟨i, k, e⟩ | ⟨i, j, k⟩
  ·exact .inl ⟨i, hl i k, e⟩
  ·exact .inr ⟨i, j, hhr _ _ _ k⟩
theorem Rel.Jc {E : de} {G : Gh} {L : Loc} {a : Act} {w : World} (h : Rel E N G L a w s) {H : Hp} (hH : get s .h = some (.hp H)) {id blk : Nat} {xs : List AV} (ho : H.obj id = some (xs.map .v)) (hb : G.ob id = some blk) :
  ∃ G', G'.ob H.next = some blk ∧ G'.sz H.next = G.sz id ∧ G.le G' ∧ Rel E N G' L a w ((.h, .hp ((H.del id).new (xs.map .v))) :: s) := by
 obtain ⟨H0, gH, hok, hmay⟩ := h.heap
 rw [hH] at gH; cases gH
 let G' := G.qi H.next blk (G.sz id)
 have hnew : ∀ b, G.ob H.next ≠ some b := fun b e => by have := (hok.lt _ _ e).1; omega
 have hidlt := (hok.lt _ _ hb).1
 have hle : G.le G' := ⟨fun b o v e => e, fun i b e => by
  show (if i = H.next then some blk else G.ob i) = some b
  rw [if_neg (fun (e2 : i = H.next) => hnew b (by rw [← e2]; exact e))]; exact e, fun i b e => by
  show (if i = H.next then G.sz id else G.sz i) = G.sz i
  rw [if_neg (fun (e2 : i = H.next) => hnew b (by rw [← e2]; exact e))]⟩
 have hob : ∀ i b, G'.ob i = some b → (i = H.next ∧ b = blk) ∨ (i ≠ H.next ∧ G.ob i = some b) := by
  intro i b e
  have e3 : (if i = H.next then some blk else G.ob i) = some b := e
  by_cases e2 : i = H.next
  ·rw [if_pos e2] at e3; cases e3; exact .inl ⟨e2, rfl⟩
  ·rw [if_neg e2] at e3; exact .inr ⟨e2, e3⟩
 have hob1 : G'.ob H.next = some blk := by show (if H.next = H.next then some blk else G.ob H.next) = some blk; rw [if_pos rfl]
 have hobj : ∀ i cs, ((H.del id).new (xs.map .v)).obj i = some cs → (i = H.next ∧ cs = xs.map .v) ∨ (i ≠ H.next ∧ i ≠ id ∧ H.obj i = some cs) := by
  intro i cs e
  have e3 : (if i = H.next then some (xs.map Hc.v) else if i = id then none else H.obj i) = some cs := e
  by_cases e1 : i = H.next
  ·rw [if_pos e1] at e3; cases e3; exact .inl ⟨e1, rfl⟩
  ·rw [if_neg e1] at e3
   by_cases e2 : i = id
   ·rw [if_pos e2] at e3; cases e3
   ·rw [if_neg e2] at e3; exact .inr ⟨e1, e2, e3⟩
 have hhr : ∀ i j b, bj G' ((H.del id).new (xs.map .v)) w i j b → bj G H w i j b := by
  rintro i j b ⟨cs2, el, esz, ys2, b0, arr2, t2, fr, q1, q2, q3, q4, q5⟩
  rcases hobj _ _ q1 with ⟨rfl, rfl⟩ | ⟨e1, _, e2⟩
  ·rw [List.getElem?_map] at q2
   cases hx : xs[j]? with
   | none => rw [hx] at q2; cases q2
   | some y => rw [hx] at q2; cases q2
  ·rcases hob _ _ q3 with ⟨e4, _⟩ | ⟨_, e4⟩
   ·exact absurd e4 e1
   ·exact ⟨cs2, el, esz, ys2, b0, arr2, t2, fr, e2, q2, e4, q4, q5⟩
 have hobn : ∀ i b, G'.ob i = some b → ∃ i', G.ob i' = some b := fun i b e => by
  rcases hob i b e with ⟨_, rfl⟩ | ⟨_, e2⟩
  ·exact ⟨id, hb⟩
  ·exact ⟨i, e2⟩
 refine ⟨G', hob1, by show (if H.next = H.next then G.sz id else _) = _; rw [if_pos rfl], hle, h.w9 hH hle rfl hobn ⟨fun i b e => ?_, fun i i' b e e' ⟨c, k⟩ ⟨c', k'⟩ => ?_, fun i cs e => ?_, fun i j b hr => ?_⟩ (fun b hf => ?_)⟩
 ·rcases hob i b e with ⟨rfl, rfl⟩ | ⟨_, e2⟩
  ·exact ⟨Nat.lt_succ_self _, (hok.lt _ _ hb).2⟩
  ·exact ⟨Nat.lt_succ_of_lt (hok.lt _ _ e2).1, (hok.lt _ _ e2).2⟩
 ·rcases hobj _ _ k with ⟨rfl, _⟩ | ⟨n1, n2, k1⟩ <;> rcases hobj _ _ k' with ⟨rfl, _⟩ | ⟨m1, m2, k2⟩
  ·rfl
  ·rw [hob1] at e; cases e
   rcases hob _ _ e' with ⟨e4, _⟩ | ⟨_, e4⟩
   ·exact absurd e4 m1
   ·exact absurd (hok.inj _ _ _ e4 hb ⟨_, k2⟩ ⟨_, ho⟩) m2
  ·rw [hob1] at e'; cases e'
   rcases hob _ _ e with ⟨e4, _⟩ | ⟨_, e4⟩
   ·exact absurd e4 n1
   ·exact absurd (hok.inj _ _ _ e4 hb ⟨_, k1⟩ ⟨_, ho⟩) n2
  ·rcases hob _ _ e with ⟨e4, _⟩ | ⟨_, e4⟩
   ·exact absurd e4 n1
   ·rcases hob _ _ e' with ⟨e5, _⟩ | ⟨_, e5⟩
    ·exact absurd e5 m1
    ·exact hok.inj _ _ _ e4 e5 ⟨_, k1⟩ ⟨_, k2⟩
 ·rcases hobj _ _ e with ⟨rfl, rfl⟩ | ⟨e1, _, e2⟩
  ·obtain ⟨b2, arr, el, q1, q2, q3, q4, q5⟩ := hok.obj _ _ ho
   rw [hb] at q1; cases q1
   refine ⟨blk, arr, el, hob1, q2, ⟨q3.1, q3.2.trans (by show _ = (if H.next = H.next then G.sz id else _); rw [if_pos rfl])⟩, fun j x hx => ?_, q5⟩
   have := q4 j x hx
   rw [List.getElem?_map] at hx
   cases hv : xs[j]? with
   | none => rw [hv] at hx; cases hx
   | some y => rw [hv] at hx; cases hx; exact ⟨this.1, V.mono hle this.2⟩
  ·obtain ⟨b2, arr, el, q1, q2, q3, q4, q5⟩ := hok.obj _ _ e2
   refine ⟨b2, arr, el, hle.ob _ _ q1, q2, ⟨q3.1, q3.2.trans (hle.sz _ _ q1).symm⟩, fun j x hx => ?_, q5⟩
   have := q4 j x hx
   cases x with
   | v a => exact ⟨this.1, V.mono hle this.2⟩
   | row el2 esz ys =>
    have hr : eu G w true el2 esz (arr.getD j undef) ys := this
    exact hr.stay hle (fun _ _ => rfl) (fun _ _ _ => rfl)
 ·obtain ⟨q1, q2⟩ := hok.apart i j b (hhr _ _ _ hr)
  refine ⟨fun i' e => ?_, fun i' j' hr' => q2 i' j' (hhr _ _ _ hr')⟩
  obtain ⟨i2, e2⟩ := hobn i' b e
  exact q1 i2 e2
 ·rcases hf with ⟨i, ⟨cs, k⟩, e⟩ | ⟨i, j, k⟩
  ·rcases hobj _ _ k with ⟨rfl, _⟩ | ⟨n1, _, k1⟩
   ·rw [hob1] at e; cases e
    exact .inl ⟨id, ⟨_, ho⟩, hb⟩
   ·rcases hob _ _ e with ⟨e4, _⟩ | ⟨_, e4⟩
    ·exact absurd e4 n1
    ·exact .inl ⟨i, ⟨_, k1⟩, e4⟩
  ·exact .inr ⟨i, j, hhr _ _ _ k⟩
theorem Rel.IS {E : de} {G : Gh} {L : Loc} {a : Act} {w w1 : World} (hr : Rel E N G L a w s) (hg : w.grownBy w1 none) (hw : w1.heap.size = w.heap.size) {H : Hp} (hH : get s .h = some (.hp H)) (hd : get s (.b d) = none) {arr : Array Value} {el : TypeId} {zs : List AV} (hz : arr.size = zs.length)
  (hc : ∀ (j : Nat) x, zs[j]? = some x → x.flat = true ∧ V G (arr.getD j undef) x) :
  ∃ G' L', G'.ob H.next = some w.heap.size ∧ Rel E N G' L' a (w1.alloc (.cells arr el)) ((.h, .hp (H.new (zs.map .v))) :: (.b d, .gone) :: s) := by
 obtain ⟨hle, hr1⟩ := hr.known hg (Nat.le_refl _) (cells := []) (fun o v e => by simp at e)
 have hok : gB (G.add w.heap.size []) (L.bq d w1.heap.size) (.cells arr el) (.bx (zs.map .v)) := by
  refine ⟨_, _, rfl, by simpa using hz, fun j y e => ?_⟩
  simp only [List.getElem?_map] at e
  cases hx : zs[j]? with
  | none => rw [hx] at e; cases e
  | some x =>
   rw [hx] at e; cases e
   exact ⟨(hc j x hx).1, V.mono hle (hc j x hx).2⟩
 have hr2 := hr1.alloc d hd (.cells arr el) (.bx (zs.map .v)) rfl rfl hok
 obtain ⟨G', hr3⟩ := hr2.qi (k := d) (cs := zs.map .v) (H := H) (by simp [get]) (by simpa [get] using hH)
 have hcs : ny ((.b d, .ob H.next (zs.map .v)) :: (.h, .hp ⟨H.next + 1, H.obj⟩) :: (.b d, .bx (zs.map .v)) :: s) (zs.map .v) = some (zs.map .v) := by
  generalize ((.b d, .ob H.next (zs.map .v)) :: (.h, .hp ⟨H.next + 1, H.obj⟩) :: (.b d, .bx (zs.map .v)) :: s : St) = s0
  clear hr3 hr2 hok hz hc
  induction zs with
  | nil => rfl
  | cons x l ih => simp only [List.map_cons, ny, CP, ih]
 have hro : rowsOf (zs.map .v) = [] := by
  clear hr3 hr2 hok hz hc hcs
  induction zs with
  | nil => rfl
  | cons x l ih => simp only [List.map_cons, rowsOf, ih]
 have hr4 := hr3.cls (k := d) (id := H.next) (hs := zs.map .v) (H := ⟨H.next + 1, H.obj⟩) (by simp [get]) (by simp [get]) hcs (by rw [hro]; exact List.nodup_nil)
 obtain ⟨blk, o, b1, b2, b3, b4, b5, b6⟩ := hr3.box d (.ob H.next (zs.map .v)) (by simp [get]) rfl
 have hb6 : G'.ob H.next = some blk := b6
 have hbl : blk = w.heap.size := by
  have : (L.bq d w1.heap.size).box d = some blk := b1
  simp [Loc.bq] at this
  rw [← this, hw]
 refine ⟨G', _, by rw [hb6, hbl], hr4.ext fun c => ?_⟩
 rw [hro]
 simp only [cG, List.nil_append, get]
 by_cases e1 : aM.h = c
 ·subst e1; simp; rfl
 ·by_cases e2 : aM.b d = c
  ·subst e2; simp
  ·simp [e1, e2]
theorem GD {arr : Array Value} {k : Nat} {news : List Value} (h : k + news.length ≤ arr.size) (j : Nat) :
  (arr.toList.take k ++ news ++ arr.toList.drop (k + news.length)).toArray.getD j undef = if j < k then arr.getD j undef else if j < k + news.length then news.getD (j - k) undef else arr.getD j undef := by
 have := BR (cs := arr.toList) (l := news) (k := k) (j := j) (by simpa using h)
 unfold HW at this
 simp only [Array.getD_eq_getD_getElem?, List.getElem?_toArray, this, List.getD_eq_getElem?_getD]
 split
 ·simp
 ·split
  ·rfl
  ·simp
theorem xJ {G : Gh} {i : TypeInfo} {z : Value} {el : TypeId} {zs : List AV} (hi : P.info? el = some i) (hzz : i.zero = some z) (hz : bf P el = some zs) : ∀ v ∈ z.cells, v.oneCell' = true := by
 unfold bf at hz
 rw [hi] at hz
 simp only [hzz] at hz
 obtain ⟨q1, q2⟩ := iM G hz
 intro v hv
 obtain ⟨j, hj, rfl⟩ := Array.mem_iff_getElem.1 hv
 have hj2 : j < zs.length := by rw [← q1]; simpa using hj
 obtain ⟨q3, q4⟩ := q2 j _ (List.getElem?_eq_getElem hj2)
 have := q4.eY q3
 simpa [List.getD_eq_getElem?_getD, List.getElem?_eq_getElem (show j < z.cells.toList.length by simpa using hj)] using this
theorem Hp.FE {H : Hp} {id : Nat} {cs : List Hc} (h : id ≠ H.next) : (H.new cs).del id = (H.del id).new cs := by
 simp only [Hp.new, Hp.set, Hp.del]
 congr 1
 funext k
 by_cases h1 : k = H.next
 ·subst h1; simp [Ne.symm h]
 ·simp [h1]
theorem Rel.yE {E : de} {G : Gh} {L : Loc} {a : Act} {w : World} (h : Rel E N G L a w s) {d : Nat} (hd : get s (.b d) = none) : Rel E N G L a w ((.b d, .gone) :: s) := by
 have hown : ∀ c b, owns ((.b d, .gone) :: s) L c b → owns s L c b := by
  intro c b hc
  by_cases e : c = .b d
  ·subst e
   obtain ⟨⟨cv, g, hl⟩, _⟩ := hc
   simp [get] at g; subst g; cases hl
  ·exact ct e hc
 refine ⟨h.size, h.defs, h.ge, h.kn, h.old, h.obs, h.obn, h.fr, fun n x g => h.slot n x (by simpa [get] using g), fun j cv g hl => ?_, fun j m el esz xs g => h.tok j m el esz xs (by simpa [get] using g), fun c e b hc he => h.disj c e b (hown _ _ hc) (hown _ _ he), by simpa [get] using h.heap, fun c b hc H g => h.hdisj c b (hown _ _ hc) H (by simpa [get] using g), fun j g => ?_, fun j g => h.notok j (by simpa [get] using g)⟩
 ·by_cases e : j = d
  ·subst e; simp [get] at g; subst g; cases hl
  ·exact h.box j cv (by simpa [get, Ne.symm e] using g) hl
 ·by_cases e : j = d
  ·subst e; simp [get] at g
  ·exact h.nobox j (by simpa [get, Ne.symm e] using g)
theorem Rel.sj {E : de} {G : Gh} {L : Loc} {a : Act} {w w1 : World} (hr : Rel E N G L a w s) (hg : w.grownBy w1 none) (hw : w1.heap.size = w.heap.size) {H : Hp} (hH : get s .h = some (.hp H)) (hd : get s (.b d) = none) {arr : Array Value} {el : TypeId} {zs : List AV} (hz : zs.length ≤ arr.size)
  (hc : ∀ (j : Nat) x, zs[j]? = some x → x.flat = true ∧ V G (arr.getD j undef) x) (hone : ∀ j, zs.length ≤ j → j < arr.size → (arr.getD j undef).oneCell' = true) :
  ∃ G' L', G'.ob H.next = some w.heap.size ∧ G'.sz H.next = arr.size ∧ Rel E N G' L' a (w1.alloc (.cells arr el)) ((.h, .hp (H.new (zs.map .v))) :: (.b d, .gone) :: s) := by
 obtain ⟨G', L', h1, h2⟩ := hr.IS hg hw hH hd (arr := arr) (el := el) (zs := zs ++ List.replicate (arr.size - zs.length) .junk) (by simp; omega) (fun j x e => by
  by_cases hj : j < zs.length
  ·rw [List.getElem?_append_left hj] at e; exact hc j x e
  ·rw [List.getElem?_append_right (by omega)] at e
   have hv : x = .junk := List.eq_of_mem_replicate (List.mem_of_getElem? e)
   subst hv
   have := (List.getElem?_eq_some_iff.1 e).1
   rw [List.length_replicate] at this
   exact ⟨rfl, V.junk _ (hone j (by omega) (by omega))⟩)
 refine ⟨G', L', h1, ?_, ?_⟩
 ·obtain ⟨H0, gH, hok, _⟩ := h2.heap
  simp [get] at gH; subst gH
  obtain ⟨blk, arr2, el2, q1, q2, q3, _⟩ := hok.obj H.next _ (Hp.fH _ _)
  rw [h1] at q1; cases q1
  have : (w1.alloc (.cells arr el)).heap[w.heap.size]? = some (.cells arr el (0, 0)) := by rw [show (w1.alloc (.cells arr el)).heap = w1.heap.push (.cells arr el (0, 0)) from rfl, ← hw, Array.getElem?_push_size]
  rw [this] at q2; cases q2
  exact q3.2.symm
 ·have h3 := h2.LP (H := H.new ((zs ++ List.replicate (arr.size - zs.length) AV.junk).map .v)) (id := H.next) (xs := zs) (ys := List.replicate (arr.size - zs.length) AV.junk) (by simp [get]) (Hp.fH _ _)
  rw [Hp.FD] at h3
  refine h3.ext fun c => ?_
  simp only [get]
  split
  ·rfl
  ·rfl
theorem oE {w : World} {t ty e : Nat} {i : TypeInfo} (ht : P.underlying t = some (.slice e)) (hi : P.info? e = some i) (b n cap : Nat) (hn : n ≤ cap) (A : Option Addr) (c : Nat) :
  (Builtin.append_ #[t, t] ty #[.slice (some ⟨b, 0, none⟩) n cap, .slice A 0 c]).run P w = .ok (.slice (some ⟨b, 0, none⟩) n cap) w := by
 have hfc : ∀ (sz : Nat), (Builtin.firstCells sz 0 (.slice A 0 c)).run P w = .ok #[] w := by
  intro sz
  cases A <;> simp [Builtin.firstCells, loadCells, loadCellsFrom]
 simp [Builtin.append_, run_underlying ht, sizeOf, typeInfo, hi, Builtin.lenOf, hfc, hn, storeCells]
def Src (G : Gh) (w : World) (v : Value) (esz : Nat) (ys : List AV) : Prop :=
 (ys = [] ∧ ∃ A c, v = .slice A 0 c) ∨ ∃ ad c news, v = .slice (some ad) ys.length c ∧ news.length = ys.length * esz ∧ (∀ (j : Nat) u, news[j]? = some u → w.cell? (ad.add j) = some u) ∧ (∀ u ∈ news, u.oneCell' = true) ∧ Lay G esz ys news
theorem uU {t1 el esz by_ : Nat} {x y : Operand} {id n : Nat} {xs ys zs : List AV} {H : Hp} (hN : d < N) (ht : se P t1 = some (el, esz, by_)) (hz : bf P el = some zs) (hx : cu x s = some (.os id n esz)) (hH : get s .h = some (.hp H)) (ho : H.obj id = some (xs.map .v)) (hl : xs.length = n * esz)
  (Ry : List aM) (hes : ∀ e ∈ ys, e.cells.length = esz) (hsrc : ∀ E G L a w t, Rel E N G L a w t → Reads Ry s t → 0 < esz → Src G w (a.eval y) esz ys) (hd : get s (.b d) = none) (hb : (n + ys.length) * by_ ≤ 140737488355328) (h63 : n + ys.length ≤ 9223372036854775807) :
  ae P N ⟨some d, .call { callee := .builtin .append, args := #[x, y], argTypes := #[t1, t1] }, ty, pos, af, g⟩ s (rd x ++ (Ry ++ [.h, .b d]))
   [(.s d, .sv (.v (.os H.next (n + ys.length) esz))), (.h, .hp ((H.del id).new ((xs ++ ys.flatMap AV.cells).map .v))), (.b d, .gone)] := by
 intro t hR E G L a w hr K QQ hK
 have hH' : get t .h = some (.hp H) := by rw [hR .h (by simp)]; exact hH
 have hd' : get t (.b d) = none := by rw [hR (.b d) (by simp)]; exact hd
 obtain ⟨i, z, hu, hi, hzz, hzs, hsz, hby, hpos⟩ := lR ht
 subst hsz
 subst hby
 have hv := aU hr hR.left hx
 have hVy := hsrc E G L a w t hr hR.right.left hpos
 generalize hav : a.eval x = u at hv
 cases hv
 rename_i blk cap hob hnc hcz
 obtain ⟨H0, gH, hokH, hmay⟩ := hr.heap
 rw [hH'] at gH; cases gH
 obtain ⟨blk0, arr, el1, p1, p2, p3, p4, p5⟩ := hokH.obj id _ ho
 rw [hob] at p1; cases p1
 rw [List.length_map, hl] at p3
 have hne : id ≠ H.next := by have := (hokH.lt _ _ hob).1; omega
 have hxa : xs.length ≤ arr.size := by rw [hl]; exact p3.1
 have hcell : ∀ (j : Nat) v, (xs)[j]? = some v → v.flat = true ∧ V G (arr.getD j undef) v := fun j v e => by
  have := p4 j (.v v) (by rw [List.getElem?_map, e]; rfl)
  exact this
 rcases hVy with ⟨e, A, c, hay⟩ | ⟨ad, c2, news, hay, hnl, hnews, hone, hLy⟩
 ·subst e
  have hrun := oE (P := P) (w := w) (ty := ty) hu hi blk n cap hnc A c
  unfold Oper.wp
  have he : (execOp a.eval ⟨some d, .call { callee := .builtin .append, args := #[x, y], argTypes := #[t1, t1] }, ty, pos, af, g⟩).run P w = .ok (.value (.slice (some ⟨blk, 0, none⟩) n cap)) w := by
   simp only [execOp, resolve, invoke, builtin, Sem.run_bind, Sem.run_pure, Result.andThen_ok, List.map_toArray, List.map_cons, List.map_nil, hav, hay, hrun]
  rw [he]
  obtain ⟨G', q1, q2, q3, q4⟩ := (hr.yE hd').Jc (H := H) (by simpa [get] using hH') ho hob
  refine hK _ _ G' L (((q4.put d hN _ (.v (.os H.next n i.size)) (V.os H.next _ _ _ _ q1 hnc (by rw [q2]; exact hcz)))).ext fun c => ?_)
  simp [get]
 ·have hfl : (ys.flatMap AV.cells).length = ys.length * i.size := dA hes
  have hnews2 : ∀ (j : Nat) v, (ys.flatMap AV.cells)[j]? = some v → v.flat = true ∧ V G (news.getD j undef) v := fun j v e => Lay.flat hLy hpos j v e
  unfold Oper.wp
  by_cases hroom : n + ys.length ≤ cap
  ·have hfit : n * i.size + news.length ≤ arr.size := by
    rw [hnl, ← Nat.add_mul, p3.2]; exact Nat.le_trans (Nat.mul_le_mul_right _ hroom) hcz
   have hrun := nA (P := P) (w := w) t1 ty el el1 i hu hi blk n cap arr p2 ad ys.length c2 news hnl hnews hone hroom hfit
   have he : (execOp a.eval ⟨some d, .call { callee := .builtin .append, args := #[x, y], argTypes := #[t1, t1] }, ty, pos, af, g⟩).run P w = .ok (.value (.slice (some ⟨blk, 0, none⟩) (n + ys.length) cap)) (w.setRow blk (arr.toList.take (n * i.size) ++ news ++ arr.toList.drop (n * i.size + news.length)).toArray) := by
    simp only [execOp, resolve, invoke, builtin, Sem.run_bind, Sem.run_pure, Result.andThen_ok, List.map_toArray, List.map_cons, List.map_nil, hav, hay, hrun]
   rw [he]
   have hr2 := hr.mB (cs' := (xs ++ ys.flatMap AV.cells).map .v) (arr' := (arr.toList.take (n * i.size) ++ news ++ arr.toList.drop (n * i.size + news.length)).toArray) (w' := w.setRow blk _) hH' ho hob p2 rfl rfl rfl (size_setRow w blk _) (fun j hj => setRow_other w blk j _ hj) (setRow_heap w blk arr _ el1 (0, 0) p2)
    ⟨by simp; omega, by simp only [List.length_map, List.length_append, hl, hfl, List.size_toArray, List.length_take, List.length_drop, Array.length_toList]; omega⟩
    (fun j y e => by
     rw [List.getElem?_map] at e
     cases hg : (xs ++ ys.flatMap AV.cells)[j]? with
     | none => rw [hg] at e; cases e
     | some v =>
      rw [hg] at e; cases e
      show v.flat = true ∧ V G _ v
      rw [GD hfit, hnl]
      by_cases hj : j < n * i.size
      ·rw [if_pos hj]
       rw [List.getElem?_append_left (by omega)] at hg
       exact hcell j v hg
      ·rw [if_neg hj]
       rw [List.getElem?_append_right (by omega), hl] at hg
       have := (List.getElem?_eq_some_iff.1 hg).1
       rw [if_pos (by omega)]
       exact hnews2 _ v hg)
    (fun j el esz ys2 e => by
     rw [List.getElem?_map] at e
     cases hg : (xs ++ ys.flatMap AV.cells)[j]? with
     | none => rw [hg] at e; cases e
     | some v => rw [hg] at e; cases e)
   obtain ⟨G', q1, q2, q3, q4⟩ := (hr2.yE (d := d) (by simpa [get] using hd')).Jc (H := H.set id ((xs ++ ys.flatMap AV.cells).map .v)) (id := id) (by simp [get]) Hp.bk hob
   have hdd : (H.set id ((xs ++ ys.flatMap AV.cells).map .v)).del id = H.del id := by
    simp only [Hp.set, Hp.del]
    congr 1
    funext k
    by_cases h1 : k = id
    ·simp [h1]
    ·simp [h1]
   rw [hdd] at q4
   refine hK _ _ G' L (((q4.put d hN _ (.v (.os H.next (n + ys.length) i.size)) (V.os H.next _ _ _ _ q1 hroom (by have q2' : G'.sz H.next = G.sz id := q2; rw [q2']; exact hcz)))).ext fun c => ?_)
   simp only [List.cons_append, List.nil_append, get]
   split
   ·rfl
   ·split
    ·rfl
    ·rfl
  ·have hlo : (arr.toList.take (n * i.size)).length = n * i.size := by
    rw [List.length_take, Array.length_toList]; omega
   have hrun := run_append_grow (P := P) (w := w) t1 ty el i z hu hi hzz ⟨blk, 0, none⟩ n cap (arr.toList.take (n * i.size)) hlo (fun j v e => by
    rw [List.getElem?_take] at e
    split at e
    ·rw [Addr.add_lit, Nat.zero_add, cell_of_row w blk j arr el1 (0, 0) p2]
     simpa using e
    ·cases e) ad ys.length c2 news hnl hnews (by omega) (by omega) (growslice_fits (by omega) hb)
   have he : (execOp a.eval ⟨some d, .call { callee := .builtin .append, args := #[x, y], argTypes := #[t1, t1] }, ty, pos, af, g⟩).run P w = .ok (.value (.slice (some ⟨w.heap.size, 0, none⟩) (n + ys.length) (grownCap w (n + ys.length) cap el))) (w.drew.alloc (.cells ((arr.toList.take (n * i.size)).toArray ++ news.toArray ++ Builtin.zeroCells z.cells (grownCap w (n + ys.length) cap el - (n + ys.length))) el)) := by
    simp only [execOp, resolve, invoke, builtin, Sem.run_bind, Sem.run_pure, Result.andThen_ok, List.map_toArray, List.map_cons, List.map_nil, hav, hay, hrun]
   rw [he]
   have hge := grownCap_ge w (n + ys.length) cap el
   have hzone := xJ (G := G) hi hzz hz
   have hsz : ((arr.toList.take (n * i.size)).toArray ++ news.toArray ++ Builtin.zeroCells z.cells (grownCap w (n + ys.length) cap el - (n + ys.length))).size = grownCap w (n + ys.length) cap el * i.size := by
    simp only [Array.size_append, List.size_toArray, size_zeroCells, hzs, hlo, hnl]
    rw [← Nat.add_mul, ← Nat.add_mul]
    congr 1; omega
   have hlt2 : n * i.size + ys.length * i.size ≤ grownCap w (n + ys.length) cap el * i.size := by rw [← Nat.add_mul]; exact Nat.mul_le_mul_right _ hge
   obtain ⟨G', L', hob', hsz', hr2⟩ := hr.sj (w1 := w.drew) ⟨rfl, rfl, rfl, Nat.le_refl _, fun _ _ _ => rfl⟩ rfl hH' hd' (el := el) (arr := (arr.toList.take (n * i.size)).toArray ++ news.toArray ++ Builtin.zeroCells z.cells (grownCap w (n + ys.length) cap el - (n + ys.length))) (zs := xs ++ ys.flatMap AV.cells) (by rw [hsz, List.length_append, hl, hfl]; exact hlt2) (fun j v e => by
    by_cases h1 : j < n * i.size
    ·rw [List.getElem?_append_left (by omega)] at e
     have := hcell j v e
     refine ⟨this.1, ?_⟩
     rw [Array.getD_eq_getD_getElem?, Array.append_assoc, Array.getElem?_append_left (by simp only [List.size_toArray, hlo]; exact h1)]
     rw [Array.getD_eq_getD_getElem?] at this
     simpa [List.getElem?_take, h1] using this.2
    ·rw [List.getElem?_append_right (by omega), hl] at e
     have h2 := (List.getElem?_eq_some_iff.1 e).1
     have := hnews2 _ v e
     refine ⟨this.1, ?_⟩
     rw [Array.getD_eq_getD_getElem?, Array.append_assoc, Array.getElem?_append_right (by simp only [List.size_toArray, hlo]; omega), Array.getElem?_append_left (by simp only [List.size_toArray, hlo, hnl]; omega)]
     simp only [List.size_toArray, hlo, List.getElem?_toArray]
     rw [← List.getD_eq_getElem?_getD]
     exact this.2) (fun j h1 h2 => by
    rw [List.length_append, hl, hfl] at h1
    rw [hsz] at h2
    have hlt : j - (n * i.size + ys.length * i.size) < (Builtin.zeroCells z.cells (grownCap w (n + ys.length) cap el - (n + ys.length))).size := by
     rw [size_zeroCells, hzs, Nat.sub_mul, Nat.add_mul]; omega
    rw [Array.getD_eq_getD_getElem?, Array.getElem?_append_right (by simp only [Array.size_append, List.size_toArray, hlo, hnl]; omega)]
    simp only [Array.size_append, List.size_toArray, hlo, hnl]
    rw [Array.getElem?_eq_getElem hlt]
    exact mZ hzone _ _ (Array.getElem_mem hlt))
   have hr3 := hr2.LO (H := H.new ((xs ++ ys.flatMap AV.cells).map .v)) (by simp [get]) id
   rw [Hp.FE hne] at hr3
   refine hK _ _ G' L' (((hr3.put d hN _ (.v (.os H.next (n + ys.length) i.size)) (V.os H.next _ _ _ _ hob' hge (by rw [hsz', hsz]; exact Nat.le_refl _)))).ext fun c => ?_)
   simp only [List.cons_append, List.nil_append, get]
   split
   ·rfl
   ·split
    ·rfl
    ·rfl
theorem Eu {t1 el esz by_ : Nat} {x y : Operand} {id n : Nat} {xs ys zs : List AV} {H : Hp} (hN : d < N) (ht : se P t1 = some (el, esz, by_)) (hz : bf P el = some zs) (hx : cu x s = some (.os id n esz)) (hH : get s .h = some (.hp H)) (ho : H.obj id = some (xs.map .v)) (hl : xs.length = n * esz)
  (hy : cu y s = some (.sl ys)) (hok : c4 esz ys = true) (hd : get s (.b d) = none) (hb : (n + ys.length) * by_ ≤ 140737488355328) (h63 : n + ys.length ≤ 9223372036854775807) :
  ae P N ⟨some d, .call { callee := .builtin .append, args := #[x, y], argTypes := #[t1, t1] }, ty, pos, af, g⟩ s (rd x ++ (rd y ++ [.h, .b d]))
   [(.s d, .sv (.v (.os H.next (n + ys.length) esz))), (.h, .hp ((H.del id).new ((xs ++ ys.flatMap AV.cells).map .v))), (.b d, .gone)] :=
 uU hN ht hz hx hH ho hl (rd y) (fun e he => (gk hok e he).1) (fun E G L a w t hr hR hp => n5 hr.kn (aU hr hR hy) hok hp) hd hb h63
theorem Bg {t1 el esz by_ : Nat} {x y : Operand} {id n id2 n2 : Nat} {xs ys zs : List AV} {H : Hp} (hN : d < N) (ht : se P t1 = some (el, esz, by_)) (hz : bf P el = some zs) (hx : cu x s = some (.os id n esz)) (hH : get s .h = some (.hp H)) (ho : H.obj id = some (xs.map .v)) (hl : xs.length = n * esz)
  (hy : cu y s = some (.os id2 n2 esz)) (ho2 : H.obj id2 = some ((ys.flatMap AV.cells).map .v)) (hes : ∀ e ∈ ys, e.cells.length = esz) (hn2 : ys.length = n2) (hd : get s (.b d) = none) (hb : (n + ys.length) * by_ ≤ 140737488355328) (h63 : n + ys.length ≤ 9223372036854775807) :
  ae P N ⟨some d, .call { callee := .builtin .append, args := #[x, y], argTypes := #[t1, t1] }, ty, pos, af, g⟩ s (rd x ++ ((rd y ++ [.h]) ++ [.h, .b d]))
   [(.s d, .sv (.v (.os H.next (n + ys.length) esz))), (.h, .hp ((H.del id).new ((xs ++ ys.flatMap AV.cells).map .v))), (.b d, .gone)] := by
 refine uU hN ht hz hx hH ho hl (rd y ++ [.h]) hes (fun E G L a w t hr hR hp => ?_) hd hb h63
 have hv := aU hr hR.left hy
 generalize a.eval y = u at hv
 cases hv
 rename_i blk cap hob hnc hcz
 obtain ⟨H0, gH, hokH, hmay⟩ := hr.heap
 rw [hR .h (by simp), hH] at gH; cases gH
 obtain ⟨blk0, arr, el1, p1, p2, p3, p4, p5⟩ := hokH.obj id2 _ ho2
 rw [hob] at p1; cases p1
 have hfl : (ys.flatMap AV.cells).length = ys.length * esz := dA hes
 rw [List.length_map, hfl] at p3
 have hcell : ∀ (j : Nat) v, (ys.flatMap AV.cells)[j]? = some v → v.flat = true ∧ V G (arr.getD j undef) v := fun j v e => p4 j (.v v) (by rw [List.getElem?_map, e]; rfl)
 by_cases h0 : ys = []
 ·subst h0
  exact .inl ⟨rfl, _, _, by rw [← hn2]; rfl⟩
 ·refine .inr ⟨⟨blk, 0, none⟩, cap, arr.toList.take (ys.length * esz), by rw [hn2], by rw [List.length_take, Array.length_toList]; exact Nat.min_eq_left p3.1, fun j v e => ?_, fun v hv => ?_, fun i e hi => hes e (List.mem_of_getElem? hi), fun i e j c hi hj => ?_⟩
  ·rw [List.getElem?_take] at e
   split at e
   ·rw [Addr.add_lit, Nat.zero_add, cell_of_row w blk j arr el1 (0, 0) p2]
    simpa using e
   ·cases e
  ·obtain ⟨j, hj⟩ := List.mem_iff_getElem?.1 hv
   have hj2 : j < ys.length * esz := by
    have h1 := (List.getElem?_eq_some_iff.1 hj).1
    rw [List.length_take] at h1
    exact Nat.lt_of_lt_of_le h1 (Nat.min_le_left _ _)
   have hlt : j < (ys.flatMap AV.cells).length := by rw [hfl]; exact hj2
   obtain ⟨q1, q2⟩ := hcell j _ (List.getElem?_eq_getElem hlt)
   have := q2.eY q1
   rw [List.getElem?_take, if_pos hj2, Array.getElem?_toList] at hj
   rw [Array.getD_eq_getD_getElem?, hj] at this
   exact this
  ·have hlt := (List.getElem?_eq_some_iff.1 hi).1
   have hec := hes e (List.mem_of_getElem? hi)
   have hjl : j < esz := by rw [← hec]; exact (List.getElem?_eq_some_iff.1 hj).1
   have hg := jQ hes i j e hi hjl
   rw [hj] at hg
   obtain ⟨q1, q2⟩ := hcell _ _ hg
   refine ⟨q1, ?_⟩
   have hidx : i * esz + j < ys.length * esz := by
    have := Nat.mul_le_mul_right esz (Nat.succ_le_of_lt hlt)
    rw [Nat.succ_mul] at this; omega
   rw [List.getD_eq_getElem?_getD, List.getElem?_take, if_pos hidx, Array.getElem?_toList, ← Array.getD_eq_getD_getElem?]
   exact q2
theorem Ev {t1 el esz by_ : Nat} {x y : Operand} {ys zs : List AV} {H : Hp} (hN : d < N) (ht : se P t1 = some (el, esz, by_)) (hz : bf P el = some zs) (hx : cu x s = some .nsl) (hH : get s .h = some (.hp H))
  (hy : cu y s = some (.sl ys)) (hok : c4 esz ys = true) (h0 : ys ≠ []) (hd : get s (.b d) = none) (hb : ys.length * by_ ≤ 140737488355328) (h63 : ys.length ≤ 9223372036854775807) :
  ae P N ⟨some d, .call { callee := .builtin .append, args := #[x, y], argTypes := #[t1, t1] }, ty, pos, af, g⟩ s (rd x ++ (rd y ++ [.h, .b d]))
   [(.s d, .sv (.v (.os H.next ys.length esz))), (.h, .hp (H.new ((ys.flatMap AV.cells).map .v))), (.b d, .gone)] := by
 intro t hR E G L a w hr K QQ hK
 have hH' : get t .h = some (.hp H) := by rw [hR .h (by simp)]; exact hH
 have hd' : get t (.b d) = none := by rw [hR (.b d) (by simp)]; exact hd
 obtain ⟨i, z, hu, hi, hzz, hzs, hsz, hby, hpos⟩ := lR ht
 subst hsz
 subst hby
 have hv := aU hr hR.left hx
 have hVy := aU hr hR.right.left hy
 generalize hav : a.eval x = u at hv
 cases hv
 have hm : 0 < ys.length := by cases ys with | nil => exact absurd rfl h0 | cons a l => simp
 rcases n5 hr.kn hVy hok hpos with ⟨e, _⟩ | ⟨ad, c2, news, hay, hnl, hnews, hone, hLy⟩
 ·exact absurd e h0
 ·have hfl : (ys.flatMap AV.cells).length = ys.length * i.size := dA fun e he => (gk hok e he).1
  have hnews2 : ∀ (j : Nat) v, (ys.flatMap AV.cells)[j]? = some v → v.flat = true ∧ V G (news.getD j undef) v := fun j v e => Lay.flat hLy hpos j v e
  unfold Oper.wp
  have hrun := run_append_nil (P := P) w t1 ty el i z hu hi hzz ad ys.length c2 news hnl hnews hm (by omega) (by omega)
  have he : (execOp a.eval ⟨some d, .call { callee := .builtin .append, args := #[x, y], argTypes := #[t1, t1] }, ty, pos, af, g⟩).run P w = .ok (.value (.slice (some ⟨w.heap.size, 0, none⟩) ys.length (grownCap w ys.length 0 el))) (w.drew.alloc (.cells (news.toArray ++ Builtin.zeroCells z.cells (grownCap w ys.length 0 el - ys.length)) el)) := by
   simp only [execOp, resolve, invoke, builtin, Sem.run_bind, Sem.run_pure, Result.andThen_ok, List.map_toArray, List.map_cons, List.map_nil, hav, hay, hrun]
  rw [he]
  have hge := grownCap_ge w ys.length 0 el
  have hzone := xJ (G := G) hi hzz hz
  have hsz : (news.toArray ++ Builtin.zeroCells z.cells (grownCap w ys.length 0 el - ys.length)).size = grownCap w ys.length 0 el * i.size := by
   simp only [Array.size_append, List.size_toArray, size_zeroCells, hzs, hnl]
   rw [← Nat.add_mul]
   congr 1; omega
  have hlt2 : ys.length * i.size ≤ grownCap w ys.length 0 el * i.size := Nat.mul_le_mul_right _ hge
  obtain ⟨G', L', hob', hsz', hr2⟩ := hr.sj (w1 := w.drew) ⟨rfl, rfl, rfl, Nat.le_refl _, fun _ _ _ => rfl⟩ rfl hH' hd' (el := el) (arr := news.toArray ++ Builtin.zeroCells z.cells (grownCap w ys.length 0 el - ys.length)) (zs := ys.flatMap AV.cells) (by rw [hsz, hfl]; exact hlt2) (fun j v e => by
   have h2 := (List.getElem?_eq_some_iff.1 e).1
   have := hnews2 _ v e
   refine ⟨this.1, ?_⟩
   rw [Array.getD_eq_getD_getElem?, Array.getElem?_append_left (by simp only [List.size_toArray, hnl]; omega)]
   simp only [List.getElem?_toArray]
   rw [← List.getD_eq_getElem?_getD]
   exact this.2) (fun j h1 h2 => by
   rw [hfl] at h1
   rw [hsz] at h2
   have hlt : j - ys.length * i.size < (Builtin.zeroCells z.cells (grownCap w ys.length 0 el - ys.length)).size := by
    rw [size_zeroCells, hzs, Nat.sub_mul]; omega
   rw [Array.getD_eq_getD_getElem?, Array.getElem?_append_right (by simp only [List.size_toArray, hnl]; omega)]
   simp only [List.size_toArray, hnl]
   rw [Array.getElem?_eq_getElem hlt]
   exact mZ hzone _ _ (Array.getElem_mem hlt))
  exact hK _ _ G' L' (hr2.put d hN _ (.v (.os H.next ys.length i.size)) (V.os H.next _ _ _ _ hob' hge (by rw [hsz', hsz]; exact Nat.le_refl _)))
theorem Ba {t1 el esz by_ n : Nat} {ps : List (Nat × Operand)} {«as» zs : List AV} {H : Hp} (hN : d < N) (ht : se P t1 = some (el, esz, by_)) (hz : bf P el = some zs) (hq : jy ps s = some (dn 0 «as»)) (hn : «as».length = n) (hok : c4 esz «as» = true) (hlen : «as».length * esz ≤ 16777216) (hH : get s .h = some (.hp H)) (hd : get s (.b d) = none) :
  ae P N ⟨some d, .buildSlice t1 n ps.toArray, ty, pos, af, g⟩ s (lv (ps.map (·.2)) ++ [.h, .b d]) [(.s d, .sv (.v (.os H.next n esz))), (.h, .hp (H.new ((«as».flatMap AV.cells).map .v))), (.b d, .gone)] := by
 subst hn
 intro t hR E G L a w hr K Q hK
 obtain ⟨arr, hrun, hsz, hL⟩ := sR hr ht hz hR.left hq hok hlen
 obtain ⟨_, _, _, _, _, _, _, _, hpos⟩ := lR ht
 have hfl : («as».flatMap AV.cells).length = «as».length * esz := dA fun e he => (gk hok e he).1
 obtain ⟨G', L', hob, hsz', hr2⟩ := hr.sj (d := d) (w1 := w) ⟨rfl, rfl, rfl, Nat.le_refl _, fun _ _ _ => rfl⟩ rfl (show get t .h = some (.hp H) by rw [hR .h (by simp)]; exact hH) (show get t (.b d) = none by rw [hR (.b d) (by simp)]; exact hd) (arr := arr) (el := el) (zs := «as».flatMap AV.cells) (by rw [hsz, hfl]; exact Nat.le_refl _) (fun j x e => by
  have := Lay.flat hL hpos j x e
  refine ⟨this.1, ?_⟩
  rw [Array.getD_eq_getD_getElem?, ← Array.getElem?_toList, ← List.getD_eq_getElem?_getD]
  exact this.2) (fun j h1 h2 => by rw [hfl] at h1; rw [hsz] at h2; omega)
 unfold Oper.wp
 have he : (execOp a.eval ⟨some d, .buildSlice t1 «as».length ps.toArray, ty, pos, af, g⟩).run P w = .ok (.value (.slice (some ⟨w.heap.size, 0, none⟩) «as».length «as».length)) (w.alloc (.cells arr el)) := by
  simp only [execOp, Sem.run_bind, hrun, Result.andThen_ok, Sem.run_pure]
 rw [he]
 exact hK _ _ G' L' (hr2.put d hN _ (.v (.os H.next «as».length esz)) (V.os H.next _ _ _ _ hob (Nat.le_refl _) (by rw [hsz', hsz]; exact Nat.le_refl _)))
end
/- The program logic's rules: an object that is never written again is a value. No condition. -/
theorem Rel.KK {E : de} {N : Nat} {G : Gh} {L : Loc} {a : Act} {w : World} {s : St} (h : Rel E N G L a w s) {H : Hp} {id blk : Nat} {xs : List AV} (hH : get s .h = some (.hp H)) (ho : H.obj id = some (xs.map .v)) (hb : G.ob id = some blk) :
  ∃ G', G.le G' ∧ Rel E N G' L a w ((.h, .hp (H.del id)) :: s) ∧ ∀ (j : Nat) x, xs[j]? = some x → ∃ v, G'.kn blk j = some v ∧ x.flat = true ∧ V G' v x := by
 obtain ⟨H0, gH, hok, hmay⟩ := h.heap
 rw [hH] at gH; cases gH
 obtain ⟨blk0, arr, el, p1, hh, hsz, hc, hno⟩ := hok.obj id _ ho
 rw [hb] at p1; cases p1
 have hmine : ab G H w blk := .inl ⟨id, ⟨_, ho⟩, hb⟩
 let G' := G.add blk arr.toList
 have hle : G.le G' := Gh.qf (fun o v e => by rw [hno o] at e; cases e)
 have hkn2 : ∀ c j, c ≠ blk → G'.kn c j = G.kn c j := fun c j e => by simp [G', Gh.add, e]
 obtain ⟨d1, d2, d3⟩ := hok.del id
 have hfb : ∀ c, ab G (H.del id) w c → c ≠ blk := by
  rintro c (⟨i, ⟨hs, q1⟩, q2⟩ | ⟨i, j, q1⟩) rfl
  ·have e3 : (if i = id then none else H.obj i) = some hs := q1
   by_cases ei : i = id
   ·rw [if_pos ei] at e3; cases e3
   ·rw [if_neg ei] at e3
    exact ei (hok.inj i id _ q2 hb ⟨hs, e3⟩ ⟨_, ho⟩)
  ·exact (d1.apart i j c q1).1 id hb
 have hown : ∀ c b, owns ((.h, .hp (H.del id)) :: s) L c b → owns s L c b := by
  intro c b hc
  cases c <;> simp only [owns, get, reduceCtorEq, if_false] at hc ⊢ <;> exact hc
 have hne : ∀ c b, owns s L c b → b ≠ blk := fun c b hc e => h.hdisj c b hc H hH (e ▸ hmine)
 have hst := d1.stay (w' := w) hle rfl (fun c hc o => (hkn2 c o (hfb c hc)).trans ((d1.ab hc).2 o)) (fun c hc => rfl) (Nat.le_refl _)
 refine ⟨G', hle, ⟨h.size, h.defs, h.ge, ?_, ?_, h.obs, h.obn, h.fr, ?_, ?_, ?_, fun c d b hc hd => h.disj c d b (hown _ _ hc) (hown _ _ hd), ⟨H.del id, rfl, hst.1, fun b hb2 => hmay b (d3 b ((hst.2 b).1 hb2))⟩, fun c b hc H2 g2 e2 => ?_, ?_, ?_⟩, ?_⟩
 ·intro b j v e
  by_cases eb : b = blk
  ·subst eb
   rw [n0] at e
   rw [cell_of_row w b j arr el (0, 0) hh]
   simpa using e
  ·rw [hkn2 b j eb] at e; exact h.kn b j v e
 ·intro b j hlt hm
  rw [hkn2 b j (fun e => by
   subst e
   rcases hmay b hmine with e | e
   ·omega
   ·exact hm e)]
  exact h.old b j hlt hm
 ·intro n x g
  exact (h.slot n x (by simpa [get] using g)).mono hle
 ·intro j cv g hl
  have g' : get s (.b j) = some cv := by simpa [get] using g
  exact (h.box j cv g' hl).stay hle (fun _ _ e => .inl ⟨_, e⟩) (fun _ _ => rfl) (fun b2 p1 o => hkn2 b2 o (hne (.b j) b2 ⟨⟨cv, g', hl⟩, p1⟩))
 ·intro j m el' esz' ys g
  have g' : get s (.t j) = some (.tk m el' esz' ys) := by simpa [get] using g
  exact (h.tok j m el' esz' ys g').stay hle (fun _ _ e => .inl ⟨_, e⟩) (fun _ _ _ _ => rfl) (fun v b2 hv hb2 o => hkn2 b2 o (hne (.t j) b2 ⟨⟨_, _, _, _, g'⟩, v, hv, hb2⟩))
 ·simp [get] at g2
  subst g2
  exact h.hdisj c b (hown _ _ hc) H hH (d3 b ((hst.2 b).1 e2))
 ·intro j g; exact h.nobox j (by simpa [get] using g)
 ·intro j g; exact h.notok j (by simpa [get] using g)
 ·intro j x e
  have := hc j (.v x) (by rw [List.getElem?_map, e]; rfl)
  have hlt : j < arr.size := by have h1 := (List.getElem?_eq_some_iff.1 e).1; have h2 := hsz.1; rw [List.length_map] at h2; omega
  refine ⟨arr.getD j undef, ?_, this.1, V.mono hle this.2⟩
  rw [n0, Array.getElem?_toList, Array.getD_eq_getD_getElem?, Array.getElem?_eq_getElem hlt]; rfl
theorem yj {G G' : Gh} {id n c esz : Nat} {v : Value} {ys : List AV} (hv : V G v (.os id n c)) {blk : Nat} (hob : G.ob id = some blk) {xs : List AV} (hkn : ∀ (j : Nat) x, xs[j]? = some x → ∃ v, G'.kn blk j = some v ∧ x.flat = true ∧ V G' v x)
  (hes : ∀ e ∈ ys, e.cells.length = esz) (hx : ys.flatMap AV.cells = xs.take (ys.length * esz)) (hn : n ≤ ys.length) : V G' v (.sl (ys.take n)) := by
 cases hv
 rename_i b cap hb hc hz
 rw [hob] at hb; cases hb
 have key : ∀ (i : Nat) (e : AV) (j : Nat) (c : AV), (ys.take n)[i]? = some e → e.cells[j]? = some c → xs[i * esz + j]? = some c := by
  intro i e j c' h1 h2
  rw [List.getElem?_take] at h1
  split at h1
  ·rename_i hi
   have he := hes e (List.mem_of_getElem? h1)
   have hj : j < esz := by rw [← he]; exact (List.getElem?_eq_some_iff.1 h2).1
   have h3 := jQ hes i j e h1 hj
   rw [h2, hx, List.getElem?_take] at h3
   split at h3
   ·exact h3
   ·cases h3
  ·cases h1
 have hlen : (ys.take n).length = n := by rw [List.length_take]; omega
 have := V.slN (G := G') blk 0 cap esz (ys.take n) (fun i j => (G'.kn blk (i * esz + j)).getD undef) (by rw [hlen]; exact hc) (fun i e h => hes e (List.mem_of_mem_take (List.mem_of_getElem? h)))
  (fun i e j c' h1 h2 => by
   obtain ⟨v, q1, q2, q3⟩ := hkn _ _ (key i e j c' h1 h2)
   rw [Nat.zero_add, q1]; rfl)
  (fun i e j c' h1 h2 => by
   obtain ⟨v, q1, q2, q3⟩ := hkn _ _ (key i e j c' h1 h2)
   exact q2)
  (fun i e j c' h1 h2 => by
   obtain ⟨v, q1, q2, q3⟩ := hkn _ _ (key i e j c' h1 h2)
   rw [q1]; exact q3)
 rwa [hlen] at this
theorem V.Jo {G : Gh} {v : Value} {id n c : Nat} (h : V G v (.os id n c)) : ∃ blk, G.ob id = some blk := by
 cases h
 exact ⟨_, by assumption⟩
theorem Kept.KG {s : St} {Q : St → Prop} (A j : Nat) {id n c esz : Nat} {H : Hp} {cs : List Hc} {xs ys : List AV} (hH : get s .h = some (.hp H)) (hA : H.obj A = some cs) (hj : cs[j]? = some (.v (.os id n c))) (ho : H.obj id = some (xs.map .v)) (hne : A ≠ id)
  (hes : ∀ e ∈ ys, e.cells.length = esz) (hx : ys.flatMap AV.cells = xs.take (ys.length * esz)) (hn : n ≤ ys.length) (h : Kept ((.h, .hp ((H.del id).set A (cs.set j (.v (.sl (ys.take n)))))) :: (.h, .hp (H.del id)) :: s) Q) : Kept s Q := fun E N a w ⟨G, L, hr⟩ => by
 obtain ⟨H0, gH, hok, hmay⟩ := hr.heap
 rw [hH] at gH; cases gH
 obtain ⟨blkA, arr, el, a1, a2, a3, a4, a5⟩ := hok.obj A cs hA
 have hv : V G (arr.getD j undef) (.os id n c) := (a4 j _ hj).2
 obtain ⟨blk, hob⟩ := hv.Jo
 obtain ⟨G', hle, hr', hkn⟩ := hr.KK hH ho hob
 have hA' : (H.del id).obj A = some cs := by
  show (if A = id then none else H.obj A) = some cs
  rw [if_neg hne]; exact hA
 obtain ⟨H1, gH1, hok1, _⟩ := hr'.heap
 simp [get] at gH1; subst gH1
 obtain ⟨b2, arr2, el2, q1, q2, q3, q4, q5⟩ := hok1.obj A cs hA'
 rw [hle.ob _ _ a1] at q1; cases q1
 rw [a2] at q2; cases q2
 have hlt : j < cs.length := (List.getElem?_eq_some_iff.1 hj).1
 refine h E N a w ⟨G', L, hr'.mB (w' := w) (arr' := arr) (by simp [get]) hA' (hle.ob _ _ a1) a2 rfl rfl rfl rfl (fun _ _ => rfl) a2 ⟨rfl, by simpa using a3.1⟩ (fun i x e => ?_) (fun i el esz zs e => ?_)⟩
 ·by_cases hi : i = j
  ·subst hi
   rw [List.getElem?_set_self hlt] at e; cases e
   exact ⟨rfl, yj hv hob hkn hes hx hn⟩
  ·rw [List.getElem?_set_ne (by omega)] at e
   exact q4 i x e
 ·by_cases hi : i = j
  ·subst hi
   rw [List.getElem?_set_self hlt] at e; cases e
  ·rw [List.getElem?_set_ne (by omega)] at e
   exact ⟨e, rfl⟩
/- The program logic's rules: calls that answer something of a kind; appends to nothing; a row that is an object from the first. No condition. -/
def oK (P : Program) (f : FuncId) (args : List AV) (H : Hp) (Post : AV → Hp → Prop) : Prop :=
 ∀ G w cargs, GE ⟨G, w, ab G H w, []⟩ → ew G w → dX G w H → VL G cargs args → Calls P f cargs w fun e w' =>
  ∃ v G' r H', Post r H' ∧ e = .returned v ∧ V G' v r ∧ ln (ab G H w) G G' w ∧ ew G' w' ∧ dX G' w' H' ∧ Fr (ab G H w) w w' ∧ ∀ b, ab G' H' w' b → w.heap.size ≤ b ∨ ab G H w b
theorem cc.Ja {P : Program} {f : FuncId} {args : List AV} {H H' : Hp} {r : AV} {Post : AV → Hp → Prop} (h : cc P f args H r H') (hp : Post r H') : oK P f args H Post := fun G w cargs hg hk hH hV =>
 (h G w cargs hg hk hH hV).mono fun e w' ⟨v, G', he, h1, rest⟩ => ⟨v, G', r, H', hp, he, h1, rest⟩
theorem oK.aL {P : Program} {f : FuncId} {fn : Func} {c : Code} {N : Nat} {args : List AV} {H : Hp} {Post : AV → Hp → Prop} (hf : P.funcs[f]? = some fn) (hb : fn.body = some c) (hN : fn.ntmps = N) (hle : args.length ≤ N)
  (h : aC P N c ((.h, .hp H) :: ep args 0) fun e s' => (e = .normal ∨ e = .ret) ∧ ∃ r H', Post r H' ∧ aE P fn s' r ∧ get s' .h = some (.hp H')) : oK P f args H Post := by
 intro G w cargs hg hk hH hV
 refine calls_of_wp hf hb ?_
 have h0 := rb hN hle hg hk hH hV
 refine wp_mono (h ⟨G, w, ab G H w, []⟩ _ w h0) ?_
 rintro e a' w' ⟨s', ⟨G', L', hr⟩, he, r, H', hP, hres, hh⟩
 obtain ⟨v, hv, hV'⟩ := hres _ _ _ _ _ _ hr
 obtain ⟨H2, g, hok, hmay⟩ := hr.heap
 rw [hh] at g; cases g
 have hpost : ∃ v2 G' r H', Post r H' ∧ Ending.returned v = .returned v2 ∧ V G' v2 r ∧ ln (ab G H w) G G' w ∧ ew G' w' ∧ dX G' w' H' ∧ Fr (ab G H w) w w' ∧ ∀ b, ab G' H' w' b → w.heap.size ≤ b ∨ ab G H w b :=
  ⟨v, G', r, H', hP, rfl, hV', ⟨hr.old, hr.obs, hr.obn⟩, hr.kn, hok, hr.fr, hmay⟩
 rcases he with rfl | rfl
 ·exact ⟨hr.defs, v, hv, hpost⟩
 ·exact ⟨hr.defs, v, hv, hpost⟩
section
variable {P : Program} {N : Nat} {s : St} {d : Nat} {ty : TypeId} {pos : String} {af : Array Edge} {g : Option (Nat × Bool)}
theorem aB.mo {ops : Array Oper} {l : List Oper} {Q : St → Prop} {f : FuncId} {xs : Array Operand} {tys : Array TypeId} {«as» : List AV} {H : Hp} {Post : AV → Hp → Prop} (hN : d < N) (hf : aa P f = true) (hH : get s .h = some (.hp H)) (ha : lB xs.toList s = some «as») (hp : oK P f «as» H Post)
  (h : ∀ r H', Post r H' → aB P N ops l ((.s d, .sv (.v r)) :: (.h, .hp H') :: s) Q) : aB P N ops (⟨some d, .call { callee := .value (.func f), args := xs, argTypes := tys }, ty, pos, af, none⟩ :: l) s Q := by
 refine aB.many rfl (fun ws => ∃ r H', Post r H' ∧ ws = [(.s d, .sv (.v r)), (.h, .hp H')]) (fun E G L a w hr K QQ hK => ?_) (fun ws ⟨r, H', h1, h2⟩ => by subst h2; exact h r H' h1)
 obtain ⟨cargs, he, hV⟩ := iI (ty := ty) (pos := pos) (af := af) (g := none) hf ha (dst := some d) E G L a w s hr (fun _ _ => rfl)
 obtain ⟨H2, hH2, hok, hmay⟩ := hr.heap
 rw [hH] at hH2; cases hH2
 unfold Oper.wp
 rw [he]
 refine (hp G w cargs (hr.su hH) hr.kn hok hV).mono ?_
 rintro e w' ⟨v, G', r, H', hP, rfl, hv, hx, hkn, hok', hf', hft⟩
 exact hK v w' G' L _ ⟨r, H', hP, rfl⟩ ((hr.called hH hx hkn hok' hf' hft).put d hN v (.v r) hv)
end
/- The program logic's rules: a box's cell is known as less. No condition. -/
theorem Rel.Kf {E : de} {N : Nat} {G : Gh} {L : Loc} {a : Act} {w : World} {s : St} (h : Rel E N G L a w s) {k : Nat} {cs cs' : List Sv} (hk : get s (.b k) = some (.bx cs)) (hl : cs'.length = cs.length)
  (hw : ∀ (j : Nat) x x', cs[j]? = some x → cs'[j]? = some x' → x'.flat = true ∧ ∀ v, SV G L v x → SV G L v x') : Rel E N G L a w ((.b k, .bx cs') :: s) := by
 have ho : ∀ c blk, owns ((.b k, .bx cs') :: s) L c blk → owns s L c blk := by
  intro c blk hc
  by_cases e : c = .b k
  ·subst e
   exact ⟨⟨_, hk, rfl⟩, hc.2⟩
  ·exact ct e hc
 refine ⟨h.size, h.defs, h.ge, h.kn, h.old, h.obs, h.obn, h.fr, fun n x g => h.slot n x (by simpa [get] using g), fun j cv g hlv => ?_, fun j m el esz xs g => h.tok j m el esz xs (by simpa [get] using g), fun c d blk hc hd => h.disj c d blk (ho _ _ hc) (ho _ _ hd), ?_, fun c blk hc H g => h.hdisj c blk (ho _ _ hc) H (by simpa [get] using g), fun j g => ?_, fun j g => h.notok j (by simpa [get] using g)⟩
 ·by_cases e : j = k
  ·subst e
   simp [get] at g
   subst g
   obtain ⟨blk, o, q1, q2, q3, ⟨arr, el, e1, e2, e3⟩, q5, q6⟩ := h.box j _ hk rfl
   refine ⟨blk, o, q1, q2, q3, ⟨arr, el, e1, by rw [hl]; exact e2, fun i x' hx' => ?_⟩, q5, q6⟩
   have hlt : i < cs.length := by rw [← hl]; exact (List.getElem?_eq_some_iff.1 hx').1
   obtain ⟨w1, w2⟩ := hw i _ x' (List.getElem?_eq_getElem hlt) hx'
   exact ⟨w1, w2 _ (e3 i _ (List.getElem?_eq_getElem hlt)).2⟩
  ·exact h.box j cv (by simpa [get, Ne.symm e] using g) hlv
 ·obtain ⟨H, g, rest⟩ := h.heap
  exact ⟨H, by simpa [get] using g, rest⟩
 ·by_cases e : j = k
  ·subst e; simp [get] at g
  ·exact h.nobox j (by simpa [get, Ne.symm e] using g)
def ue : Sv → Sv
 | .ow _ xs => .v (.sl xs)
 | x => x
theorem SV.forget {G : Gh} {L : Loc} {v : Value} {x : Sv} (h : SV G L v x) : SV G L v (ue x) := by
 cases x <;> first | exact h | exact h.1
theorem Kept.forget {s : St} {Q : St → Prop} (k : Nat) {cs : List Sv} (hk : get s (.b k) = some (.bx cs)) (h : Kept ((.b k, .bx (cs.map ue)) :: s) Q) : Kept s Q := fun E N a w ⟨G, L, hr⟩ => by
 refine h E N a w ⟨G, L, hr.Kf hk (by simp) fun j x x' hx hx' => ?_⟩
 rw [List.getElem?_map, hx] at hx'
 cases hx'
 obtain ⟨blk, o, q1, q2, q3, ⟨arr, el, e1, e2, e3⟩, q5, q6⟩ := hr.box k _ hk rfl
 have hf := (e3 j x hx).1
 refine ⟨?_, fun v hv => hv.forget⟩
 cases x <;> first | exact hf | rfl
/- the document: are they there already? -/
theorem Fi : aa Tryz.prog 124 = true := by kernel_rfl
theorem yQ : aa Tryz.prog 125 = true := by kernel_rfl
theorem fD : se Tryz.prog 73 = some (72, 7, 72) := by kernel_rfl
theorem ke : bf Tryz.prog 72 = some [AV.str [], AV.int IntKind.i64 (0), AV.int IntKind.i64 (0), AV.str [], AV.bool false, AV.bool false, AV.str []] := by kernel_rfl
def tc (m : aT) (l : List ag) : Nat → List ag
 | 0 => m.fields
 | i + 1 => m.fields ++ l.take (i + 1)
theorem mA (m : aT) (l : List ag) (i : Nat) : tc m l i = m.fields ++ l.take i := by
 cases i with
 | zero => exact (List.append_nil _).symm
 | succ i => rfl
def aT.upto (m : aT) (l : List ag) (i : Nat) : aT := { m with fields := tc m l i }
theorem gu {m : aT} {l : List ag} {i : Nat} : (m.upto l i).fields.length ≤ m.fields.length + l.length := by
 show (tc m l i).length ≤ _
 rw [mA, List.length_append, List.length_take]; omega
theorem qy {m : aT} {l : List ag} {i : Nat} (hi : i < l.length) : (m.upto l i).fields ++ [l[i]] = (m.upto l (i + 1)).fields := by
 have e : l.take (i + 1) = l.take i ++ [l[i]] := by rw [List.take_add_one, List.getElem?_eq_getElem hi]; rfl
 show tc m l i ++ [l[i]] = tc m l (i + 1)
 rw [mA, mA, e, List.append_assoc]
theorem Dg {m : aT} {l : List ag} {i : Nat} (hi : i < l.length) : (m.upto l i).fields.map ag.av ++ [l[i].av] = (m.upto l (i + 1)).fields.map ag.av := by
 rw [← qy hi, List.map_append]; rfl
theorem Lc {v : CV} {n t : Sv} {rest : List (aM × CV)} {a b : List AV} (h : a = b) : ((aM.s 9, v) :: (aM.b 5, CV.bx [n, .v (.sl a), t]) :: rest) = [(aM.s 9, v), (aM.b 5, CV.bx [n, .v (.sl b), t])] ++ rest := by rw [h]; rfl
theorem oo {m : aT} {l : List ag} {i : Nat} (hi : i < l.length) : gE (m.upto l i) (l.drop i) = (!(m.upto l i).free l[i].num || gE (m.upto l (i + 1)) (l.drop (i + 1))) := by
 rw [List.drop_eq_getElem_cons hi]
 show (_ || gE { m.upto l i with fields := (m.upto l i).fields ++ [l[i]] } _) = _
 rw [qy hi]; rfl
theorem yw {m : aT} {l : List ag} {i : Nat} (hi : l.length ≤ i) : gE (m.upto l i) (l.drop i) = false := by
 rw [List.drop_eq_nil_of_le hi]; rfl
theorem yv {s : aN} {m : aT} {x : aS} {l : List ag} {i : Nat} (hi : i < l.length) (hI : gE (m.upto l i) (l.drop i) = gE m l) (h : (!(m.upto l i).free l[i].num) = true) : true = x.there s m l := by
 unfold aS.there
 rw [← hI, oo hi, h]; rfl
theorem gi {s : aN} {m : aT} {x : aS} {l : List ag} {i : Nat} (hi : l.length ≤ i) (hI : gE (m.upto l i) (l.drop i) = gE m l) : x.there s m l = ((decide (x.kind = 6) && (decide (0 ≤ s.eO x.dest) || decide (0 ≤ s.bJ x.dest))) || (decide (x.kind = 8) && decide (0 < ((m.upto l i).members x.field).length))) := by
 have e : m.upto l i = { m with fields := m.fields ++ l } := by unfold aT.upto; rw [mA, List.take_of_length_le hi]
 unfold aS.there
 rw [← hI, yw hi, e, Bool.false_or]
theorem ED (s : aN) (m : aT) (x : aS) (l : List ag) (hs : s.sm) (hm : m.fields.length ≤ 100) (hb : m.aj.length ≤ 100) (hl : l.length ≤ 100) : Pure Tryz.prog 83 [s.av, m.av, x.av, .sl (l.map ag.av)] (.bool (x.there s m l)) := by
 have hsm := hs.m
 have hse := hs.e
 refine Pure.aL Tryz.func83 rfl rfl (aF rfl) fun H => (aC.seq (aC.region (aB.run II 4 rfl (aB.nil (aC.seq (aC.seq (aC.region (aB.run II 1 rfl (aB.nil (aC.blk (aC.aK (Kept.aJ [.s 9, .b 5, .h, .s 3, .s 4, .b 4, .s 5, .s 6, .b 6] rfl (by decide) (Kept.now (aC.aX (fun (i : Nat) => [(.s 9, .sv (.v (.int .i64 (i : Int)))), (.b 5, .bx [.v (.str m.name), .v (.sl ((m.upto l i).fields.map ag.av)), .v (.sl (m.aj.map jj))])]) _ (fun (i : Nat) => gE (m.upto l i) (l.drop i) = gE m l) (fun (i : Nat) => l.length - i) 0 rfl rfl ?_))))))))))))))
 rintro i hI
 refine aC.seq (aC.seq (aC.region (aB.run II 4 rfl (aB.nil (aC.cond rfl (fun hc1 => ?_) (fun hc1 => ?_))))))
 ·have hi := dD hc1
  refine aC.skip (aC.seq (aC.blk (aC.seq (aC.seq (aC.drawn mixed rfl (aD.run II 3 rfl (aD.c1 rfl (aH (aF rfl) bT rfl rfl (Int.natCast_nonneg _) (cF hi) rfl) (aD.run II 2 rfl (aD.c1 rfl (aG (aF rfl) Fi rfl (HP (m.upto l i) _ (by have := @gu m l i; omega) (by show m.aj.length ≤ 1000; omega))) ?_)))))))))
  refine aD.run II 1 rfl (aD.nil (by kernel_rfl) (Kept.now (aC.cond rfl (fun hc2 => ?_) (fun hc2 => ?_))))
  ·exact aC.seq (aC.region (aB.run II 1 rfl (aB.nil (aC.ret ⟨.inr rfl, (aE.r1 rfl (.tmp rfl .nil)).cast (congrArg AV.bool (yv hi hI hc2)), rfl⟩))))
  ·refine aC.skip (aC.drawn mixed rfl (aD.c2 rfl (bF («as» := []) (aF rfl) fD ke rfl rfl rfl (gI rfl) rfl) (aD.run II 2 rfl (aD.c3 rfl (aV (aF rfl) fD rfl rfl rfl (by first | rfl | exact bn ag.cells (fun _ => rfl) _) rfl (by have := @gu m l i; simp; omega) (by have := @gu m l i; simp; omega)) ?_))))
   refine aD.run II 2 rfl (aD.c1 rfl (aH (aF rfl) bT rfl rfl (Int.natCast_nonneg _) (cF hi) rfl) (aD.run II 2 rfl (aD.c3 rfl (aV (aF rfl) fD rfl rfl rfl (by first | rfl | exact bn ag.cells (fun _ => rfl) _) rfl (by have := @gu m l i; simp; omega) (by have := @gu m l i; simp; omega)) ?_)))
   exact aD.run II 2 rfl (aD.nil (by kernel_rfl) (Kept.now (aC.region (aB.run II 3 rfl (aB.kept (Kept.aY 9 rfl (inc (by omega)) (Kept.forget 5 rfl (Kept.aJ [.s 9, .b 5, .h, .s 3, .s 4, .b 4, .s 5, .s 6, .b 6] rfl (by decide) (Kept.now ⟨i + 1, by omega, by rw [← hI, oo hi]; simp_all, Lc (Dg hi)⟩)))))))))
 ·have hi := dE hc1
  refine aC.exit (aC.seq (aC.seq (aC.region (aB.run II 4 rfl (aB.tell (d := 38) rfl (fun hg3 => ?_) (fun hg3 => ?_))))))
  ·refine aB.run II 3 rfl (aB.g1 rfl (aF rfl) rfl rfl (aG (aF rfl) yS rfl (uC _ _ (by omega))) (aB.run II 2 rfl (aB.tell (d := 44) rfl (fun hg4 => ?_) (fun hg4 => ?_))))
   ·exact aB.run II 7 rfl (aB.nil (aC.az rfl rfl (aC.seq (aC.region (aB.run II 1 rfl (aB.nil (aC.ret ⟨.inr rfl, (aE.r1 rfl (.tmp rfl .nil)).cast (congrArg AV.bool (by rw [gi hi hI]; simp_all)), rfl⟩)))))))
   ·refine aB.run II 3 rfl (aB.g1 rfl (aF rfl) rfl rfl (aG (aF rfl) kY rfl (iY _ _ (by omega))) (aB.run II 3 rfl (aB.nil (aC.cond rfl (fun hc5 => ?_) (fun hc5 => ?_)))))
    ·exact aC.seq (aC.region (aB.run II 1 rfl (aB.nil (aC.ret ⟨.inr rfl, (aE.r1 rfl (.tmp rfl .nil)).cast (congrArg AV.bool (by rw [gi hi hI]; simp_all)), rfl⟩))))
    ·refine aC.skip (aC.seq (aC.region (aB.run II 4 rfl (aB.tell (d := 55) rfl (fun hg6 => ?_) (fun hg6 => ?_)))))
     ·refine aB.run II 3 rfl (aB.g1 rfl (aF rfl) rfl rfl (aG (aF rfl) yQ rfl (rN (m.upto l i) _ (by have := @gu m l i; omega))) ?_)
      exact aB.run II 4 rfl (aB.nil (aC.ret ⟨.inr rfl, (aE.r1 rfl (.tmp rfl .nil)).cast (congrArg AV.bool (by rw [gi hi hI]; simp_all)), rfl⟩))
     ·exact aB.run II 8 rfl (aB.nil (aC.ret ⟨.inr rfl, (aE.r1 rfl (.tmp rfl .nil)).cast (congrArg AV.bool (by rw [gi hi hI]; simp_all)), rfl⟩))
  ·refine aB.run II 13 rfl (aB.nil (aC.aZ rfl rfl (aC.skip (aC.seq (aC.region (aB.run II 4 rfl (aB.tell (d := 55) rfl (fun hg7 => ?_) (fun hg7 => ?_))))))))
   ·refine aB.run II 3 rfl (aB.g1 rfl (aF rfl) rfl rfl (aG (aF rfl) yQ rfl (rN (m.upto l i) _ (by have := @gu m l i; omega))) ?_)
    exact aB.run II 4 rfl (aB.nil (aC.ret ⟨.inr rfl, (aE.r1 rfl (.tmp rfl .nil)).cast (congrArg AV.bool (by rw [gi hi hI]; simp_all)), rfl⟩))
   ·exact aB.run II 8 rfl (aB.nil (aC.ret ⟨.inr rfl, (aE.r1 rfl (.tmp rfl .nil)).cast (congrArg AV.bool (by rw [gi hi hI]; simp_all)), rfl⟩))
/- the document: is what a kind of step asks so? -/
theorem Fj : aa Tryz.prog 123 = true := by kernel_rfl
theorem qO : aa Tryz.prog 78 = true := by kernel_rfl
theorem jm {m : aT} {n : aw} (h : m.eU n = true) : 0 ≤ m.cn n := by
 rcases ao (fun f : ag => f.name == n) m.fields 0 with ⟨q1, q2⟩ | ⟨i, hi, q1, q2, q3⟩
 ·have h4 : m.fields.any (fun f => f.name == n) = false := List.any_eq_false.2 (fun f hf => by have := List.find?_eq_none.1 q2 f hf; simpa using this)
  unfold aT.eU at h
  rw [h4] at h; cases h
 ·have e : m.cn n = ((0 + i : Nat) : Int) := q1
  omega
theorem ij {m : aT} {n : aw} (h : 0 ≤ m.cn n) : (m.fields.map ag.av)[(m.cn n).toNat]? = some (.agg (m.aR n).cells) := by
 rcases ao (fun f : ag => f.name == n) m.fields 0 with ⟨q1, q2⟩ | ⟨i, hi, q1, q2, q3⟩
 ·have e : m.cn n = -1 := q1
  omega
 ·have e : m.cn n = ((0 + i : Nat) : Int) := q1
  have e2 : m.fields.find? (fun f => f.name == n) = some m.fields[i] := q2
  unfold aT.aR
  rw [e, e2, Int.toNat_natCast, Nat.zero_add, List.getElem?_map, List.getElem?_eq_getElem hi]; rfl
theorem qT {m : aT} {n : aw} (h : ¬ 0 ≤ m.cn n) : m.aR n = eF := by
 rcases ao (fun f : ag => f.name == n) m.fields 0 with ⟨q1, q2⟩ | ⟨i, hi, q1, q2, q3⟩
 ·have e2 : m.fields.find? (fun f => f.name == n) = none := q2
  unfold aT.aR
  rw [e2]; rfl
 ·have e : m.cn n = ((0 + i : Nat) : Int) := q1
  omega
theorem ns {m : aT} {x : aS} (h : x.bu.all m.eU = true) (hk : x.kind = 8) {i : Nat} (hi : i < x.names.length) : m.eU x.names[i] = true := by
 have e : x.bu = x.names := by unfold aS.bu; rw [if_pos hk]
 rw [e] at h
 exact List.all_eq_true.1 h _ (List.getElem_mem hi)
theorem pk {m : aT} {x : aS} (h : x.bu.all m.eU = true) (hk : x.kind = 5) : m.eU x.also = true := by
 have e : x.bu = [x.field, x.also] := by unfold aS.bu; rw [hk]; rfl
 rw [e] at h
 simp at h; exact h.2
theorem DE {s : aN} {m : aT} {f : ag} : decide (0 ≤ s.vE m f) = s.boxed m f := by
 unfold aN.vE
 cases h : s.boxed m f with
 | true => have := (jU h).1; simp; omega
 | false => simp
theorem DI {s : aN} {m : aT} {x : aS} (hk : x.kind = 8) {i : Nat} (hi : i < x.names.length) (h : (!(m.aR x.names[i]).alone) = true) : false = x.asked s m := by
 symm
 unfold aS.asked
 rw [hk]
 show x.names.all _ = false
 exact List.all_eq_false.2 ⟨_, List.getElem_mem hi, by simpa using h⟩
theorem AW {s : aN} {m : aT} {x : aS} (hk : x.kind = 8) {i : Nat} (hi : x.names.length ≤ i) (hI : ∀ k (hk : k < x.names.length), k < i → (m.aR x.names[k]).alone = true) : true = x.asked s m := by
 symm
 unfold aS.asked
 rw [hk]
 show x.names.all _ = true
 refine List.all_eq_true.2 fun n hn => ?_
 obtain ⟨k, hk2, rfl⟩ := List.getElem_of_mem hn
 exact hI k hk2 (by omega)
theorem E1 (s : aN) (m : aT) (x : aS) (hs : s.sm) (hm : m.fields.length ≤ 1000) (hn : x.bu.all m.eU = true) (hl : x.names.length ≤ 1000) : Pure Tryz.prog 79 [s.av, m.av, x.av] (.bool (x.asked s m)) := by
 have hsm := hs.m
 have hse := hs.e
 refine Pure.aL Tryz.func79 rfl rfl (aF rfl) fun H => (aC.seq (aC.region (aB.run II 4 rfl (aB.nil (aC.seq (aC.region (aB.run II 3 rfl (aB.nil (aC.cI [.h, .s 3, .b 3, .s 4, .b 4, .s 5, .b 5] (fun (_ : Unit) => [(.s 7, .sv (.lp 7 0)), (.b 7, .bx [.v (.str (m.aR x.field).name), .v (.int .i64 (m.aR x.field).num), .v (.int .i64 (m.aR x.field).ty), .v (.str (m.aR x.field).ref), .v (.bool (m.aR x.field).rep), .v (.bool (m.aR x.field).loose), .v (.str (m.aR x.field).one)])]) (fun (_ : Unit) => True) rfl ?_ ?_)))))))))
 ·refine aC.seq (aC.region (aB.run II 3 rfl (aB.c1 rfl (aG (aF rfl) qO rfl (jH _ _ (by omega))) (aB.run II 1 rfl (aB.nil (aC.seq (aC.region (aB.run II 2 rfl (aB.nil (aC.cond rfl (fun hc1 => ?_) (fun hc1 => ?_)))))))))))
  ·exact aC.region (aB.run II 3 rfl (aB.c1 rfl (aH (aF rfl) bT rfl rfl (of_decide_eq_true hc1) (ij (of_decide_eq_true hc1)) rfl) (aB.run II 2 rfl (aB.kept (Kept.aJ [.s 7, .b 7, .h, .s 3, .b 3, .s 4, .b 4, .s 5, .b 5] rfl (by decide) (Kept.now ⟨(), trivial, rfl⟩))))))
  ·exact aC.aK (Kept.aJ [.s 7, .b 7, .h, .s 3, .b 3, .s 4, .b 4, .s 5, .b 5] rfl (by decide) (Kept.now (aC.skip ⟨(), trivial, by rw [qT (of_decide_eq_false hc1)]; rfl⟩)))
 ·rintro _ hF5
  refine aC.seq (aC.seq (aC.region (aB.run II 2 rfl (aB.nil (aC.blk (aC.seq (aC.region (aB.run II 2 rfl (aB.nil (aC.cond rfl (fun hc2 => ?_) (fun hc2 => ?_)))))))))))
  ·refine aC.seq (aC.region (aB.run II 4 rfl (aB.tell (d := 30) rfl (fun hg3 => ?_) (fun hg3 => ?_))))
   ·refine aB.run II 5 rfl (aB.tell (d := 35) rfl (fun hg4 => ?_) (fun hg4 => ?_))
    ·exact aB.run II 5 rfl (aB.nil (aC.ret ⟨.inr rfl, (aE.r1 rfl (.tmp rfl .nil)).cast (congrArg AV.bool (by clear hn; simp_all [aS.asked] <;> first | rfl | omega | (intros; omega) | grind)), rfl⟩))
    ·exact aB.run II 5 rfl (aB.nil (aC.ret ⟨.inr rfl, (aE.r1 rfl (.tmp rfl .nil)).cast (congrArg AV.bool (by clear hn; simp_all [aS.asked] <;> first | rfl | omega | (intros; omega) | grind)), rfl⟩))
   ·exact aB.run II 10 rfl (aB.nil (aC.ret ⟨.inr rfl, (aE.r1 rfl (.tmp rfl .nil)).cast (congrArg AV.bool (by clear hn; simp_all [aS.asked] <;> first | rfl | omega | (intros; omega) | grind)), rfl⟩))
  ·refine aC.seq (aC.region (aB.run II 2 rfl (aB.nil (aC.cond rfl (fun hc5 => ?_) (fun hc5 => ?_)))))
   ·refine aC.seq (aC.region (aB.run II 4 rfl (aB.tell (d := 45) rfl (fun hg6 => ?_) (fun hg6 => ?_))))
    ·exact aB.run II 6 rfl (aB.g1 rfl (aF rfl) rfl rfl (aG (aF rfl) ku rfl (kj _)) (aB.run II 2 rfl (aB.nil (aC.ret ⟨.inr rfl, (aE.r1 rfl (.tmp rfl .nil)).cast (congrArg AV.bool (by clear hn; simp_all [aS.asked] <;> first | rfl | omega | (intros; omega) | grind)), rfl⟩))))
    ·refine aB.run II 5 rfl (aB.tell (d := 50) rfl (fun hg7 => ?_) (fun hg7 => ?_))
     ·exact aB.run II 1 rfl (aB.g1 rfl (aF rfl) rfl rfl (aG (aF rfl) ku rfl (kj _)) (aB.run II 2 rfl (aB.nil (aC.ret ⟨.inr rfl, (aE.r1 rfl (.tmp rfl .nil)).cast (congrArg AV.bool (by clear hn; simp_all [aS.asked] <;> first | rfl | omega | (intros; omega) | grind)), rfl⟩))))
     ·exact aB.run II 4 rfl (aB.nil (aC.ret ⟨.inr rfl, (aE.r1 rfl (.tmp rfl .nil)).cast (congrArg AV.bool (by clear hn; simp_all [aS.asked] <;> first | rfl | omega | (intros; omega) | grind)), rfl⟩))
   ·refine aC.seq (aC.region (aB.run II 2 rfl (aB.nil (aC.cond rfl (fun hc8 => ?_) (fun hc8 => ?_)))))
    ·refine aC.seq (aC.drawn mixed rfl (aD.run II 5 rfl (aD.c1 rfl (aG (aF rfl) qO rfl (jH _ _ (by omega))) (aD.c1 rfl (aH (aF rfl) bT rfl rfl (jm (pk hn (by simpa using hc8))) (ij (jm (pk hn (by simpa using hc8)))) rfl) (aD.run II 3 rfl (aD.nil (by kernel_rfl) (Kept.now (aC.seq (aC.region (aB.run II 6 rfl (aB.tell (d := 69) rfl (fun hg9 => ?_) (fun hg9 => ?_))))))))))))
     ·refine aB.run II 5 rfl (aB.tell (d := 74) rfl (fun hg10 => ?_) (fun hg10 => ?_))
      ·refine aB.run II 5 rfl (aB.tell (d := 79) rfl (fun hg11 => ?_) (fun hg11 => ?_))
       ·refine aB.run II 1 rfl (aB.g1 rfl (aF rfl) rfl rfl (aG (aF rfl) ku rfl (kj _)) (aB.run II 2 rfl (aB.tell (d := 83) rfl (fun hg12 => ?_) (fun hg12 => ?_))))
        ·exact aB.run II 1 rfl (aB.g1 rfl (aF rfl) rfl rfl (aG (aF rfl) ku rfl (kj _)) (aB.run II 2 rfl (aB.nil (aC.ret ⟨.inr rfl, (aE.r1 rfl (.tmp rfl .nil)).cast (congrArg AV.bool (by clear hn; simp_all [aS.asked] <;> first | rfl | omega | (intros; omega) | grind)), rfl⟩))))
        ·exact aB.run II 4 rfl (aB.nil (aC.ret ⟨.inr rfl, (aE.r1 rfl (.tmp rfl .nil)).cast (congrArg AV.bool (by clear hn; simp_all [aS.asked] <;> first | rfl | omega | (intros; omega) | grind)), rfl⟩))
       ·exact aB.run II 8 rfl (aB.nil (aC.ret ⟨.inr rfl, (aE.r1 rfl (.tmp rfl .nil)).cast (congrArg AV.bool (by clear hn; simp_all [aS.asked] <;> first | rfl | omega | (intros; omega) | grind)), rfl⟩))
      ·exact aB.run II 13 rfl (aB.nil (aC.ret ⟨.inr rfl, (aE.r1 rfl (.tmp rfl .nil)).cast (congrArg AV.bool (by clear hn; simp_all [aS.asked] <;> first | rfl | omega | (intros; omega) | grind)), rfl⟩))
     ·exact aB.run II 18 rfl (aB.nil (aC.ret ⟨.inr rfl, (aE.r1 rfl (.tmp rfl .nil)).cast (congrArg AV.bool (by clear hn; simp_all [aS.asked] <;> first | rfl | omega | (intros; omega) | grind)), rfl⟩))
    ·refine aC.seq (aC.region (aB.run II 2 rfl (aB.nil (aC.cond rfl (fun hc13 => ?_) (fun hc13 => ?_)))))
     ·exact aC.seq (aC.region (aB.run II 4 rfl (aB.nil (aC.ret ⟨.inr rfl, (aE.r1 rfl (.tmp rfl .nil)).cast (congrArg AV.bool (by clear hn; simp_all [aS.asked] <;> first | rfl | omega | (intros; omega) | grind)), rfl⟩))))
     ·refine aC.seq (aC.region (aB.run II 2 rfl (aB.nil (aC.cond rfl (fun hc14 => ?_) (fun hc14 => ?_)))))
      ·refine aC.seq (aC.region (aB.run II 4 rfl (aB.tell (d := 97) rfl (fun hg15 => ?_) (fun hg15 => ?_))))
       ·exact aB.run II 5 rfl (aB.nil (aC.ret ⟨.inr rfl, (aE.r1 rfl (.tmp rfl .nil)).cast (congrArg AV.bool (by clear hn; simp_all [aS.asked] <;> first | rfl | omega | (intros; omega) | grind)), rfl⟩))
       ·exact aB.run II 5 rfl (aB.nil (aC.ret ⟨.inr rfl, (aE.r1 rfl (.tmp rfl .nil)).cast (congrArg AV.bool (by clear hn; simp_all [aS.asked] <;> first | rfl | omega | (intros; omega) | grind)), rfl⟩))
      ·refine aC.seq (aC.region (aB.run II 2 rfl (aB.nil (aC.cond rfl (fun hc16 => ?_) (fun hc16 => ?_)))))
       ·exact aC.seq (aC.region (aB.run II 3 rfl (aB.c1 rfl (aG (aF rfl) Fj rfl (EZ _ _ _ hs)) (aB.run II 2 rfl (aB.nil (aC.ret ⟨.inr rfl, (aE.r1 rfl (.tmp rfl .nil)).cast (congrArg AV.bool (by rw [DE]; simp_all [aS.asked])), rfl⟩))))))
       ·refine aC.seq (aC.region (aB.run II 2 rfl (aB.nil (aC.cond rfl (fun hc17 => ?_) (fun hc17 => ?_)))))
        ·refine aC.seq (aC.region (aB.run II 1 rfl (aB.nil (aC.blk (aC.aK (Kept.aJ [.s 10, .h, .s 4, .b 4, .s 5, .b 5] rfl (by decide) (Kept.now (aC.aX (fun (i : Nat) => [(.s 10, .sv (.v (.int .i64 (i : Int))))]) _ (fun (i : Nat) => ∀ k (hk : k < x.names.length), k < i → (m.aR x.names[k]).alone = true) (fun (i : Nat) => x.names.length - i) 0 rfl (by intro k _ h; omega) ?_))))))))
         rintro i hI
         refine aC.seq (aC.seq (aC.region (aB.run II 5 rfl (aB.nil (aC.cond rfl (fun hc18 => ?_) (fun hc18 => ?_))))))
         ·have hi := dD hc18
          refine aC.skip (aC.seq (aC.blk (aC.seq (aC.drawn mixed rfl (aD.run II 6 rfl (aD.c1 rfl (aH (aF rfl) cD rfl rfl (Int.natCast_nonneg _) (cF hi) rfl) (aD.run II 1 rfl (aD.c1 rfl (aG (aF rfl) qO rfl (jH _ _ (by omega))) (aD.c1 rfl (aH (aF rfl) bT rfl rfl (jm (ns hn (by simpa using hc17) hi)) (ij (jm (ns hn (by simpa using hc17) hi))) rfl) (aD.run II 1 rfl (aD.c1 rfl (aG (aF rfl) ku rfl (kj _)) (aD.run II 1 rfl (aD.nil (by kernel_rfl) (Kept.now (aC.cond rfl (fun hc19 => ?_) (fun hc19 => ?_))))))))))))))))
          ·exact aC.seq (aC.region (aB.run II 1 rfl (aB.nil (aC.ret ⟨.inr rfl, (aE.r1 rfl (.tmp rfl .nil)).cast (congrArg AV.bool (DI (by simpa using hc17) hi hc19)), rfl⟩))))
          ·exact aC.skip (aC.region (aB.run II 3 rfl (aB.kept (Kept.aY 10 rfl (inc (by omega)) (Kept.aJ [.s 10, .h, .s 4, .b 4, .s 5, .b 5] rfl (by decide) (Kept.now ⟨i + 1, by omega, fun k hk h => by rcases Nat.lt_or_ge k i with q | q; exact hI k hk q; have e : k = i := (by omega); subst e; simpa using hc19, rfl⟩))))))
         ·have hi := dE hc18
          exact aC.exit (aC.seq (aC.region (aB.run II 1 rfl (aB.nil (aC.ret ⟨.inr rfl, (aE.r1 rfl (.tmp rfl .nil)).cast (congrArg AV.bool (AW (by simpa using hc17) hi hI)), rfl⟩)))))
        ·exact aC.skip (aC.seq (aC.region (aB.run II 1 rfl (aB.nil (aC.ret ⟨.inr rfl, (aE.r1 rfl (.tmp rfl .nil)).cast (congrArg AV.bool (by clear hn; simp_all [aS.asked] <;> first | rfl | omega | (intros; omega) | grind)), rfl⟩)))))
/- the document: a message, sorted. -/
structure oC {α : Type} (p : α → Bool) (l : List α) (j : Int) : Prop where
 ex : ∃ i : Nat, j = (i : Int) ∧ l.length - cV p l ≤ i ∧ i ≤ l.length
theorem oC.start {α : Type} {p : α → Bool} {l : List α} : oC p l (l.length : Int) := ⟨l.length, rfl, by omega, Nat.le_refl _⟩
theorem oC.nn {α : Type} {p : α → Bool} {l : List α} {j : Int} (h : oC p l j) : 0 ≤ j ∧ j ≤ (l.length : Int) := by
 obtain ⟨i, rfl, _, h⟩ := h.ex
 omega
theorem oC.step {α : Type} {p : α → Bool} {l : List α} {j : Int} (h : oC p l j) (hf : 0 < j) {x : α} (hx : l[(j - 1).toNat]? = some x) (hp : p x = true) : oC p l (j - 1) := by
 obtain ⟨i, rfl, h1, h2⟩ := h.ex
 have e : ((i : Int) - 1).toNat = i - 1 := by omega
 rw [e] at hx
 refine ⟨i - 1, by omega, ?_, by omega⟩
 rcases Nat.lt_or_ge (i - 1) (l.length - cV p l) with q | q
 ·have := j3 p l (i - 1) (by omega) x hx
  rw [hp] at this; cases this
 ·exact q
theorem oC.low {α : Type} {p : α → Bool} {l : List α} {j : Int} (h : oC p l j) (hf : ¬ 0 < j) : j.toNat = l.length - cV p l := by
 obtain ⟨i, rfl, h1, h2⟩ := h.ex
 omega
theorem oC.stop {α : Type} {p : α → Bool} {l : List α} {j : Int} (h : oC p l j) (hf : 0 < j) {x : α} (hx : l[(j - 1).toNat]? = some x) (hp : p x = false) : j.toNat = l.length - cV p l := by
 obtain ⟨i, rfl, h1, h2⟩ := h.ex
 have e : ((i : Int) - 1).toNat = i - 1 := by omega
 rw [e] at hx
 have hT : i ≤ l.length - cV p l := by
  apply Classical.byContradiction
  intro hn
  have hm : x ∈ l.drop (l.length - cV p l) := by
   refine List.mem_iff_getElem?.2 ⟨i - 1 - (l.length - cV p l), ?_⟩
   rw [List.getElem?_drop, ← hx]
   congr 1; omega
  have := kh p l x hm
  rw [hp] at this; cases this
 omega
theorem vj {α : Type} (gt : α → α → Bool) (l : List α) : (bL gt l).length = l.length := (fx gt l).length_eq
theorem tj {α : Type} (gt : α → α → Bool) {l : List α} {i : Nat} (hi : i < l.length) : bL gt (l.take (i + 1)) = c6 (fun y => gt y l[i]) l[i] (bL gt (l.take i)) := by
 have e : l.take (i + 1) = l.take i ++ [l[i]] := by rw [List.take_add_one, List.getElem?_eq_getElem hi]; rfl
 unfold bL
 rw [e, List.foldl_append]; rfl
theorem kv {α : Type} (X : List α) {j : Int} : (X.drop (0 : Int).toNat).take (j.toNat - (0 : Int).toNat) = X.take j.toNat ∧ (X.drop j.toNat).take ((X.length : Int).toNat - j.toNat) = X.drop j.toNat := by
 refine ⟨by simp, List.take_of_length_le (by simp)⟩
theorem nU {α : Type} (f : α → AV) {gt : α → α → Bool} {l : List α} {i : Nat} (hi : i < l.length) {j : Int} (hj : j.toNat = (bL gt (l.take i)).length - cV (fun y => gt y l[i]) (bL gt (l.take i))) :
  ([] ++ ((((bL gt (l.take i)).map f).drop (0 : Int).toNat).take (j.toNat - (0 : Int).toNat))) ++ [f l[i]] ++ ((((bL gt (l.take i)).map f).drop j.toNat).take ((((bL gt (l.take i)).map f).length : Int).toNat - j.toNat)) = (bL gt (l.take (i + 1))).map f := by
 rw [tj gt hi, (kv _).1, (kv _).2]
 unfold c6 eT
 rw [← hj, List.map_append, List.map_cons, List.map_take, List.map_drop, List.nil_append, List.append_assoc]; rfl
def JV {α : Type} (d : α) (l : List α) (j : Int) : α := l.getD (j - 1).toNat d
theorem lA {α : Type} (d : α) {p : α → Bool} {l : List α} {j : Int} (h : oC p l j) (hf : 0 < j) : l[(j - 1).toNat]? = some (JV d l j) := by
 have hn := h.nn
 unfold JV
 rw [List.getD_eq_getElem?_getD, List.getElem?_eq_getElem (show (j - 1).toNat < l.length by omega)]; rfl
theorem Kl {p : ag → Bool} {l : List ag} {j : Int} (hl : l.length ≤ 1000000) (h : oC p l j) (hf : 0 < j) : (l.map ag.av)[(IntKind.i64.wrap (j - 1)).toNat]? = some (.agg (JV eF l j).cells) := by
 have hn := h.nn
 rw [eL (by omega) (by omega), List.getElem?_map, lA eF h hf]; rfl
theorem J5 {p : Int → Bool} {l : List Int} {j : Int} (hl : l.length ≤ 1000000) (h : oC p l j) (hf : 0 < j) : (l.map jj)[(IntKind.i64.wrap (j - 1)).toNat]? = some (.int .i64 (JV 0 l j)) := by
 have hn := h.nn
 rw [eL (by omega) (by omega), List.getElem?_map, lA 0 h hf]; rfl
theorem okF (l : List ag) (a b : Nat) : c4 7 (((l.map ag.av).drop a).take b) = true := by
 rw [← List.map_drop, ← List.map_take]; exact bn ag.cells (fun _ => rfl) _
theorem oF (l : List Int) (a b : Nat) : c4 1 (((l.map jj).drop a).take b) = true := by
 rw [← List.map_drop, ← List.map_take]; exact cZ .i64 id _
theorem ve {α : Type} {gt : α → α → Bool} {l : List α} {i : Nat} (h : l.length ≤ 1000) : (bL gt (l.take i)).length ≤ 1000 := by
 rw [vj, List.length_take]; omega
theorem La {v : CV} {n t : Sv} {rest : List (aM × CV)} {a b : List AV} (h : a = b) : ((aM.s 4, v) :: (aM.b 3, CV.bx [n, .v (.sl a), t]) :: rest) = [(aM.s 4, v), (aM.b 3, CV.bx [n, .v (.sl b), t])] ++ rest := by rw [h]; rfl
theorem L9 {v : CV} {n t : Sv} {rest : List (aM × CV)} {a b : List AV} (h : a = b) : ((aM.s 7, v) :: (aM.b 3, CV.bx [n, t, .v (.sl a)]) :: rest) = [(aM.s 7, v), (aM.b 3, CV.bx [n, t, .v (.sl b)])] ++ rest := by rw [h]; rfl
theorem ER (m : aT) (hm : m.fields.length ≤ 1000) (hb : m.aj.length ≤ 1000) : Pure Tryz.prog 127 [m.av] m.sort.av := by
 refine Pure.aL Tryz.func127 rfl rfl (aF rfl) fun H => (aC.seq (aC.region (aB.run II 2 rfl (aB.nil (aC.seq (aC.region (aB.run II 5 rfl (aB.nil (aC.seq (aC.seq (aC.region (aB.run II 1 rfl (aB.nil (aC.blk (aC.aK (Kept.aJ [.s 4, .b 3, .h, .s 1, .b 1, .s 2, .b 2, .s 3] rfl (by decide) (Kept.now (aC.aX (fun (i : Nat) => [(.s 4, .sv (.v (.int .i64 (i : Int)))), (.b 3, .bx [.v (.str m.name), .v (.sl ((bL (fun y x : ag => decide (y.num > x.num)) (m.fields.take i)).map ag.av)), .v (.sl (([] : List Int).map jj))])]) _ (fun (i : Nat) => True) (fun (i : Nat) => m.fields.length - i) 0 rfl trivial ?_))))))))))))))))))
 rintro i hI
 refine aC.seq (aC.seq (aC.region (aB.run II 5 rfl (aB.nil (aC.cond rfl (fun hc1 => ?_) (fun hc1 => ?_))))))
 ·have hi := dD hc1
  refine aC.skip (aC.seq (aC.blk (aC.seq (aC.region (aB.run II 3 rfl (aB.c1 rfl (aH (aF rfl) bT rfl rfl (Int.natCast_nonneg _) (cF hi) rfl) (aB.run II 3 rfl (aB.nil (aC.seq (aC.region (aB.run II 4 rfl (aB.nil (aC.seq (aC.blk (aC.aK (Kept.aJ [.s 6, .h, .s 1, .b 1, .s 2, .b 2, .s 3, .b 3, .s 4, .s 5, .b 5] rfl (by decide) (Kept.now (aC.aX (fun (j : Int) => [(.s 6, .sv (.v (.int .i64 j)))]) _ (fun (j : Int) => oC (fun y : ag => decide (y.num > (m.fields[i]'hi).num)) (bL (fun y x : ag => decide (y.num > x.num)) (m.fields.take i)) j) (fun (j : Int) => j.toNat) (((bL (fun y x : ag => decide (y.num > x.num)) (m.fields.take i)).map ag.av).length : Int) rfl (by rw [List.length_map]; exact oC.start) ?_))))))))))))))))))
  rintro j hJ
  have hnn := hJ.nn
  have hle := @ve _ (fun y x : ag => decide (y.num > x.num)) m.fields i hm
  refine aC.seq (aC.seq (aC.drawn mixed rfl (aD.run II 3 rfl (aD.tell (d := 30) rfl (fun hg2 => ?_) (fun hg2 => ?_)))))
  ·refine aD.run II 4 rfl (aD.g1 rfl (aF rfl) rfl rfl (aH (aF rfl) bT rfl rfl (by have := of_decide_eq_true hg2; rw [eL (by omega) (by omega)]; omega) (Kl (by omega) hJ (of_decide_eq_true hg2)) rfl) ?_)
   refine aD.run II 6 rfl (aD.nil (by kernel_rfl) (Kept.now (aC.cond rfl (fun hc3 => ?_) (fun hc3 => ?_))))
   ·exact aC.skip (aC.blk (aC.region (aB.run II 3 rfl (aB.kept (Kept.aJ [.s 6, .h, .s 1, .b 1, .s 2, .b 2, .s 3, .b 3, .s 4, .s 5, .b 5] rfl (by decide) (Kept.now ⟨_, by show (IntKind.i64.wrap (j - 1)).toNat < j.toNat; have := of_decide_eq_true hg2; rw [eL (by omega) (by omega)]; omega, by rw [eL (by have := of_decide_eq_true hg2; omega) (by omega)]; exact hJ.step (of_decide_eq_true hg2) (lA eF hJ (of_decide_eq_true hg2)) hc3, rfl⟩))))))
   ·refine aC.exit (aC.drawn mixed rfl (aD.c2 rfl (bF («as» := []) (aF rfl) fD ke rfl rfl rfl (gI rfl) rfl) (aD.run II 3 rfl (aD.c1 rfl (bH (aF rfl) bT rfl (fun e he => by obtain ⟨f, _, rfl⟩ := List.mem_map.1 he; rfl) rfl rfl (by omega) (by first | omega | (rw [List.length_map]; omega)) (by first | omega | (rw [List.length_map]; omega))) ?_))))
    refine aD.c3 rfl (aV (aF rfl) fD rfl rfl rfl (by first | rfl | exact okF _ _ _ | exact oF _ _ _) rfl (by simp only [List.length_append, List.length_map, List.length_take, List.length_drop, List.length_cons, List.length_nil]; omega) (by simp only [List.length_append, List.length_map, List.length_take, List.length_drop, List.length_cons, List.length_nil]; omega)) ?_
    refine aD.run II 2 rfl (aD.c3 rfl (aV (aF rfl) fD rfl rfl rfl (by first | rfl | exact okF _ _ _ | exact oF _ _ _) rfl (by simp only [List.length_append, List.length_map, List.length_take, List.length_drop, List.length_cons, List.length_nil]; omega) (by simp only [List.length_append, List.length_map, List.length_take, List.length_drop, List.length_cons, List.length_nil]; omega)) ?_)
    refine aD.run II 3 rfl (aD.c1 rfl (bH (aF rfl) bT rfl (fun e he => by obtain ⟨f, _, rfl⟩ := List.mem_map.1 he; rfl) rfl rfl (by omega) (by first | omega | (rw [List.length_map]; omega)) (by first | omega | (rw [List.length_map]; omega))) ?_)
    refine aD.c3 rfl (aV (aF rfl) fD rfl rfl rfl (by first | rfl | exact okF _ _ _ | exact oF _ _ _) rfl (by simp only [List.length_append, List.length_map, List.length_take, List.length_drop, List.length_cons, List.length_nil]; omega) (by simp only [List.length_append, List.length_map, List.length_take, List.length_drop, List.length_cons, List.length_nil]; omega)) ?_
    exact aD.run II 2 rfl (aD.nil (by kernel_rfl) (Kept.now (aC.region (aB.run II 3 rfl (aB.kept (Kept.aY 4 rfl (inc (by omega)) (Kept.forget 3 rfl (Kept.aJ [.s 4, .b 3, .h, .s 1, .b 1, .s 2, .b 2, .s 3] rfl (by decide) (Kept.now ⟨i + 1, by omega, trivial, La (nU ag.av hi (hJ.stop (of_decide_eq_true hg2) (lA eF hJ (of_decide_eq_true hg2)) hc3))⟩)))))))))
  ·refine aD.run II 11 rfl (aD.nil (by kernel_rfl) (Kept.now (aC.aZ rfl rfl (aC.exit (aC.drawn mixed rfl (aD.c2 rfl (bF («as» := []) (aF rfl) fD ke rfl rfl rfl (gI rfl) rfl) (aD.run II 3 rfl (aD.c1 rfl (bH (aF rfl) bT rfl (fun e he => by obtain ⟨f, _, rfl⟩ := List.mem_map.1 he; rfl) rfl rfl (by omega) (by first | omega | (rw [List.length_map]; omega)) (by first | omega | (rw [List.length_map]; omega))) ?_))))))))
   refine aD.c3 rfl (aV (aF rfl) fD rfl rfl rfl (by first | rfl | exact okF _ _ _ | exact oF _ _ _) rfl (by simp only [List.length_append, List.length_map, List.length_take, List.length_drop, List.length_cons, List.length_nil]; omega) (by simp only [List.length_append, List.length_map, List.length_take, List.length_drop, List.length_cons, List.length_nil]; omega)) ?_
   refine aD.run II 2 rfl (aD.c3 rfl (aV (aF rfl) fD rfl rfl rfl (by first | rfl | exact okF _ _ _ | exact oF _ _ _) rfl (by simp only [List.length_append, List.length_map, List.length_take, List.length_drop, List.length_cons, List.length_nil]; omega) (by simp only [List.length_append, List.length_map, List.length_take, List.length_drop, List.length_cons, List.length_nil]; omega)) ?_)
   refine aD.run II 3 rfl (aD.c1 rfl (bH (aF rfl) bT rfl (fun e he => by obtain ⟨f, _, rfl⟩ := List.mem_map.1 he; rfl) rfl rfl (by omega) (by first | omega | (rw [List.length_map]; omega)) (by first | omega | (rw [List.length_map]; omega))) ?_)
   refine aD.c3 rfl (aV (aF rfl) fD rfl rfl rfl (by first | rfl | exact okF _ _ _ | exact oF _ _ _) rfl (by simp only [List.length_append, List.length_map, List.length_take, List.length_drop, List.length_cons, List.length_nil]; omega) (by simp only [List.length_append, List.length_map, List.length_take, List.length_drop, List.length_cons, List.length_nil]; omega)) ?_
   exact aD.run II 2 rfl (aD.nil (by kernel_rfl) (Kept.now (aC.region (aB.run II 3 rfl (aB.kept (Kept.aY 4 rfl (inc (by omega)) (Kept.forget 3 rfl (Kept.aJ [.s 4, .b 3, .h, .s 1, .b 1, .s 2, .b 2, .s 3] rfl (by decide) (Kept.now ⟨i + 1, by omega, trivial, La (nU ag.av hi (hJ.low (of_decide_eq_false hg2)))⟩)))))))))
 ·have hi := dE hc1
  refine aC.exit (aC.seq (aC.seq (aC.region (aB.run II 1 rfl (aB.nil (aC.blk (aC.aK (Kept.aJ [.s 7, .b 3, .h, .s 1, .b 1, .s 2, .b 2, .s 3] rfl (by decide) (Kept.now (aC.aX (fun (k : Nat) => [(.s 7, .sv (.v (.int .i64 (k : Int)))), (.b 3, .bx [.v (.str m.name), .v (.sl ((bL (fun y x : ag => decide (y.num > x.num)) (m.fields.take i)).map ag.av)), .v (.sl ((bL (fun y x : Int => decide (y > x)) (m.aj.take k)).map jj))])]) _ (fun (k : Nat) => True) (fun (k : Nat) => m.aj.length - k) 0 rfl trivial ?_))))))))))
  rintro k hI
  refine aC.seq (aC.seq (aC.region (aB.run II 5 rfl (aB.nil (aC.cond rfl (fun hc4 => ?_) (fun hc4 => ?_))))))
  ·have hk := dD hc4
   refine aC.skip (aC.seq (aC.blk (aC.seq (aC.region (aB.run II 3 rfl (aB.c1 rfl (aH (aF rfl) cm rfl rfl (Int.natCast_nonneg _) (cF hk) rfl) (aB.run II 2 rfl (aB.nil (aC.seq (aC.region (aB.run II 4 rfl (aB.nil (aC.seq (aC.blk (aC.aK (Kept.aJ [.s 9, .h, .s 1, .b 1, .s 2, .b 2, .s 3, .b 3, .s 7, .s 8] rfl (by decide) (Kept.now (aC.aX (fun (j : Int) => [(.s 9, .sv (.v (.int .i64 j)))]) _ (fun (j : Int) => oC (fun y : Int => decide (y > (m.aj[k]'hk))) (bL (fun y x : Int => decide (y > x)) (m.aj.take k)) j) (fun (j : Int) => j.toNat) (((bL (fun y x : Int => decide (y > x)) (m.aj.take k)).map jj).length : Int) rfl (by rw [List.length_map]; exact oC.start) ?_))))))))))))))))))
   rintro j hJ
   have hnn := hJ.nn
   have hle := @ve _ (fun y x : Int => decide (y > x)) m.aj k hb
   refine aC.seq (aC.seq (aC.region (aB.run II 3 rfl (aB.tell (d := 76) rfl (fun hg5 => ?_) (fun hg5 => ?_)))))
   ·refine aB.run II 4 rfl (aB.g1 rfl (aF rfl) rfl rfl (aH (aF rfl) cm rfl rfl (by have := of_decide_eq_true hg5; rw [eL (by omega) (by omega)]; omega) (J5 (by omega) hJ (of_decide_eq_true hg5)) rfl) ?_)
    refine aB.run II 4 rfl (aB.nil (aC.cond rfl (fun hc6 => ?_) (fun hc6 => ?_)))
    ·exact aC.skip (aC.blk (aC.region (aB.run II 3 rfl (aB.kept (Kept.aJ [.s 9, .h, .s 1, .b 1, .s 2, .b 2, .s 3, .b 3, .s 7, .s 8] rfl (by decide) (Kept.now ⟨_, by show (IntKind.i64.wrap (j - 1)).toNat < j.toNat; have := of_decide_eq_true hg5; rw [eL (by omega) (by omega)]; omega, by rw [eL (by have := of_decide_eq_true hg5; omega) (by omega)]; exact hJ.step (of_decide_eq_true hg5) (lA 0 hJ (of_decide_eq_true hg5)) hc6, rfl⟩))))))
    ·refine aC.exit (aC.drawn mixed rfl (aD.c2 rfl (bF («as» := []) (aF rfl) bc fj rfl rfl rfl (gI rfl) rfl) (aD.run II 3 rfl (aD.c1 rfl (bH (aF rfl) cm rfl (fun e he => by obtain ⟨f, _, rfl⟩ := List.mem_map.1 he; rfl) rfl rfl (by omega) (by first | omega | (rw [List.length_map]; omega)) (by first | omega | (rw [List.length_map]; omega))) ?_))))
     refine aD.c3 rfl (aV (aF rfl) bc rfl rfl rfl (by first | rfl | exact okF _ _ _ | exact oF _ _ _) rfl (by simp only [List.length_append, List.length_map, List.length_take, List.length_drop, List.length_cons, List.length_nil]; omega) (by simp only [List.length_append, List.length_map, List.length_take, List.length_drop, List.length_cons, List.length_nil]; omega)) ?_
     refine aD.run II 2 rfl (aD.c3 rfl (aV (aF rfl) bc rfl rfl rfl (by first | rfl | exact okF _ _ _ | exact oF _ _ _) rfl (by simp only [List.length_append, List.length_map, List.length_take, List.length_drop, List.length_cons, List.length_nil]; omega) (by simp only [List.length_append, List.length_map, List.length_take, List.length_drop, List.length_cons, List.length_nil]; omega)) ?_)
     refine aD.run II 3 rfl (aD.c1 rfl (bH (aF rfl) cm rfl (fun e he => by obtain ⟨f, _, rfl⟩ := List.mem_map.1 he; rfl) rfl rfl (by omega) (by first | omega | (rw [List.length_map]; omega)) (by first | omega | (rw [List.length_map]; omega))) ?_)
     refine aD.c3 rfl (aV (aF rfl) bc rfl rfl rfl (by first | rfl | exact okF _ _ _ | exact oF _ _ _) rfl (by simp only [List.length_append, List.length_map, List.length_take, List.length_drop, List.length_cons, List.length_nil]; omega) (by simp only [List.length_append, List.length_map, List.length_take, List.length_drop, List.length_cons, List.length_nil]; omega)) ?_
     exact aD.run II 2 rfl (aD.nil (by kernel_rfl) (Kept.now (aC.region (aB.run II 3 rfl (aB.kept (Kept.aY 7 rfl (inc (by omega)) (Kept.forget 3 rfl (Kept.aJ [.s 7, .b 3, .h, .s 1, .b 1, .s 2, .b 2, .s 3] rfl (by decide) (Kept.now ⟨k + 1, by omega, trivial, L9 (nU jj hk (hJ.stop (of_decide_eq_true hg5) (lA 0 hJ (of_decide_eq_true hg5)) hc6))⟩)))))))))
   ·refine aB.run II 9 rfl (aB.nil (aC.aZ rfl rfl (aC.exit (aC.drawn mixed rfl (aD.c2 rfl (bF («as» := []) (aF rfl) bc fj rfl rfl rfl (gI rfl) rfl) (aD.run II 3 rfl (aD.c1 rfl (bH (aF rfl) cm rfl (fun e he => by obtain ⟨f, _, rfl⟩ := List.mem_map.1 he; rfl) rfl rfl (by omega) (by first | omega | (rw [List.length_map]; omega)) (by first | omega | (rw [List.length_map]; omega))) ?_)))))))
    refine aD.c3 rfl (aV (aF rfl) bc rfl rfl rfl (by first | rfl | exact okF _ _ _ | exact oF _ _ _) rfl (by simp only [List.length_append, List.length_map, List.length_take, List.length_drop, List.length_cons, List.length_nil]; omega) (by simp only [List.length_append, List.length_map, List.length_take, List.length_drop, List.length_cons, List.length_nil]; omega)) ?_
    refine aD.run II 2 rfl (aD.c3 rfl (aV (aF rfl) bc rfl rfl rfl (by first | rfl | exact okF _ _ _ | exact oF _ _ _) rfl (by simp only [List.length_append, List.length_map, List.length_take, List.length_drop, List.length_cons, List.length_nil]; omega) (by simp only [List.length_append, List.length_map, List.length_take, List.length_drop, List.length_cons, List.length_nil]; omega)) ?_)
    refine aD.run II 3 rfl (aD.c1 rfl (bH (aF rfl) cm rfl (fun e he => by obtain ⟨f, _, rfl⟩ := List.mem_map.1 he; rfl) rfl rfl (by omega) (by first | omega | (rw [List.length_map]; omega)) (by first | omega | (rw [List.length_map]; omega))) ?_)
    refine aD.c3 rfl (aV (aF rfl) bc rfl rfl rfl (by first | rfl | exact okF _ _ _ | exact oF _ _ _) rfl (by simp only [List.length_append, List.length_map, List.length_take, List.length_drop, List.length_cons, List.length_nil]; omega) (by simp only [List.length_append, List.length_map, List.length_take, List.length_drop, List.length_cons, List.length_nil]; omega)) ?_
    exact aD.run II 2 rfl (aD.nil (by kernel_rfl) (Kept.now (aC.region (aB.run II 3 rfl (aB.kept (Kept.aY 7 rfl (inc (by omega)) (Kept.forget 3 rfl (Kept.aJ [.s 7, .b 3, .h, .s 1, .b 1, .s 2, .b 2, .s 3] rfl (by decide) (Kept.now ⟨k + 1, by omega, trivial, L9 (nU jj hk (hJ.low (of_decide_eq_false hg5)))⟩)))))))))
  ·have hk := dE hc4
   exact aC.exit (aC.seq (aC.region (aB.run II 2 rfl (aB.nil (aC.ret ⟨.inr rfl, (aE.r1 rfl (.cell CA rfl rfl rfl rfl .nil)).cast (by rw [List.take_of_length_le (l := m.fields) (by omega), List.take_of_length_le (l := m.aj) (by omega)]; rfl), rfl⟩)))))
end Go.Proofs.YtlijgcifhhcfaaaGreatDoor.X
