/- frame.Tree, of a part without ports. No condition. -/
import Derived.Test.YtgmdapgedlachaaGreatDoorZFI
import Derived.Test.YtgmdapgedlachaaGreatDoorZFD
import Derived.Test.YtgmdapgedlachaaGreatDoorZFH
import Derived.Test.YtgmdapgedlachaaGreatDoorZFF
set_option linter.unusedVariables false
set_option linter.unusedSimpArgs false
set_option maxRecDepth 100000
namespace Go.Proofs.YtgmdapgedlachaaGreatDoor.X
open Go Go.RowKit Go.Proofs
theorem Ek (ps : List aQ) (bh : Bool) (f : Fm) (q : aQ) (hq : ps[f.part]? = some q) (h0 : q.side bh = []) (hbn : q.ins.length ≤ 1000000 ∧ q.outs.length ≤ 1000000) (hrest : f.rest.length ≤ 1000000) (H : Hp) (hfin : H.fin) (hA : f.At H) :
  cB Tryz.prog 33 [cA ps, .bool bh, f.ptr] H (.agg [.sl [], .sl (f.rest.map Rw.av)]) (((fv (.sl []) f.ptr (cL ps bh (.sl (f.rest.map Rw.av)) H)).set (H.next + 3) [.v (.sl []), .v (.sl (f.rest.map Rw.av))]).set (H.next + 2) [.v (.sl []), .v (.sl (f.rest.map Rw.av))]) := by
 have e0 : cA ps = .agg [.sl (ps.map aQ.av)] := rfl
 refine cB.BI Tryz.func33 rfl rfl (gQ rfl) (qj.seq (aK.region (aD.run II 3 rfl (aD.kept (Kept.qO 3 rfl rfl (Kept.op 3 rfl rfl (Kept.cls 3 rfl rfl rfl rfl (Kept.qO 4 rfl rfl (Kept.op 4 rfl rfl (Kept.cls 4 rfl rfl rfl rfl (Kept.qO 6 rfl rfl (Kept.op 6 rfl rfl (Kept.cls 6 rfl rfl rfl rfl (Kept.now ⟨rfl, ?_⟩))))))))))))))
 have hlt : ∀ {id : Nat} {cs : List Hc}, H.obj id = some cs → id < H.next := fun {id cs} e => by
  rcases Nat.lt_or_ge id H.next with q | q
  ·exact q
  ·rw [hfin id q] at e; cases e
 have hAt : ∀ {K : Hp} {id : Nat} {cs : List Hc}, H.obj id = some cs → (∀ i, i < H.next → K.obj i = H.obj i) → K.obj id = some cs := fun {K id cs} e hl => (hl id (hlt e)).trans e
 have hlow3 : ∀ i, i < H.next → (((H.new [.v (.sl (ps.map aQ.av))]).new [.v (.bool bh)]).new [.v (.sl []), .v (.sl [])]).obj i = H.obj i := fun i hi => by
  have h0 : i ≠ H.next := by omega
  have h1 : i ≠ H.next + 1 := by omega
  have h2 : i ≠ H.next + 2 := by omega
  simp [Hp.new, Hp.set, h0, h1, h2]
 have hlow4 : ∀ i, i < H.next → (cL ps bh (.sl (f.rest.map Rw.av)) H).obj i = H.obj i := fun i hi => by
  have h0 : i ≠ H.next := by omega
  have h1 : i ≠ H.next + 1 := by omega
  have h2 : i ≠ H.next + 2 := by omega
  have h3 : i ≠ H.next + 3 := by omega
  simp [cL, Hp.new, Hp.set, h0, h1, h2, h3]
 refine qj.seq (aK.region (aD.run II 3 rfl (aD.c1 rfl (bB (aH rfl) zh rfl rfl (hAt hA.o1 hlow3) rfl) (aD.c1 rfl (aX (aH rfl) (Fn rfl) rfl (nP f.rest hrest)) (aD.c1 rfl (gx (aH rfl) vL KR rfl rfl) (aD.run II 2 rfl (aD.kept (Kept.qO 7 rfl rfl (Kept.op 7 rfl rfl (Kept.cls 7 rfl rfl rfl rfl (Kept.now ⟨rfl, (qj.NC (aK.drawn mixed rfl (aY.c1 rfl (bB (aH rfl) kF rfl rfl (show (cL ps bh (.sl (f.rest.map Rw.av)) H).obj H.next = some [.v (.sl (ps.map aQ.av))] by simp [cL, Hp.new, Hp.set, Nat.add_assoc]) rfl) ?_)))⟩)))))))))))
 refine aY.c1 rfl (bB (aH rfl) BR rfl rfl (show (cL ps bh (.sl (f.rest.map Rw.av)) H).obj (H.next + 1) = some [.v (.bool bh)] by simp [cL, Hp.new, Hp.set, Nat.add_assoc]) rfl) (aY.run II 3 rfl (aY.c1 rfl (bB (aH rfl) ib rfl rfl (hAt hA.o1 hlow4) rfl) (aY.c1 rfl (aX (aH rfl) (Fn rfl) rfl (show Pure Tryz.prog 55 [cA ps, .bool bh, .int .i64 f.part] (.sl []) from by have := Ag ps bh f.part q hq hbn; rwa [h0] at this)) ?_)))
 exact aY.run II 1 rfl (aY.c2 rfl (bf (aH rfl) (Fn rfl) rfl rfl (Ij _ _ _ _)) (aY.nil (by kernel_rfl) (Kept.az [.h, .s 3, .s 4, .s 6, .s 7, .s 28] rfl (by decide) (Kept.now (⟨rfl, (Gy.range (H := (fv (.sl []) f.ptr (cL ps bh (.sl (f.rest.map Rw.av)) H))) (H2 := (fv (.sl []) f.ptr (cL ps bh (.sl (f.rest.map Rw.av)) H))) (caps := [.op (H.next + 4) 0, .op (H.next + 5) 0]) (ps := [29, 30]) (ys := []) (fun _ => rfl) (fun _ => rfl) rfl rfl (by kernel_rfl) (Fv _ _ _ (by simp [fv, cL, Hp.new, Hp.set, Nat.add_assoc])) (by decide) (by decide) (fun y hy => by cases hy) (fun y hy => by cases hy) (aK.cy (Kept.JH (H.next + 3) 0 rfl (show (fv (.sl []) f.ptr (cL ps bh (.sl (f.rest.map Rw.av)) H)).obj (H.next + 3) = some [.v .nsl, .v (.sl (f.rest.map Rw.av))] by simp [fv, cL, Hp.new, Hp.set, Nat.add_assoc]) rfl (Kept.now (aK.seq (aK.region (aD.c1 rfl (bB (aH rfl) mK rfl rfl Hp.bN rfl) (aD.c1 rfl (vd mK rfl rfl (show ((fv (.sl []) f.ptr (cL ps bh (.sl (f.rest.map Rw.av)) H)).set (H.next + 3) [.v (.sl []), .v (.sl (f.rest.map Rw.av))]).obj (H.next + 2) = some [.v (.sl []), .v (.sl [])] by simp [fv, cL, Hp.new, Hp.set, Nat.add_assoc]) rfl rfl rfl (gQ rfl) rfl) (aD.nil (aK.ret ⟨.inr rfl, (aM.r1 rfl (.celo mK rfl rfl Hp.bN rfl rfl .nil)).cast rfl, rfl⟩))))))))))⟩)))))
theorem C5 (ps : List aQ) (bh : Bool) (f : Fm) (q : aQ) (hq : ps[f.part]? = some q) (h0 : q.side bh = []) (hbn : q.ins.length ≤ 1000000 ∧ q.outs.length ≤ 1000000) (hrest : f.rest.length ≤ 1000000) (H : Hp) (hA : f.At H) :
  cB Tryz.prog 33 [cA ps, .bool bh, f.ptr] H (Tree.mk [] f.rest).av H := by
 refine cB.fin fun hfin => ?_
 have h1 := Ek ps bh f q hq h0 hbn hrest H hfin hA
 rw [show (AV.agg [.sl [], .sl (f.rest.map Rw.av)]) = (Tree.mk [] f.rest).av by rw [Tree.bC]; rfl] at h1
 refine cB.drop h1 (Mp.refl H) (fun i hi => ?_) (Tree.mD _)
 have a0 : i ≠ H.next := by omega
 have a1 : i ≠ H.next + 1 := by omega
 have a2 : i ≠ H.next + 2 := by omega
 have a3 : i ≠ H.next + 3 := by omega
 have a4 : i ≠ H.next + 4 := by omega
 have a5 : i ≠ H.next + 5 := by omega
 simp [fv, cL, Hp.new, Hp.set, Nat.add_assoc, a0, a1, a2, a3, a4, a5]
inductive Fm.Good (ps : List aQ) (bh : Bool) : Nat → Fm → Prop where
 | mk (n : Nat) (f : Fm) (q : aQ) (hq : ps[f.part]? = some q) (h12 : (q.side bh).length ≤ 12) (hbn : q.ins.length ≤ 1000000 ∧ q.outs.length ≤ 1000000) (hreg : ∀ x ∈ q.side bh, 0 ≤ x.reg ∧ x.reg < f.aE.length) (hrest : f.rest.length ≤ 1000000) (bw : ∀ l ∈ f.aE, l.length ≤ 1000000)
   (hs : ∀ l ∈ f.aE, ∀ c ∈ l, ∀ g, c.f = some g → Fm.Good ps bh n g) : Fm.Good ps bh (n + 1) f
theorem xO (ps : List aQ) (bh : Bool) : ∀ (n : Nat) (f : Fm), Fm.Good ps bh n f → ∀ H, f.At H → cB Tryz.prog 33 [cA ps, .bool bh, f.ptr] H (mr ps bh n f).av H
 | 0, f, h => by cases h
 | n + 1, f, h => by
  intro H hA
  cases h with
  | mk _ _ q hq h12 hbn hreg hrest bw hs =>
   have e : ps.getD f.part bS = q := by rw [List.getD_eq_getElem?_getD, hq]; rfl
   rw [mr, e]
   by_cases hne : q.side bh = []
   ·rw [hne]
    exact C5 ps bh f q hq hne hbn hrest H hA
   ·exact Ei ps bh f q hq h12 hne (fun i hi => hreg _ (EF _ (wE (by rw [iF]; exact hi)))) _ hrest bw H hA fun l hl c hc g hg H' hA' => xO ps bh n g (hs l hl c hc g hg) H' hA'
def tH (q : aQ) (k : Nat) (bh : Bool) (H : Hp) : Fm := .mk H.next k (List.replicate q.aE.toNat []) [] (!bh)
theorem uh (q : aQ) (k : Nat) (bh : Bool) (H : Hp) (h : q.aE ≤ 100000) : (tH q k bh H).At (en q k bh H) := by
 refine .mk _ ?_ ?_ ⟨?_, fun l hl => ?_⟩ fun l hl c hc => ?_
 ·show (Hp.new _ _).obj (H.next + 1) = _
  simp [Hp.new, Hp.set, tH, Fm.x8, Fm.part, Fm.r, Fm.aE, Fm.rest, Fm.done]
 ·show (en q k bh H).obj H.next = _
  have : H.next ≠ H.next + 1 := by omega
  simp [en, Hp.new, Hp.set, tH, Fm.aE, dt, this, j4]
 ·show (List.replicate _ _).length ≤ _
  rw [List.length_replicate]; omega
 ·rw [List.eq_of_mem_replicate hl]; simp
 ·rw [List.eq_of_mem_replicate hl] at hc; cases hc
set_option linter.unusedSectionVars false
def fO (num : Int) : Port → Bool := fun x => decide (x.f.num = num)
theorem Ig (x : Port) (num : Int) (id : Nat) (H : Hp) (h : H.obj id = some [.v (.int .i64 num)]) : cB Tryz.prog 145 [x.av, .op id 0] H (.bool (fO num x)) H := by
 exact cB.ah Tryz.func145 rfl rfl (aH rfl) (aK.gn 9 II mixed (aB.d1 rfl (bB (aH rfl) ib rfl rfl h rfl) ⟨.inr rfl, (aM.r1 rfl (.tmp rfl .nil)).cast rfl, rfl⟩))
def lZ (num : Int) (l : List Port) : Int := bI (fO num) l 0
theorem Eh (l : List Port) (hl : l.length ≤ 1000000) (num : Int) (id : Nat) (H : Hp) (h : H.obj id = some [.v (.int .i64 num)]) : cB Tryz.prog 144 [.sl (l.map Port.av), .fn 145 [.op id 0]] H (.int .i64 (lZ num l)) H := by
 refine cB.ah Tryz.func144 rfl rfl (aH rfl) (aK.go II mixed (aG.lq [.s 8, .h, .s 0, .s 1, .s 7] (fun (i : Nat) => [(.s 8, .sv (.v (.int .i64 (i : Int))))]) (fun (i : Nat) => bI (fO num) (l.drop i) i = lZ num l) (fun (i : Nat) => l.length - i) 0 rfl rfl rfl ?_))
 rintro i hI
 refine aC (fun hc1 => ?_) (fun hc1 => ?_)
 ·have hi := cz hc1
  refine aB.ii rfl cN rfl rfl (ca hi) rfl (aB.d2 rfl (pQ (aH rfl) (by kernel_rfl) rfl rfl rfl (Ig (l[i]'hi) num id H h)) (aC (fun hc2 => ?_) (fun hc2 => ?_)))
  ·exact cC rfl rfl rfl (by rw [← hI, bo hi, if_pos hc2])
  ·exact .b1 8 rfl (inc (by omega)) rfl ⟨i + 1, by omega, by rw [← hI, bo hi, hc2]; rfl, rfl⟩
 ·have hi := dA hc1
  exact cC rfl rfl rfl (by rw [← hI, dT hi])
def sB (num : Int) (l : List Port) : Port := (l.find? (fO num)).getD ft
def oK (num : Int) (l : List Port) : AV := .tup [(sB num l).av, .bool (decide (0 ≤ lZ num l))]
theorem Ee {num : Int} {l : List Port} (h : ¬ lZ num l < 0) : (l.map Port.av)[(lZ num l).toNat]? = some (.agg (sB num l).cells) := by
 rcases ao (fO num) l 0 with ⟨q1, q2⟩ | ⟨i, hi, q1, q2, q3⟩
 ·exact absurd (show lZ num l < 0 by show bI _ _ _ < 0; rw [q1]; decide) h
 ·have e : lZ num l = ((0 + i : Nat) : Int) := q1
  rw [e, Int.toNat_natCast, Nat.zero_add, List.getElem?_map, List.getElem?_eq_getElem hi]
  unfold sB
  rw [q2]; rfl
theorem Ed {num : Int} {l : List Port} (h : lZ num l < 0) : sB num l = ft := by
 rcases ao (fO num) l 0 with ⟨q1, q2⟩ | ⟨i, hi, q1, q2, q3⟩
 ·unfold sB; rw [q2]; rfl
 ·have e : lZ num l = ((0 + i : Nat) : Int) := q1
  rw [e] at h; omega
theorem EY (l : List Port) (hl : l.length ≤ 1000000) (num : Int) : Pure Tryz.prog 95 [.sl (l.map Port.av), .int .i64 num] (oK num l) := by
 refine fun H => (cB.jA Tryz.func95 rfl rfl (aH rfl) (.tup _ (ab.cons (Port.mD _) (ab.cons (.bool _) ab.nil))) (aK.gn 5 II mixed (aG.kept (Kept.qO 3 rfl rfl (Kept.op 3 rfl rfl (Kept.cls 3 rfl rfl rfl rfl (Kept.now (aG.r 999 (aB.d1 rfl (lJ (aH rfl) rfl) (aB.d1 rfl (bu (aH rfl) (Fn rfl) rfl rfl (Eh l hl num _ _ Hp.bN)) (aC (fun hc1 => ?_) (fun hc1 => ?_))))))))))))
 ·exact ⟨.inr rfl, (aM.r2 rfl (.cell fZ rfl rfl rfl rfl (.tmp rfl .nil))).cast (by have h := of_decide_eq_true hc1; unfold oK; rw [Ed h, decide_eq_false (by omega)]; rfl), ⟨_, rfl, Nat.le_succ _, fun i hi => by have e : i ≠ H.next := (by omega); simp [Hp.new, Hp.set, e]⟩⟩
 ·refine aB.d1 rfl (ak (aH rfl) cN rfl rfl (by have := of_decide_eq_false hc1; omega) (Ee (of_decide_eq_false hc1)) rfl) ?_
  exact ⟨.inr rfl, (aM.r2 rfl (.cell fZ rfl rfl rfl rfl (.tmp rfl .nil))).cast (by have h := of_decide_eq_false hc1; unfold oK; rw [decide_eq_true (by omega : 0 ≤ lZ num l)]; rfl), ⟨_, rfl, Nat.le_succ _, fun i hi => by have e : i ≠ H.next := (by omega); simp [Hp.new, Hp.set, e]⟩⟩
open Go Go.RowKit
def Hp.more (H H' : Hp) : Prop := H.next ≤ H'.next ∧ ∀ i, i < H.next → H'.obj i = H.obj i
theorem Hp.more.refl (H : Hp) : H.more H := ⟨Nat.le_refl _, fun _ _ => rfl⟩
theorem Hp.more.trans {A B C : Hp} (h : A.more B) (k : B.more C) : A.more C := ⟨Nat.le_trans h.1 k.1, fun i hi => (k.2 i (Nat.lt_of_lt_of_le hi h.1)).trans (h.2 i hi)⟩
theorem Hp.more.new {A B : Hp} (h : A.more B) (cs : List Hc) : A.more (B.new cs) := ⟨Nat.le_trans h.1 (Nat.le_succ _), fun i hi => by rw [Hp.cr _ _ (Nat.lt_of_lt_of_le hi h.1)]; exact h.2 i hi⟩
theorem Hp.oF {H : Hp} {id i : Nat} {cs : List Hc} (h : i ≠ id) : (H.set id cs).obj i = H.obj i := by simp [Hp.set, h]
theorem Hp.more.set {A B : Hp} (h : A.more B) {id : Nat} (hi : A.next ≤ id) (cs : List Hc) : A.more (B.set id cs) := ⟨h.1, fun i hi' => by rw [Hp.oF (by omega)]; exact h.2 i hi'⟩
def kO (P : Program) (f : FuncId) (args : List AV) (H : Hp) (bad : AV) : Except Unit (AV × Hp) → Prop
 | .ok x => cB P f args H x.1 x.2
 | .error _ => cB P f args H bad H
def DR {α : Type} (g : α → AV) : Except Unit (α × Hp) → Except Unit (AV × Hp)
 | .ok x => .ok (g x.1, x.2)
 | .error u => .error u
theorem kO.HG {P : Program} {f : FuncId} {args : List AV} {H : Hp} {bad : AV} {α : Type} {g : α → AV} {res : Except Unit (α × Hp)} {x : α × Hp} (h : kO P f args H bad (DR g res)) (e : res = .ok x) : cB P f args H (g x.1) x.2 := by subst e; exact h
theorem kO.wN {P : Program} {f : FuncId} {args : List AV} {H : Hp} {bad : AV} {α : Type} {g : α → AV} {res : Except Unit (α × Hp)} {u : Unit} (h : kO P f args H bad (DR g res)) (e : res = .error u) : cB P f args H bad H := by subst e; exact h
def jC (H : Hp) (bad : AV) : Except Unit (AV × Hp) → AV → Hp → Prop
 | .ok x => fun r H' => r = x.1 ∧ H' = x.2
 | .error _ => fun r H' => r = bad ∧ H.more H'
theorem jC.HG {H : Hp} {bad : AV} {α : Type} {g : α → AV} {res : Except Unit (α × Hp)} {x : α} {H' : Hp} {r : AV} (e : res = .ok (x, H')) (hr : r = g x) : jC H bad (DR g res) r H' := by subst e; subst hr; exact ⟨rfl, rfl⟩
theorem jC.wN {H : Hp} {bad : AV} {α : Type} {g : α → AV} {res : Except Unit (α × Hp)} {u : Unit} {H' : Hp} {r : AV} (e : res = .error u) (hr : r = bad) (h : H.more H') : jC H bad (DR g res) r H' := by subst e; exact ⟨hr, h⟩
theorem kP.fin {P : Program} {fn : Func} {Post : AV → Hp → Prop} {e : Exit} {s' : St} {r : AV} {H' : Hp} (hp : Post r H') (h : (e = .normal ∨ e = .ret) ∧ aM P fn s' r ∧ get s' .h = some (.hp H')) :
  (e = .normal ∨ e = .ret) ∧ ∃ r H', Post r H' ∧ aM P fn s' r ∧ get s' .h = some (.hp H') := ⟨h.1, r, H', hp, h.2⟩
theorem cB.qv {P : Program} {f : FuncId} {fn : Func} {c : Code} {N : Nat} {args : List AV} {H : Hp} {bad : AV} {res : Except Unit (AV × Hp)} (hf : P.funcs[f]? = some fn) (hb : fn.body = some c) (hN : fn.ntmps = N) (hle : args.length ≤ N) (hro : bH (fun id => id < H.next) bad)
  (h : aK P N c ((.h, .hp H) :: fF args 0) fun e s' => (e = .normal ∨ e = .ret) ∧ ∃ r H', jC H bad res r H' ∧ aM P fn s' r ∧ get s' .h = some (.hp H')) : kO P f args H bad res := by
 cases res with
 | ok x => exact cB.ah hf hb hN hle (h.mono fun e s' ⟨h1, r, H', ⟨h2, h3⟩, h4, h5⟩ => ⟨h1, by rw [← h2]; exact h4, by rw [← h3]; exact h5⟩)
 | error u => exact cB.jA hf hb hN hle hro (h.mono fun e s' ⟨h1, r, H', ⟨h2, h3⟩, h4, h5⟩ => ⟨h1, by rw [← h2]; exact h4, H', h5, h3⟩)
abbrev qk := Int → Tree → Hp → Except Unit (Fm × Hp)
def Gf : cT := .mk 0 [] none
def rV : aL := ⟨[], []⟩
theorem zC : rV.AE := ⟨by decide, fun m hm => (List.not_mem_nil hm).elim, fun m hm f hf => (List.not_mem_nil hm).elim⟩
def gM (F : qk) (x : Port) (v : bF) (H : Hp) : Except Unit (cT × Hp) :=
 if x.part < 0 then (if v.ok rV x.f then .ok (.mk v.n v.s none, H) else .error ())
 else if v.n = 0 ∧ v.s = [] ∧ v.m.length = 1 then (match F x.part (v.m.headD (.mk [] [])) H with | .ok p => .ok (.mk 0 [] (some p.1), p.2) | .error u => .error u)
 else .error ()
def mn (x : Port) (v : bF) : cT := if x.part < 0 then .mk v.n v.s none else Gf
def dK (F : qk) (x : Port) : List bF → Hp → Except Unit (List cT × Hp)
 | [], H => .ok ([], H)
 | v :: l, H => match gM F x v H with
  | .error u => .error u
  | .ok c => if x.f.hidden && decide (v.n = 0) && v.s == [] then .error () else match dK F x l c.2 with
   | .error u => .error u
   | .ok r => .ok (c.1 :: r.1, r.2)
def dB (F : qk) (x : Port) (vs : List bF) (H : Hp) : Except Unit (List cT × Hp) := if vs.length = 0 ∨ (x.f.rep = false ∧ 1 < vs.length) then .error () else dK F x vs H
def kN (aE : List (List cT)) (bX : List Port) (x : Port) : Bool := !(bX.any fun y => !(x.f.one == []) && y.f.one == x.f.one && decide (0 < (aE.getD y.reg.toNat []).length))
def cX (F : qk) (bX : List Port) (rid : Nat) : Option Int → List Slot → List (List cT) → Hp → Except Unit (List (List cT) × Hp)
 | _, [], aE, H => .ok (aE, H)
 | last, x :: l, aE, H => match bX.find? (fO x.num) with
  | none => .error ()
  | some p => if (match last with | none => false | some n => decide (n ≥ x.num)) || !kN aE bX p then .error () else match dB F p x.ag H with
   | .error u => .error u
   | .ok c => cX F bX rid (some x.num) l (aE.set p.reg.toNat c.1) (c.2.set rid (dt (aE.set p.reg.toNat c.1)))
def kV (bX : List Port) (r : Rw) : Bool := (bX.find? (fO r.num)).isNone && r.right
def kJ (k aE : Int) (r : Nat) (rest : List Rw) (bh : Bool) : List Hc := [.v (.int .i64 k), .v (.os r aE.toNat 1), .v (.sl (rest.map Rw.av)), .v (.bool !bh)]
def iW (F : qk) (ps : List aQ) (bh : Bool) : qk := fun part t H =>
 let q := ps.getD part.toNat bS
 match cX F (q.side bh) H.next none t.aO (List.replicate q.aE.toNat []) (en q part.toNat bh H) with
 | .error u => .error u
 | .ok r => if t.rest.all (kV (q.side bh)) then .ok (.mk H.next part.toNat r.1 t.rest (!bh), r.2.set (H.next + 1) (kJ part.toNat q.aE H.next t.rest bh)) else .error ()
def fE (ps : List aQ) (bh : Bool) : Nat → qk
 | 0 => fun _ _ _ => .error ()
 | n + 1 => iW (fE ps bh n) ps bh
structure gO (ps : List aQ) : Prop where
 len : ps.length ≤ 1000
 sides : ∀ q ∈ ps, q.ins.length ≤ 12 ∧ q.outs.length ≤ 12
 aE : ∀ q ∈ ps, 0 ≤ q.aE ∧ q.aE ≤ 1000
 bX : ∀ q ∈ ps, ∀ x ∈ q.ins ++ q.outs, 0 ≤ x.reg ∧ x.reg < q.aE ∧ x.part < ps.length
structure Tree.Fk (t : Tree) : Prop where
 s : t.aO.length ≤ 1000
 r : t.rest.length ≤ 1000
 v : ∀ x ∈ t.aO, x.ag.length ≤ 1000
def Tree.lean (t : Tree) : Prop := t.eO Tree.Fk
def oV (ps : List aQ) (bh : Bool) : AV := .agg [.sl (ps.map aQ.av), .bool bh]
def o7 : AV := .tup [.nilp, .bool false]
def AB (f : Fm) : AV := .tup [f.ptr, .bool true]
def Jk (P : Program) (fid : FuncId) (ps : List aQ) (bh : Bool) (F : qk) (t : Tree) : Prop := ∀ (k : Int), 0 ≤ k → k < (ps.length : Int) → ∀ H, kO P fid [oV ps bh, .int .i64 k, .agg t.cells] H o7 (DR AB (F k t H))
theorem qG (p : aQ) (x : aS) : (aP p x).ins = p.ins := by
 unfold aP
 dsimp only
 repeat' split
 all_goals rfl
theorem vK (p : aQ) (x : aS) : p.aE ≤ (aP p x).aE ∧ (aP p x).aE ≤ p.aE + 2 := by
 unfold aP
 dsimp only
 repeat' split
 all_goals (dsimp only; omega)
structure Stepped (w w' : fg) (m : aU) (k : Nat) (p p' : aQ) : Prop where
 nm : w.names[k]? = some m.name
 nm' : w'.names[k]? = some m.name
 fit : Fit w.names p m
 at_ : w.all[k]? = some p
 ins : p'.ins = p.ins
 rl : p.aE ≤ p'.aE
 ru : p'.aE ≤ p.aE + 2
 all : w'.all = w.all.set k p' ∨ ∃ (y : Port) (nm : aw), y ∈ p.outs ∧ w'.all = w.all.set k p' ++ [bT { bS with name := nm, born := true, aE := 1, ins := [{ y with reg := 0 }], outs := [{ y with reg := 0 }] }]
theorem Inv.vJ {s t : aL} {x : aS} {m : aU} {at_ : Nat} {w : fg} (I : Inv s w) (A : c4 s x t m at_) : ∃ k p p', Stepped w (w.step x) m k p p' := by
 have hm : m ∈ s.msgs := List.mem_of_getElem? A.eq
 obtain ⟨k, p, k1, k2, hF⟩ := I.fwd m hm
 have hne : m.name ≠ [] := gy (A.iV.nm m hm)
 have hk : k < w.all.length := (List.getElem?_eq_some_iff.1 k2).1
 have hkn : k < w.names.length := (List.getElem?_eq_some_iff.1 k1).1
 have hix : cW w.names x.msg = k := kc (by rw [← A.nm]; exact k1) fun j hj => I.uniq j k _ hj (by rw [← A.nm]; exact k1) (by rw [← A.nm]; exact hne)
 have hgd : w.all.getD k bS = p := by rw [List.getD_eq_getElem?_getD, k2]; rfl
 by_cases h6 : x.kind = 6
 ·have hhas : m.dh x.field = true := by have := A.has; simpa [aS.bk, h6] using this
  have hh := fT hhas
  obtain ⟨q1, q2, q3⟩ := fq hF.outs ⟨_, hh.1, hh.2⟩
  let wp : aQ := bT { bS with name := x.dest, born := true, aE := 1, ins := [{ aJ p.outs x.field with reg := 0 }], outs := [{ aJ p.outs x.field with reg := 0 }] }
  let g : Port := ⟨{ eY with name := x.also, num := x.num, ty := 15, ref := x.dest }, p.aE, w.all.length⟩
  let p' : aQ := { p with ops := p.ops ++ [{ jb with kind := 4, a := (aJ p.outs x.field).reg, b := p.aE, part := w.all.length }], aE := p.aE + 1, outs := bb (aR p.outs x.field) g }
  have hst : w.step x = ⟨(w.all ++ [wp]).set k (bT p'), w.names ++ [x.dest]⟩ := by
   unfold fg.step
   simp only [hix, h6, if_true, au, hgd, show ¬ (6 : Int) = 7 by decide, if_false]
   congr 1
   rw [List.getD_eq_getElem?_getD, List.getElem?_set_self (by simp; omega)]
   simp only [Option.getD_some, List.set_set]
   rfl
  refine ⟨k, p, bT p', k1, ?_, hF, k2, rfl, ?_, ?_, .inr ⟨_, x.dest, q1, ?_⟩⟩
  ·rw [hst]; show (w.names ++ [x.dest])[k]? = _
   rw [List.getElem?_append_left hkn]; exact k1
  ·show p.aE ≤ p.aE + 1; omega
  ·show p.aE + 1 ≤ p.aE + 2; omega
  ·rw [hst]; show (w.all ++ [wp]).set k (bT p') = _
   rw [List.set_append, if_pos hk]
 ·by_cases h7 : x.kind = 7
  ·have hhas : m.dh x.field = true := by have := A.has; simpa [aS.bk, h7] using this
   have hh := fT hhas
   obtain ⟨q1, q2, q3⟩ := fq hF.outs ⟨_, hh.1, hh.2⟩
   have q2 : (aJ p.outs x.field).f = m.aV x.field := q2
   obtain ⟨m2, g, j2, B⟩ := A.boxed h7
   obtain ⟨j, hj1, hj2⟩ := (hF.part _ q1).1 (by rw [q2]; exact B.ty)
   rw [q2] at hj2
   have hpart : (aJ p.outs x.field).part.toNat = j := by rw [hj1]; simp
   have hkk : k ≠ j := fun e => by
    rw [e, hj2] at k1
    injection k1 with k1
    exact B.ne k1
   obtain ⟨p2, hg2⟩ : ∃ p2, w.all.getD j bS = p2 := ⟨_, rfl⟩
   let g' : Port := { (p2.outs.headD ft) with reg := p.aE }
   let p' : aQ := { p with ops := p.ops ++ [{ jb with kind := 5, a := (aJ p.outs x.field).reg, b := p.aE, part := (aJ p.outs x.field).part }], aE := p.aE + 1, outs := bb (aR p.outs x.field) g' }
   have hst : w.step x = ⟨w.all.set k (bT p'), w.names.set j []⟩ := by
    unfold fg.step
    simp only [hix, h7, if_true, if_false, au, hgd, hpart, hg2, show ¬ (7 : Int) = 6 by decide]
    congr 1
    rw [List.getD_eq_getElem?_getD, List.getElem?_set_self hk]
    simp only [Option.getD_some, List.set_set]
    rfl
   refine ⟨k, p, bT p', k1, ?_, hF, k2, rfl, ?_, ?_, .inl ?_⟩
   ·rw [hst]; show (w.names.set j [])[k]? = _
    rw [List.getElem?_set_ne (fun q => hkk q.symm)]; exact k1
   ·show p.aE ≤ p.aE + 1; omega
   ·show p.aE + 1 ≤ p.aE + 2; omega
   ·rw [hst]
  ·have hst : w.step x = ⟨w.all.set k (bT (aP p x)), w.names⟩ := by
    unfold fg.step
    simp only [hix, h6, h7, if_false, au, hgd]
    congr 1
    rw [List.getD_eq_getElem?_getD, List.getElem?_set_self hk]
    simp
   have hr := vK p x
   exact ⟨k, p, bT (aP p x), k1, by rw [hst]; exact k1, hF, k2, qG p x, hr.1, hr.2, .inl (by rw [hst])⟩
structure pz (w : fg) (n : Nat) : Prop where
 len : w.all.length ≤ 6 + n
 sides : ∀ p ∈ w.all, p.ins.length ≤ 10 ∧ p.outs.length ≤ 10
 aE : ∀ p ∈ w.all, 0 ≤ p.aE ∧ p.aE ≤ 10 + 2 * (n : Int)
 bX : ∀ p ∈ w.all, ∀ x ∈ p.ins ++ p.outs, 0 ≤ x.reg ∧ x.reg < p.aE ∧ x.part < w.all.length ∧ -1 ≤ x.part
theorem Fit.Nf {names : List aw} {p : aQ} {m : aU} {t : aL} (h : Fit names p m) (ht : t.lN) (hm : m ∈ t.msgs) : p.outs.length ≤ 10 ∧ ∀ x ∈ p.outs, 0 ≤ x.reg ∧ x.reg < p.aE ∧ x.part < names.length ∧ -1 ≤ x.part := by
 refine ⟨?_, fun x hx => ?_⟩
 ·have := ht.sm.f m hm
  rw [← h.outs, List.length_map] at this; exact this
 ·have hr := h.reg x hx
  have hp := h.part x hx
  by_cases e : x.f.ty = 15
  ·obtain ⟨j, h1, h2⟩ := hp.1 e
   have := (List.getElem?_eq_some_iff.1 h2).1
   omega
  ·have := hp.2 e
   omega
theorem Inv.live {t : aL} {w : fg} (I : Inv t w) {k : Nat} {n : aw} (h : w.names[k]? = some n) (hn : n ≠ []) : ∃ m ∈ t.msgs, m.name = n ∧ ∃ p, w.all[k]? = some p ∧ Fit w.names p m := by
 obtain ⟨m, hm, e⟩ := I.back k n h hn
 obtain ⟨k', p, h1, h2, h3⟩ := I.fwd m hm
 have : k' = k := I.uniq k' k n (by rw [h1, e]) h hn
 subst this
 exact ⟨m, hm, e, p, h2, h3⟩
theorem pz.step {s t : aL} {x : aS} {m : aU} {at_ : Nat} {w : fg} {n : Nat} (B : pz w n) (I : Inv s w) (A : c4 s x t m at_) (I' : Inv t (w.step x)) : pz (w.step x) (n + 1) := by
 obtain ⟨k, p, p', S⟩ := I.vJ A
 have hne : m.name ≠ [] := gy (A.iV.nm m (List.mem_of_getElem? A.eq))
 have hk : k < w.all.length := (List.getElem?_eq_some_iff.1 S.at_).1
 have hpm : p ∈ w.all := List.mem_of_getElem? S.at_
 have hlen : w.all.length ≤ (w.step x).all.length ∧ (w.step x).all.length ≤ w.all.length + 1 := by
  rcases S.all with e | ⟨y, nm, _, e⟩ <;> rw [e] <;> simp
 have hmem : ∀ q ∈ (w.step x).all, q = p' ∨ q ∈ w.all ∨ ∃ (y : Port) (nm : aw), y ∈ p.outs ∧ q = bT { bS with name := nm, born := true, aE := 1, ins := [{ y with reg := 0 }], outs := [{ y with reg := 0 }] } := by
  intro q hq
  have hs : ∀ q ∈ w.all.set k p', q = p' ∨ q ∈ w.all := fun q hq => by
   rcases List.mem_or_eq_of_mem_set hq with h | h
   ·exact .inr h
   ·exact .inl h
  rcases S.all with e | ⟨y, nm, hy, e⟩
  ·rw [e] at hq
   rcases hs q hq with h | h
   ·exact .inl h
   ·exact .inr (.inl h)
  ·rw [e] at hq
   rcases List.mem_append.1 hq with hq | hq
   ·rcases hs q hq with h | h
    ·exact .inl h
    ·exact .inr (.inl h)
   ·exact .inr (.inr ⟨y, nm, hy, by simpa using hq⟩)
 obtain ⟨m', hm', e', p2, h2, F2⟩ := I'.live S.nm' hne
 have hp2 : p2 = p' := by
  have hk' : (w.step x).all[k]? = some p' := by
   rcases S.all with e | ⟨y, nm, _, e⟩
   ·rw [e, List.getElem?_set_self hk]
   ·rw [e, List.getElem?_append_left (by simpa using hk), List.getElem?_set_self hk]
  rw [hk'] at h2; cases h2; rfl
 subst hp2
 have g2 := F2.Nf I'.ok hm'
 have hl' := I'.len
 have bp := B.aE p hpm
 have hrl := S.rl
 have hru := S.ru
 have hB := B.len
 refine ⟨by omega, fun q hq => ?_, fun q hq => ?_, fun q hq z hz => ?_⟩
 ·rcases hmem q hq with rfl | h | ⟨y, nm, hy, rfl⟩
  ·exact ⟨by rw [S.ins]; exact (B.sides p hpm).1, g2.1⟩
  ·exact B.sides q h
  ·exact ⟨by show 1 ≤ 10; omega, by show 1 ≤ 10; omega⟩
 ·rcases hmem q hq with rfl | h | ⟨y, nm, hy, rfl⟩
  ·omega
  ·have := B.aE q h; omega
  ·show (0 : Int) ≤ 1 ∧ (1 : Int) ≤ _; omega
 ·rcases hmem q hq with rfl | h | ⟨y, nm, hy, rfl⟩
  ·rcases List.mem_append.1 hz with hz | hz
   ·rw [S.ins] at hz
    have := B.bX p hpm z (List.mem_append_left _ hz)
    omega
   ·have := g2.2 z hz
    omega
  ·have := B.bX q h z hz
   omega
  ·have hz : z = { y with reg := 0 } := by
    have hz : z ∈ [({ y with reg := 0 } : Port)] ++ [{ y with reg := 0 }] := hz
    simpa using hz
   have := B.bX p hpm y (List.mem_append_right _ hy)
   subst hz
   show (0 : Int) ≤ 0 ∧ (0 : Int) < 1 ∧ y.part < _ ∧ -1 ≤ y.part
   omega
theorem pz.begin {s : aL} (hs : s.lN) : pz (iI s) 0 := by
 have hl : (iI s).all.length = s.msgs.length := by simp [iI, cK]
 have hm := hs.sm.m
 have hmem : ∀ p ∈ (iI s).all, ∃ m ∈ s.msgs, p.ins = bG s m ∧ p.outs = bG s m ∧ p.aE = m.fields.length := fun p hp => by
  obtain ⟨m, h1, rfl⟩ := List.mem_map.1 hp
  exact ⟨m, h1, rfl, rfl, rfl⟩
 have hpl : ∀ m, (bG s m).length = m.fields.length := fun m => by simp [bG]
 refine ⟨by omega, fun p hp => ?_, fun p hp => ?_, fun p hp x hx => ?_⟩
 ·obtain ⟨m, h1, h2, h3, h4⟩ := hmem p hp
  have := hs.sm.f m h1
  rw [h2, h3, hpl]; omega
 ·obtain ⟨m, h1, h2, h3, h4⟩ := hmem p hp
  have := hs.sm.f m h1
  rw [h4]; omega
 ·obtain ⟨m, h1, h2, h3, h4⟩ := hmem p hp
  have hx : x ∈ bG s m := by
   rw [h2, h3] at hx
   rcases List.mem_append.1 hx with h | h <;> exact h
  obtain ⟨k, a1, a2, a3, a4⟩ := kX hx
  have hpt : x.part < s.msgs.length ∧ -1 ≤ x.part := by
   rw [a4]
   split
   ·rcases ao (fun m : aU => m.name == x.f.ref) s.msgs 0 with ⟨h1, h2⟩ | ⟨i, hi, h1, h2⟩
    ·have : s.bL x.f.ref = -1 := h1
     omega
    ·have : s.bL x.f.ref = ((0 + i : Nat) : Int) := h1
     omega
   ·omega
  omega
theorem m3.begin (s : aL) : m3 s (iI s) := ⟨fun k m h => ⟨bT { bS with name := m.name, ins := bG s m, outs := bG s m, aE := m.fields.length }, by simp [iI, cK, h], rfl, Int.le_refl _⟩⟩
theorem m3.step {r s t : aL} {x : aS} {m : aU} {at_ : Nat} {w : fg} (B : m3 r w) (I : Inv s w) (A : c4 s x t m at_) : m3 r (w.step x) := by
 obtain ⟨k, p, p', S⟩ := I.vJ A
 have hk : k < w.all.length := (List.getElem?_eq_some_iff.1 S.at_).1
 refine ⟨fun i y hy => ?_⟩
 obtain ⟨q, h1, h2, h3⟩ := B.ins i y hy
 have hi : i < w.all.length := (List.getElem?_eq_some_iff.1 h1).1
 have hget : (w.step x).all[i]? = (w.all.set k p')[i]? := by
  rcases S.all with e | ⟨z, nm, _, e⟩
  ·rw [e]
  ·rw [e, List.getElem?_append_left (by simpa using hi)]
 rw [hget]
 by_cases e : i = k
 ·subst e
  rw [S.at_] at h1; cases h1
  exact ⟨p', List.getElem?_set_self hk, by rw [S.ins]; exact h2, Int.le_trans h3 S.rl⟩
 ·exact ⟨q, by rw [List.getElem?_set_ne (fun h => e h.symm)]; exact h1, h2, h3⟩
theorem ur : ∀ {l : List aS} {r s : aL} {acc L : List aL} {w : fg} {n : Nat}, Inv s w → pz w n → m3 r w → aL.dy l s acc = .ok L → pz (l.foldl fg.step w) (n + l.length) ∧ m3 r (l.foldl fg.step w)
 | [], r, s, acc, L, w, n, I, B, C, h => ⟨B, C⟩
 | x :: l, r, s, acc, L, w, n, I, B, C, h => by
  unfold aL.dy at h
  cases e : s.apply x with
  | error k => rw [e] at h; cases h
  | ok t =>
   rw [e] at h
   have I' := I.step e
   obtain ⟨m, at_, A⟩ := gq e
   have := ur I' (B.step I A I') (C.step I A) h
   have e2 : n + (x :: l).length = n + 1 + l.length := by simp; omega
   rw [e2]; exact this
theorem wH {s : aL} {l : List aS} {L : List aL} (h : s.all l = .ok L) : pz (l.foldl fg.step (iI s)) l.length ∧ m3 s (l.foldl fg.step (iI s)) := by
 unfold aL.all at h
 split at h
 ·cases h
 rename_i h1
 split at h
 ·cases h
 have hs := aL.gI (by simpa using h1)
 have := ur (Inv.begin hs) (pz.begin hs) (m3.begin s) h
 simpa using this
structure eN (ps : List aQ) (bh : Bool) (s : aL) (St : Nat → aU → Prop) : Prop where
 mem : ∀ k m, St k m → m ∈ s.msgs
 at_ : ∀ k m, St k m → ∃ q, ps[k]? = some q ∧ (q.side bh).map (·.f) = m.fields ∧ (∀ x ∈ q.side bh, 0 ≤ x.reg ∧ x.reg < q.aE) ∧ ((q.side bh).map (·.reg)).Nodup ∧
  ∀ x ∈ q.side bh, (x.f.ty = 15 → ∃ (j : Nat) (m' : aU), x.part = (j : Int) ∧ s.fP x.f.ref = some m' ∧ St j m') ∧ (x.f.ty ≠ 15 → x.part = -1)
theorem BH {s : aL} (hs : s.lN) {m : aU} (hm : m ∈ s.msgs) {f : ae} (hf : f ∈ m.fields) (ht : f.ty = 15) : ∃ (i : Nat) (m' : aU), s.bL f.ref = (i : Int) ∧ s.msgs[i]? = some m' ∧ s.fP f.ref = some m' ∧ m'.name = f.ref := by
 have hr := (hs.refs m hm f hf).2 ht
 rcases s.oY f.ref with ⟨h1, h2⟩ | ⟨i, hi, h1, h2, h3⟩
 ·omega
 ·exact ⟨i, s.msgs[i], h1, List.getElem?_eq_getElem hi, h2, h3⟩
theorem Inv.yq {t : aL} {w : fg} (I : Inv t w) : eN w.all true t fun k m => m ∈ t.msgs ∧ w.names[k]? = some m.name := by
 refine ⟨fun k m h => h.1, fun k m ⟨hm, hk⟩ => ?_⟩
 have hne : m.name ≠ [] := gy (I.ok.nm m hm)
 obtain ⟨k', p, h1, h2, F⟩ := I.fwd m hm
 have : k' = k := I.uniq k' k _ h1 hk hne
 subst this
 refine ⟨p, h2, F.outs, F.reg, F.dist, fun x hx => ⟨fun e => ?_, (F.part x hx).2⟩⟩
 obtain ⟨j, a1, a2⟩ := (F.part x hx).1 e
 obtain ⟨i, m', _, b2, b3, b4⟩ := BH I.ok hm (f := x.f) (by rw [← F.outs]; exact List.mem_map_of_mem hx) e
 exact ⟨j, m', a1, b3, List.mem_of_getElem? b2, by rw [a2, b4]⟩
theorem m3.yq {s : aL} {w : fg} (hs : s.lN) (I : m3 s w) : eN w.all false s fun k m => s.msgs[k]? = some m := by
 refine ⟨fun k m h => List.mem_of_getElem? h, fun k m hk => ?_⟩
 obtain ⟨p, h1, h2, h3⟩ := I.ins k m hk
 have hm := List.mem_of_getElem? hk
 have hpm : (bG s m).map (·.f) = m.fields := pJ s m.fields 0
 refine ⟨p, h1, by rw [vO, h2]; exact hpm, fun x hx => ?_, ?_, fun x hx => ?_⟩
 ·rw [vO, h2] at hx
  obtain ⟨i, a1, a2, a3, a4⟩ := kX hx
  omega
 ·rw [vO, h2]
  have := nQ s m.fields 0
  show ((bG s m).map (·.reg)).Nodup
  unfold bG
  rw [this]
  exact List.Pairwise.map _ (fun a b hab => by omega) List.nodup_range'
 ·rw [vO, h2] at hx
  obtain ⟨i, a1, a2, a3, a4⟩ := kX hx
  refine ⟨fun e => ?_, fun e => by rw [a4, if_neg e]⟩
  rw [if_pos e] at a4
  obtain ⟨j, m', b1, b2, b3, b4⟩ := BH hs hm a3 e
  exact ⟨j, m', by rw [a4, b1], b3, b2⟩
theorem pz.parts {w : fg} {n : Nat} (B : pz w n) (hn : n ≤ 40) : gO w.all := by
 have hl := B.len
 refine ⟨by omega, fun q hq => ?_, fun q hq => ?_, fun q hq x hx => ?_⟩
 ·have := B.sides q hq; omega
 ·have := B.aE q hq; omega
 ·have := B.bX q hq x hx; omega
theorem J6 {a b : Int} : yB a b < 0 ↔ a < b := by
 unfold yB
 split
 ·simp; omega
 ·split
  ·simp; omega
  ·simp; omega
theorem Fi {x y : Port} : oW x y = true ↔ x.f.num < y.f.num := by unfold oW; rw [decide_eq_true_eq]; exact J6
theorem Hl {ys : List Port} (h : dP (fun x : Port => x.f.num) ys) : ∀ (j : Nat), j < ys.length → gR j ys = ys
 | 0, _ => rfl
 | j + 1, hj => by
  unfold gR
  have h1 : iO ys (j + 1) = ys[j + 1] := by unfold iO; rw [List.getD_eq_getElem?_getD, List.getElem?_eq_getElem hj]; rfl
  have h2 : iO ys j = ys[j]'(by omega) := by unfold iO; rw [List.getD_eq_getElem?_getD, List.getElem?_eq_getElem (by omega)]; rfl
  have hlt := List.pairwise_iff_getElem.1 h j (j + 1) (by omega) hj (Nat.lt_succ_self j)
  have : oW (iO ys (j + 1)) (iO ys j) = false := by
   cases e : oW (iO ys (j + 1)) (iO ys j) with
   | false => rfl
   | true => rw [Fi, h1, h2] at e; dsimp only at hlt; omega
  rw [this]; rfl
theorem wa {ys : List Port} (h : dP (fun x : Port => x.f.num) ys) : ∀ (k i : Nat), i + k ≤ ys.length → kT k i ys = ys
 | 0, i, _ => rfl
 | k + 1, i, hk => by
  unfold kT
  rw [Hl h i (by omega)]
  exact wa h k (i + 1) (by omega)
theorem EH {ys : List Port} (h : dP (fun x : Port => x.f.num) ys) : cm ys = ys := by
 unfold cm
 cases e : ys.length with
 | zero =>
  show kT (0 - 1) 1 ys = ys
  rfl
 | succ n => exact wa h _ _ (by omega)
structure fw (ps : List aQ) (bh : Bool) (s : aL) (St : Nat → aU → Prop) (k : Nat) (m : aU) (q : aQ) : Prop where
 st : St k m
 mm : m ∈ s.msgs
 at_ : ps[k]? = some q
 eL : (q.side bh).map (·.f) = m.fields
 reg : ∀ x ∈ q.side bh, 0 ≤ x.reg ∧ x.reg < q.aE
 dist : ((q.side bh).map (·.reg)).Nodup
 part : ∀ x ∈ q.side bh, (x.f.ty = 15 → ∃ (j : Nat) (m' : aU), x.part = (j : Int) ∧ s.fP x.f.ref = some m' ∧ St j m') ∧ (x.f.ty ≠ 15 → x.part = -1)
 rise : dP (fun x : Port => x.f.num) (q.side bh)
theorem eN.NN {ps : List aQ} {bh : Bool} {s : aL} {St : Nat → aU → Prop} (S : eN ps bh s St) (hs : s.lN) {k : Nat} {m : aU} (h : St k m) : ∃ q, fw ps bh s St k m q := by
 obtain ⟨q, h1, h2, h3, h4, h5⟩ := S.at_ k m h
 have hm := S.mem k m h
 refine ⟨q, h, hm, h1, h2, h3, h4, h5, ?_⟩
 have h9 := hs.fr m hm
 rw [← h2] at h9
 have h9 : List.Pairwise (fun a b : ae => a.num < b.num) ((q.side bh).map (·.f)) := h9
 exact (List.pairwise_map (R := fun a b : ae => a.num < b.num)).1 h9
section
variable {ps : List aQ} {bh : Bool} {s : aL} {St : Nat → aU → Prop} {k : Nat} {m : aU} {q : aQ}
theorem fw.find (P : fw ps bh s St k m q) (num : Int) : m.fix num = ((q.side bh).find? (fO num)).map (·.f) := by
 unfold aU.fix
 have e : (fun f : ae => f.num == num) ∘ (fun x : Port => x.f) = fO num := by
  funext x
  show (x.f.num == num) = decide (x.f.num = num)
  rw [Bool.eq_iff_iff]; simp
 rw [← P.eL, List.find?_map, e]
theorem fw.get (P : fw ps bh s St k m q) : ps.getD k bS = q := by rw [List.getD_eq_getElem?_getD, P.at_]; rfl
theorem fw.inj (P : fw ps bh s St k m q) {x y : Port} (hx : x ∈ q.side bh) (hy : y ∈ q.side bh) (e : x.f.num = y.f.num) : x = y := by
 obtain ⟨i, hi, rfl⟩ := List.mem_iff_getElem.1 hx
 obtain ⟨j, hj, rfl⟩ := List.mem_iff_getElem.1 hy
 rcases Nat.lt_trichotomy i j with h | h | h
 ·have := List.pairwise_iff_getElem.1 P.rise i j hi hj h; dsimp only at this; omega
 ·subst h; rfl
 ·have := List.pairwise_iff_getElem.1 P.rise j i hj hi h; dsimp only at this; omega
theorem fw.Kn (P : fw ps bh s St k m q) {x y : Port} (hx : x ∈ q.side bh) (hy : y ∈ q.side bh) (e : x.reg = y.reg) : x = y := by
 obtain ⟨i, hi, rfl⟩ := List.mem_iff_getElem.1 hx
 obtain ⟨j, hj, rfl⟩ := List.mem_iff_getElem.1 hy
 have hp := List.pairwise_map.1 P.dist
 rcases Nat.lt_trichotomy i j with h | h | h
 ·exact absurd e (List.pairwise_iff_getElem.1 hp i j hi hj h)
 ·subst h; rfl
 ·exact absurd e.symm (List.pairwise_iff_getElem.1 hp j i hj hi h)
theorem fw.B1 (P : fw ps bh s St k m q) {x : Port} (hx : x ∈ q.side bh) : (q.side bh).find? (fO x.f.num) = some x := by
 cases e : (q.side bh).find? (fO x.f.num) with
 | none =>
  have := List.find?_eq_none.1 e x hx
  simp [fO] at this
 | some y =>
  have h1 := List.mem_of_find?_eq_some e
  have h2 := List.find?_some e
  simp only [fO, decide_eq_true_eq] at h2
  rw [P.inj h1 hx h2]
end
mutual
def Tree.ms : Tree → Nat
 | .mk ss _ => 1 + cp ss
def Slot.ms : Slot → Nat
 | .mk _ vs => cx vs
def bF.ms : bF → Nat
 | .mk _ _ m => dF m
def cp : List Slot → Nat
 | [] => 0
 | x :: l => x.ms + cp l
def cx : List bF → Nat
 | [] => 0
 | v :: l => v.ms + cx l
def dF : List Tree → Nat
 | [] => 0
 | t :: l => t.ms + dF l
end
mutual
def Tree.vs : Tree → Nat
 | .mk ss _ => cn ss
def Slot.vs : Slot → Nat
 | .mk _ vs => vs.length + cu vs
def bF.vs : bF → Nat
 | .mk _ _ m => dE m
def cn : List Slot → Nat
 | [] => 0
 | x :: l => x.vs + cn l
def cu : List bF → Nat
 | [] => 0
 | v :: l => v.vs + cu l
def dE : List Tree → Nat
 | [] => 0
 | t :: l => t.vs + dE l
end
theorem Tree.iZ (t : Tree) : t.ms = 1 + cp t.aO := by cases t; simp [Tree.ms, Tree.aO]
theorem Tree.iY (t : Tree) : t.vs = cn t.aO := by cases t; simp [Tree.vs, Tree.aO]
theorem Slot.iZ (x : Slot) : x.ms = cx x.ag := by cases x; simp [Slot.ms, Slot.ag]
theorem Slot.iY (x : Slot) : x.vs = x.ag.length + cu x.ag := by cases x; simp [Slot.vs, Slot.ag]
theorem bF.iZ (v : bF) : v.ms = dF v.m := by cases v; simp [bF.ms, bF.m]
theorem bF.iY (v : bF) : v.vs = dE v.m := by cases v; simp [bF.vs, bF.m]
theorem lx : ∀ (a b : List Slot), cp (a ++ b) = cp a + cp b
 | [], b => by rw [cp]; simp
 | x :: a, b => by rw [List.cons_append, cp, cp, lx a b]; omega
theorem lv : ∀ (a b : List Slot), cn (a ++ b) = cn a + cn b
 | [], b => by rw [cn]; simp
 | x :: a, b => by rw [List.cons_append, cn, cn, lv a b]; omega
inductive Fm.wK (H : Hp) (lo hi : Nat) : Fm → Prop where
 | mk (f : Fm) (h0 : lo ≤ f.r ∧ f.r + 1 < hi) (h1 : H.obj (f.r + 1) = some f.x8) (h2 : H.obj f.r = some (dt f.aE)) (hb : f.aE.length ≤ 9000000000000000000 ∧ ∀ l ∈ f.aE, l.length ≤ 9000000000000000000)
   (h3 : ∀ l ∈ f.aE, ∀ c ∈ l, ∀ g, c.f = some g → Fm.wK H lo hi g) : Fm.wK H lo hi f
theorem Fm.wK.at {H : Hp} {lo hi : Nat} {f : Fm} (h : f.wK H lo hi) : f.At H := by
 induction h with
 | mk f h0 h1 h2 hb h3 ih => exact .mk f h1 h2 hb ih
theorem Fm.wK.move {H H' : Hp} {lo hi lo' hi' : Nat} {f : Fm} (h : f.wK H lo hi) (hl : lo' ≤ lo) (hh : hi ≤ hi') (ho : ∀ i, lo ≤ i → i < hi → H'.obj i = H.obj i) : f.wK H' lo' hi' := by
 induction h with
 | mk f h0 h1 h2 hb h3 ih =>
  exact .mk f ⟨by omega, by omega⟩ (by rw [ho _ (by omega) h0.2]; exact h1) (by rw [ho _ h0.1 (by omega)]; exact h2) hb fun l hl' c hc g hg => ih l hl' c hc g hg
section
variable {ps : List aQ} {bh : Bool} {s : aL} {St : Nat → aU → Prop} {k : Nat} {m : aU} {q : aQ} {n : Nat}
structure yY (ps : List aQ) (bh : Bool) (n lo : Nat) (H' : Hp) (g : Fm) : Prop where
 lies : g.wK H' lo H'.next
 good : g.Good ps bh n
structure gP (ps : List aQ) (bh : Bool) (n lo : Nat) (H' : Hp) (cs : List cT) (vs : List bF) : Prop where
 sub : ∀ c ∈ cs, ∀ g, c.f = some g → yY ps bh n lo H' g
 val : cs.map (nC (mr ps bh n)) = vs
 ms : ck cs = cx vs
 vn : cj cs = cu vs
theorem yY.move {lo lo' : Nat} {H H' : Hp} {g : Fm} (h : yY ps bh n lo H g) (hl : lo' ≤ lo) (hh : H.next ≤ H'.next) (ho : ∀ i, lo ≤ i → i < H.next → H'.obj i = H.obj i) : yY ps bh n lo' H' g := ⟨h.lies.move hl hh ho, h.good⟩
theorem gP.move {lo lo' : Nat} {H H' : Hp} {cs : List cT} {vs : List bF} (h : gP ps bh n lo H cs vs) (hl : lo' ≤ lo) (hh : H.next ≤ H'.next) (ho : ∀ i, lo ≤ i → i < H.next → H'.obj i = H.obj i) : gP ps bh n lo' H' cs vs :=
 ⟨fun c hc g hg => (h.sub c hc g hg).move hl hh ho, h.val, h.ms, h.vn⟩
theorem gP.cons {lo : Nat} {H : Hp} {c : cT} {v : bF} {cs : List cT} {vs : List bF} (h1 : gP ps bh n lo H [c] [v]) (h2 : gP ps bh n lo H cs vs) : gP ps bh n lo H (c :: cs) (v :: vs) := by
 have m1 := h1.ms
 have v1 := h1.vn
 have e1 := h1.val
 rw [ck, ck, cx, cx] at m1
 rw [cj, cj, cu, cu] at v1
 refine ⟨fun d hd g hg => ?_, ?_, ?_, ?_⟩
 ·rcases List.mem_cons.1 hd with rfl | hd
  ·exact h1.sub _ (List.mem_singleton.2 rfl) g hg
  ·exact h2.sub d hd g hg
 ·simp only [List.map_cons, List.map_nil, List.cons.injEq, and_true] at e1
  rw [List.map_cons, e1, h2.val]
 ·rw [ck, cx, h2.ms]; omega
 ·rw [cj, cu, h2.vn]; omega
theorem gP.nil {lo : Nat} {H : Hp} : gP ps bh n lo H [] [] := ⟨fun c hc => (List.not_mem_nil hc).elim, rfl, rfl, rfl⟩
structure HD (ps : List aQ) (bh : Bool) (n : Nat) (k : Nat) (t : Tree) (H : Hp) (f : Fm) (H' : Hp) : Prop where
 more : H.more H'
 lies : f.wK H' H.next H'.next
 good : f.Good ps bh n
 tree : mr ps bh n f = t
 ms : f.ms = t.ms
 vn : f.vs = t.vs
 part : f.part = k
 done : f.done = !bh
 root : f.r = H.next
def tc (ps : List aQ) (bh : Bool) (s : aL) (n k : Nat) (m : aU) (t : Tree) : Prop := ∀ H : Hp, (t.ok s m.name = true → ∃ f H', fE ps bh n k t H = .ok (f, H') ∧ HD ps bh n k t H f H') ∧ (t.ok s m.name = false → fE ps bh n k t H = .error ())
theorem Bq {s r : aL} {f : ae} {v : bF} (h : f.ty ≠ 15) : v.ok s f = v.ok r f := by
 rw [bF.ok_eq, bF.ok_eq]; simp only [h, if_false]
theorem wY {s : aL} {f : ae} {v : bF} (h : f.ty ≠ 15) (hv : v.ok s f = true) : v.m = [] := by
 rw [bF.ok_eq] at hv
 simp only [h, if_false] at hv
 have : v.m.length = 0 := by
  split at hv
  ·simp at hv; exact List.length_eq_zero_iff.2 hv.2
  ·split at hv
   ·simp at hv; exact List.length_eq_zero_iff.2 hv.1.2
   ·split at hv
    ·simp at hv; exact List.length_eq_zero_iff.2 hv.2
    ·cases hv
 exact List.length_eq_zero_iff.1 this
theorem Dh {s : aL} {f : ae} {v : bF} (h : f.ty = 15) : v.ok s f = (decide (v.n = 0) && v.s == [] && fW s f.ref v.m) := by
 rw [bF.ok_eq, h]
 have : pS 15 = false := by decide
 rw [this]
 simp
theorem za {s : aL} {n : aw} {m : aU} (h : s.fP n = some m) : m.name = n := by
 have := List.find?_some h
 simpa using this
theorem D1 (P : fw ps bh s St k m q) {x : Port} (hx : x ∈ q.side bh) {v : bF} (ih : ∀ u ∈ v.m, ∀ j m', St j m' → tc ps bh s n j m' u) (H : Hp) :
  (v.ok s x.f = true → ∃ c H', gM (fE ps bh n) x v H = .ok (c, H') ∧ H.more H' ∧ gP ps bh n H.next H' [c] [v]) ∧ (v.ok s x.f = false → gM (fE ps bh n) x v H = .error ()) := by
 obtain ⟨p1, p2⟩ := P.part x hx
 unfold gM
 by_cases ht : x.f.ty = 15
 ·obtain ⟨j, m', e1, e2, e3⟩ := p1 ht
  have hnp : ¬ x.part < 0 := by omega
  rw [if_neg hnp, Dh ht, e1]
  have hnm := za e2
  constructor
  ·intro h
   simp only [Bool.and_eq_true, decide_eq_true_eq, beq_iff_eq] at h
   obtain ⟨⟨h1, h2⟩, h3⟩ := h
   obtain ⟨u, hu⟩ : ∃ u, v.m = [u] := by
    cases hm : v.m with
    | nil => rw [hm] at h3; simp [fW] at h3
    | cons u l => cases l with
     | nil => exact ⟨u, rfl⟩
     | cons w l => rw [hm] at h3; simp [fW] at h3
   rw [hu] at h3
   have h3 : u.ok s x.f.ref = true := by simpa [fW] using h3
   rw [if_pos ⟨h1, h2, by rw [hu]; rfl⟩, hu]
   obtain ⟨f, H', q1, q2⟩ := (ih u (by rw [hu]; exact List.mem_singleton.2 rfl) j m' e3 H).1 (by rw [hnm]; exact h3)
   show ∃ c H', (match fE ps bh n (j : Int) u H with | .ok p => Except.ok (cT.mk 0 [] (some p.1), p.2) | .error u => .error u) = .ok (c, H') ∧ _
   rw [q1]
   have hv : v = .mk 0 [] [u] := bF.ext h1 h2 hu
   refine ⟨_, H', rfl, q2.more, fun c hc g hg => ?_, ?_, ?_, ?_⟩
   ·cases List.mem_singleton.1 hc
    cases hg
    exact ⟨q2.lies, q2.good⟩
   ·show [bF.mk 0 [] [mr ps bh n f]] = [v]
    rw [q2.tree, hv]
   ·rw [ck, ck, cT.iZ, cx, cx, bF.iZ, hu, dF, dF]
    show f.ms + 0 = u.ms + 0 + 0
    rw [q2.ms]
   ·rw [cj, cj, cT.iY, cu, cu, bF.iY, hu, dE, dE]
    show f.vs + 0 = u.vs + 0 + 0
    rw [q2.vn]
  ·intro h
   by_cases hc : v.n = 0 ∧ v.s = [] ∧ v.m.length = 1
   ·rw [if_pos hc]
    obtain ⟨h1, h2, h3⟩ := hc
    obtain ⟨u, hu⟩ : ∃ u, v.m = [u] := by
     cases hm : v.m with
     | nil => rw [hm] at h3; simp at h3
     | cons u l => cases l with
      | nil => exact ⟨u, rfl⟩
      | cons w l => rw [hm] at h3; simp at h3
    rw [hu] at h
    have h3 : u.ok s x.f.ref = false := by simpa [fW, h1, h2] using h
    rw [hu]
    have := (ih u (by rw [hu]; exact List.mem_singleton.2 rfl) j m' e3 H).2 (by rw [hnm]; exact h3)
    show (match fE ps bh n (j : Int) u H with | .ok p => Except.ok (cT.mk 0 [] (some p.1), p.2) | .error u => .error u) = .error ()
    rw [this]
   ·rw [if_neg hc]
 ·have hp := p2 ht
  rw [if_pos (by omega), Bq (s := rV) (r := s) ht]
  constructor
  ·intro h
   rw [if_pos h]
   have hm := wY ht h
   refine ⟨_, H, rfl, Hp.more.refl H, fun c hc g hg => ?_, ?_, ?_, ?_⟩
   ·cases List.mem_singleton.1 hc; cases hg
   ·show [bF.mk v.n v.s []] = [v]
    congr 1
    exact bF.ext rfl rfl hm.symm
   ·rw [ck, ck, cT.iZ, cx, cx, bF.iZ, hm, dF]; rfl
   ·rw [cj, cj, cT.iY, cu, cu, bF.iY, hm, dE]; rfl
  ·intro h
   rw [h]; rfl
theorem tN (P : fw ps bh s St k m q) {x : Port} (hx : x ∈ q.side bh) : ∀ (l : List bF) (ih : ∀ v ∈ l, ∀ u ∈ v.m, ∀ j m', St j m' → tc ps bh s n j m' u) (H : Hp),
  ((jK s x.f l = true ∧ ∀ v ∈ l, (x.f.hidden && decide (v.n = 0) && v.s == []) = false) → ∃ cs H', dK (fE ps bh n) x l H = .ok (cs, H') ∧ H.more H' ∧ gP ps bh n H.next H' cs l) ∧
  ((jK s x.f l = false ∨ ∃ v ∈ l, (x.f.hidden && decide (v.n = 0) && v.s == []) = true) → dK (fE ps bh n) x l H = .error ())
 | [], ih, H => ⟨fun _ => ⟨[], H, rfl, Hp.more.refl H, gP.nil⟩, fun h => by
   rcases h with h | ⟨v, hv, _⟩
   ·simp [jK] at h
   ·cases hv⟩
 | v :: l, ih, H => by
  obtain ⟨c1, c2⟩ := D1 P hx (ih v (List.mem_cons_self ..)) H
  unfold dK
  constructor
  ·rintro ⟨h1, h2⟩
   rw [jK, Bool.and_eq_true] at h1
   obtain ⟨c, H1, q1, q2, q3⟩ := c1 h1.1
   obtain ⟨r1, _⟩ := tN P hx l (fun w hw => ih w (List.mem_cons_of_mem _ hw)) H1
   obtain ⟨cs, H2, s1, s2, s3⟩ := r1 ⟨h1.2, fun w hw => h2 w (List.mem_cons_of_mem _ hw)⟩
   rw [q1]
   dsimp only
   rw [h2 v (List.mem_cons_self ..), s1]
   refine ⟨c :: cs, H2, rfl, q2.trans s2, gP.cons (q3.move (Nat.le_refl _) s2.1 fun i _ hi => s2.2 i hi) (s3.move q2.1 (Nat.le_refl _) fun _ _ _ => rfl)⟩
  ·intro h
   cases e : v.ok s x.f with
   | false => rw [c2 e]
   | true =>
    obtain ⟨c, H1, q1, q2, q3⟩ := c1 e
    rw [q1]
    dsimp only
    cases e2 : (x.f.hidden && decide (v.n = 0) && v.s == []) with
    | true => rfl
    | false =>
     simp only [Bool.false_eq_true, if_false]
     obtain ⟨_, r2⟩ := tN P hx l (fun w hw => ih w (List.mem_cons_of_mem _ hw)) H1
     rw [r2]
     rcases h with h | ⟨w, hw, h⟩
     ·rw [jK, e, Bool.true_and] at h; exact .inl h
     ·rcases List.mem_cons.1 hw with rfl | hw
      ·rw [e2] at h; cases h
      ·exact .inr ⟨w, hw, h⟩
theorem AK (P : fw ps bh s St k m q) {y : Slot} {x : Port} (hx : (q.side bh).find? (fO y.num) = some x) (ih : ∀ v ∈ y.ag, ∀ u ∈ v.m, ∀ j m', St j m' → tc ps bh s n j m' u) (H : Hp) :
  (y.ok s m = true → ∃ cs H', dB (fE ps bh n) x y.ag H = .ok (cs, H') ∧ H.more H' ∧ gP ps bh n H.next H' cs y.ag ∧ y.ag ≠ []) ∧ (y.ok s m = false → dB (fE ps bh n) x y.ag H = .error ()) := by
 have hxm := List.mem_of_find?_eq_some hx
 obtain ⟨g1, g2⟩ := tN P hxm y.ag ih H
 have hfix : m.fix y.num = some x.f := by rw [P.find, hx]; rfl
 rw [Slot.ok_eq, hfix]
 dsimp only
 unfold dB
 have hhid : ∀ (hl : y.ag.length = 1), (!x.f.hidden || (!decide ((y.ag.head?.map bF.n).getD 0 = 0) || !((y.ag.head?.map bF.s).getD [] == []))) = true ↔ ∀ v ∈ y.ag, (x.f.hidden && decide (v.n = 0) && v.s == []) = false := by
  intro hl
  cases hv : y.ag with
  | nil => rw [hv] at hl; simp at hl
  | cons v l =>
   cases l with
   | cons w l => rw [hv] at hl; simp at hl
   | nil =>
    have e : decide (v.n = 0) = true ↔ v.n = 0 := decide_eq_true_iff
    cases x.f.hidden
    ·simp
    ·by_cases h1 : v.n = 0 <;> by_cases h2 : v.s = [] <;> simp [h1, h2]
 have hidr : x.f.hidden = true → x.f.rep = false := by unfold ae.hidden; cases x.f.rep <;> simp
 constructor
 ·intro h
  simp only [Bool.and_eq_true, decide_eq_true_eq] at h
  obtain ⟨⟨⟨h1, h2⟩, h3⟩, h4⟩ := h
  have hne : ¬ (y.ag.length = 0 ∨ (x.f.rep = false ∧ 1 < y.ag.length)) := by
   rintro (h | ⟨h, h'⟩)
   ·omega
   ·rw [h] at h2; simp at h2; omega
  rw [if_neg hne]
  obtain ⟨cs, H', a1, a2, a3⟩ := g1 ⟨h3, by
   cases hr : x.f.rep with
   | true =>
    intro v hv
    have : x.f.hidden = false := by cases e : x.f.hidden with | false => rfl | true => rw [hidr e] at hr; cases hr
    rw [this]; rfl
   | false => exact (hhid (by rw [hr] at h2; simpa using h2)).1 h4⟩
  exact ⟨cs, H', a1, a2, a3, fun e => by rw [e] at h1; simp at h1⟩
 ·intro h
  by_cases hc : y.ag.length = 0 ∨ (x.f.rep = false ∧ 1 < y.ag.length)
  ·rw [if_pos hc]
  ·rw [if_neg hc]
   apply g2
   have hl0 : 0 < y.ag.length := by omega
   have hr : (x.f.rep || decide (y.ag.length = 1)) = true := by
    cases e : x.f.rep with
    | true => rfl
    | false => simp; have : ¬ 1 < y.ag.length := fun h' => hc (.inr ⟨e, h'⟩); omega
   rw [decide_eq_true hl0, hr, Bool.true_and, Bool.true_and, Bool.and_eq_false_iff] at h
   rcases h with h | h
   ·exact .inl h
   ·right
    have hh : x.f.hidden = true := by cases e : x.f.hidden with | true => rfl | false => rw [e] at h; simp at h
    have hl1 : y.ag.length = 1 := by rw [hidr hh] at hr; simpa using hr
    apply Classical.byContradiction
    intro hno
    have := (hhid hl1).2 fun v hv => by
     cases e : (x.f.hidden && decide (v.n = 0) && v.s == []) with
     | false => rfl
     | true => exact absurd ⟨v, hv, e⟩ hno
    rw [this] at h; cases h
end
theorem xv {α β : Type} {f g : α → Option β} : ∀ {l : List α}, (∀ x ∈ l, f x = g x) → l.filterMap f = l.filterMap g
 | [], _ => rfl
 | a :: l, h => by rw [List.filterMap_cons, List.filterMap_cons, h a (List.mem_cons_self ..), xv fun x hx => h x (List.mem_cons_of_mem _ hx)]
def gV (l : List Slot) (num : Int) : List bF := ((l.find? fun x => decide (x.num = num)).map Slot.ag).getD []
theorem pD {l : List Slot} {num : Int} (h : ∀ x ∈ l, x.num ≠ num) : gV l num = [] := by
 unfold gV
 rw [List.find?_eq_none.2 fun x hx => by simpa using h x hx]; rfl
theorem wX {l : List Slot} {y : Slot} {num : Int} (h : ∀ x ∈ l, x.num ≠ y.num) : gV (l ++ [y]) num = if num = y.num then y.ag else gV l num := by
 unfold gV
 rw [List.find?_append]
 by_cases e : num = y.num
 ·rw [if_pos e, e, List.find?_eq_none.2 fun x hx => by simpa using h x hx]
  simp
 ·rw [if_neg e]
  have : ¬ y.num = num := fun q => e q.symm
  cases hf : l.find? (fun x => decide (x.num = num)) with
  | none => simp [this]
  | some z => simp
theorem nI {l : List Slot} (h : dP Slot.num l) {y : Slot} (hy : y ∈ l) : gV l y.num = y.ag := by
 unfold gV
 cases e : l.find? (fun x => decide (x.num = y.num)) with
 | none =>
  have := List.find?_eq_none.1 e y hy
  simp at this
 | some z =>
  have h1 := List.mem_of_find?_eq_some e
  have h2 : z.num = y.num := by simpa using List.find?_some e
  have : z = y := by
   obtain ⟨i, hi, rfl⟩ := List.mem_iff_getElem.1 h1
   obtain ⟨j, hj, rfl⟩ := List.mem_iff_getElem.1 hy
   rcases Nat.lt_trichotomy i j with h' | h' | h'
   ·have := List.pairwise_iff_getElem.1 h i j hi hj h'; omega
   ·subst h'; rfl
   ·have := List.pairwise_iff_getElem.1 h j i hj hi h'; omega
  subst this; rfl
theorem rZ : ∀ (g : List (List cT)) (i : Nat) (c : List cT), i < g.length → g.getD i [] = [] → cc (g.set i c) = cc g + ck c
 | a :: g, 0, c, _, h => by
  have : a = [] := h
  subst this
  rw [List.set_cons_zero, cc, cc, ck]; omega
 | a :: g, i + 1, c, hi, h => by
  have := rZ g i c (by simpa using hi) h
  rw [List.set_cons_succ, cc, cc, this]; omega
theorem rW : ∀ (g : List (List cT)) (i : Nat) (c : List cT), i < g.length → g.getD i [] = [] → cb (g.set i c) = cb g + c.length + cj c
 | a :: g, 0, c, _, h => by
  have : a = [] := h
  subst this
  rw [List.set_cons_zero, cb, cb, cj]; simp; omega
 | a :: g, i + 1, c, hi, h => by
  have := rW g i c (by simpa using hi) h
  rw [List.set_cons_succ, cb, cb, this]; omega
theorem qN : ∀ n, cc (List.replicate n []) = 0
 | 0 => rfl
 | n + 1 => by rw [List.replicate_succ, cc, ck, qN n]
theorem qM : ∀ n, cb (List.replicate n []) = 0
 | 0 => rfl
 | n + 1 => by rw [List.replicate_succ, cb, cj, qM n]; rfl
theorem GD {α : Type} {l : List α} {i j : Nat} {a d : α} (hi : i < l.length) : (l.set i a).getD j d = if j = i then a else l.getD j d := by
 rw [List.getD_eq_getElem?_getD, List.getElem?_set]
 by_cases h : i = j
 ·subst h; rw [if_pos rfl, if_pos hi, if_pos rfl]; rfl
 ·rw [if_neg h, if_neg (fun q => h q.symm), ← List.getD_eq_getElem?_getD]
section
variable {ps : List aQ} {bh : Bool} {s : aL} {St : Nat → aU → Prop} {k : Nat} {m : aU} {q : aQ} {n : Nat}
structure px (ps : List aQ) (bh : Bool) (n : Nat) (q : aQ) (m : aU) (H0 : Hp) (ob : List Hc) (ds : List Slot) (ones : List aw) (last : Option Int) (aE : List (List cT)) (H : Hp) : Prop where
 len : aE.length = q.aE.toNat
 row : ∀ x ∈ q.side bh, (aE.getD x.reg.toNat []).map (nC (mr ps bh n)) = gV ds x.f.num
 sub : ∀ l ∈ aE, l.length ≤ 1000 ∧ ∀ c ∈ l, ∀ g, c.f = some g → yY ps bh n (H0.next + 2) H g
 o1 : H.obj (H0.next + 1) = some ob
 o2 : H.obj H0.next = some (dt aE)
 nx : H0.next + 2 ≤ H.next
 more : H0.more H
 ms : cc aE = cp ds
 vn : cb aE = cn ds
 has : ∀ y ∈ ds, y.ag ≠ [] ∧ ∃ x ∈ q.side bh, x.f.num = y.num
 rise : dP Slot.num ds
 top : ∀ y ∈ ds, ∃ z, last = some z ∧ y.num ≤ z
 ones : ones = ds.map m.oneOf
theorem fw.oneOf (P : fw ps bh s St k m q) {y : Slot} {x : Port} (hx : (q.side bh).find? (fO y.num) = some x) : m.oneOf y = x.f.one := by
 unfold aU.oneOf
 rw [P.find, hx]; rfl
theorem px.alone {H0 H : Hp} {ob : List Hc} {ds : List Slot} {ones : List aw} {last : Option Int} {aE : List (List cT)} (I : px ps bh n q m H0 ob ds ones last aE H) (P : fw ps bh s St k m q) {x : Port} (hx : x ∈ q.side bh) :
  kN aE (q.side bh) x = gJ ones x.f.one := by
 unfold kN gJ
 cases e1 : (x.f.one == []) with
 | true => simp
 | false =>
  simp only [Bool.not_false, Bool.true_and, Bool.false_or]
  refine congrArg not ?_
  rw [Bool.eq_iff_iff, List.any_eq_true, List.any_eq_true]
  have bw : ∀ y ∈ q.side bh, (0 < (aE.getD y.reg.toNat []).length ↔ ∃ z ∈ ds, z.num = y.f.num) := fun y hy => by
   have hr := congrArg List.length (I.row y hy)
   rw [List.length_map] at hr
   rw [hr]
   constructor
   ·intro h
    apply Classical.byContradiction
    intro hno
    rw [pD fun z hz e => hno ⟨z, hz, e⟩] at h
    simp at h
   ·rintro ⟨z, hz, e⟩
    rw [← e, nI I.rise hz]
    exact List.length_pos_iff.2 (I.has z hz).1
  constructor
  ·rintro ⟨y, hy, h⟩
   simp only [Bool.and_eq_true, decide_eq_true_eq, beq_iff_eq] at h
   obtain ⟨z, hz, e⟩ := (bw y hy).1 h.2
   refine ⟨m.oneOf z, by rw [I.ones]; exact List.mem_map_of_mem hz, ?_⟩
   have := P.B1 hy
   rw [← e] at this
   rw [P.oneOf this, beq_iff_eq]; exact h.1
  ·rintro ⟨o, ho, h⟩
   rw [I.ones] at ho
   obtain ⟨z, hz, rfl⟩ := List.mem_map.1 ho
   obtain ⟨_, y, hy, e⟩ := I.has z hz
   have := P.B1 hy
   rw [e] at this
   rw [P.oneOf this, beq_iff_eq] at h
   refine ⟨y, hy, ?_⟩
   simp only [Bool.and_eq_true, decide_eq_true_eq, beq_iff_eq]
   exact ⟨h, (bw y hy).2 ⟨z, hz, e.symm⟩⟩
def mH (last : Option Int) (n : Int) : Bool := match last with | none => false | some z => decide (z ≥ n)
theorem zc (last : Option Int) (n : Int) : (match last with | none => true | some z => decide (z < n)) = !mH last n := by
 cases last with
 | none => rfl
 | some z => unfold mH; dsimp only; rw [Bool.eq_iff_iff]; simp
theorem FP {y : Slot} {l : List Slot} {last : Option Int} {ones : List aw} : dW s m (y :: l) last ones = (!mH last y.num && y.ok s m && gJ ones (m.oneOf y) && dW s m l (some y.num) (ones ++ [m.oneOf y])) := by
 rw [← zc]
 conv => lhs; unfold dW
 rfl
theorem GC {F : qk} {last : Option Int} {y : Slot} {l : List Slot} {rid : Nat} {bX : List Port} {aE : List (List cT)} {K : Hp} : cX F bX rid last (y :: l) aE K = match bX.find? (fO y.num) with
  | none => .error ()
  | some p => if mH last y.num || !kN aE bX p then .error () else match dB F p y.ag K with
   | .error u => .error u
   | .ok c => cX F bX rid (some y.num) l (aE.set p.reg.toNat c.1) (c.2.set rid (dt (aE.set p.reg.toNat c.1))) := by
 conv => lhs; unfold cX
 rfl
theorem rR (P : fw ps bh s St k m q) {H0 : Hp} {ob : List Hc} : ∀ (l ds : List Slot) (ones : List aw) (last : Option Int) (aE : List (List cT)) (H : Hp), px ps bh n q m H0 ob ds ones last aE H →
  (∀ x ∈ l, x.ag.length ≤ 1000 ∧ ∀ v ∈ x.ag, ∀ u ∈ v.m, ∀ j m', St j m' → tc ps bh s n j m' u) →
  (dW s m l last ones = true → ∃ ones' last' regs' H', cX (fE ps bh n) (q.side bh) H0.next last l aE H = .ok (regs', H') ∧ px ps bh n q m H0 ob (ds ++ l) ones' last' regs' H') ∧
  (dW s m l last ones = false → cX (fE ps bh n) (q.side bh) H0.next last l aE H = .error ())
 | [], ds, ones, last, aE, H, I, hl => ⟨fun _ => ⟨ones, last, aE, H, rfl, by rw [List.append_nil]; exact I⟩, fun h => by simp [dW] at h⟩
 | y :: l, ds, ones, last, aE, H, I, hl => by
  rw [GC, FP]
  cases hx : (q.side bh).find? (fO y.num) with
  | none =>
   have : y.ok s m = false := by rw [Slot.ok_eq, P.find, hx]; rfl
   exact ⟨fun h => by rw [this] at h; simp at h, fun _ => rfl⟩
  | some x =>
   have hxm := List.mem_of_find?_eq_some hx
   have hxn : x.f.num = y.num := by have := List.find?_some hx; simpa [fO] using this
   dsimp only
   rw [I.alone P hxm, P.oneOf hx]
   generalize hL : mH last y.num = L
   obtain ⟨hvl, hih⟩ := hl y (List.mem_cons_self ..)
   obtain ⟨c1, c2⟩ := AK (n := n) P hx hih H
   cases L with
   | true => exact ⟨fun h => by simp at h, fun _ => rfl⟩
   | false =>
    cases hn : gJ ones x.f.one with
    | false => exact ⟨fun h => by simp at h, fun _ => rfl⟩
    | true =>
     simp only [Bool.not_true, Bool.or_false, Bool.false_eq_true, if_false, Bool.not_false, Bool.true_and, Bool.and_true]
     cases hy : y.ok s m with
     | false =>
      rw [c2 hy]
      exact ⟨fun h => by simp at h, fun _ => rfl⟩
     | true =>
      obtain ⟨cs, H1, q1, q2, q3, q4⟩ := c1 hy
      rw [q1]
      dsimp only
      have hreg := P.reg x hxm
      have hrl : x.reg.toNat < aE.length := by rw [I.len]; omega
      have hnot : ∀ z ∈ ds, z.num ≠ y.num := fun z hz e => by
       obtain ⟨w, hw, hle⟩ := I.top z hz
       rw [hw] at hL
       simp [mH] at hL
       omega
      have hrow0 : aE.getD x.reg.toNat [] = [] := by
       have := I.row x hxm
       rw [hxn, pD hnot] at this
       exact List.map_eq_nil_iff.1 this
      have hnx := I.nx
      have hset : ∀ i, i ≠ H0.next → (H1.set H0.next (dt (aE.set x.reg.toNat cs))).obj i = H1.obj i := fun i hi => Hp.oF hi
      have I' : px ps bh n q m H0 ob (ds ++ [y]) (ones ++ [x.f.one]) (some y.num) (aE.set x.reg.toNat cs) (H1.set H0.next (dt (aE.set x.reg.toNat cs))) := by
       refine ⟨by rw [List.length_set]; exact I.len, fun z hz => ?_, fun row bw => ?_, ?_, Hp.bN, ?_, ?_, ?_, ?_, fun z hz => ?_, ?_, fun z hz => ?_, ?_⟩
       ·rw [GD hrl, wX hnot]
        by_cases e : z.reg.toNat = x.reg.toNat
        ·have hzr := P.reg z hz
         have : z = x := P.Kn hz hxm (by omega)
         subst this
         rw [if_pos rfl, if_pos hxn]; exact q3.val
        ·rw [if_neg e]
         have hne : ¬ z.f.num = y.num := fun h => by
          have : z = x := P.inj hz hxm (h.trans hxn.symm)
          subst this; exact e rfl
         rw [if_neg hne]; exact I.row z hz
       ·rcases List.mem_or_eq_of_mem_set bw with h | h
        ·obtain ⟨h1, h2⟩ := I.sub row h
         exact ⟨h1, fun c hc g hg => (h2 c hc g hg).move (Nat.le_refl _) q2.1 fun i hi hi2 => by rw [hset i (by omega)]; exact q2.2 i hi2⟩
        ·subst h
         refine ⟨?_, fun c hc g hg => (q3.sub c hc g hg).move (by omega) (Nat.le_refl _) fun i hi hi2 => hset i (by omega)⟩
         have := congrArg List.length q3.val
         rw [List.length_map] at this; omega
       ·rw [hset _ (by omega), q2.2 _ (by omega)]; exact I.o1
       ·show H0.next + 2 ≤ H1.next
        exact Nat.le_trans hnx q2.1
       ·exact (I.more.trans q2).set (Nat.le_refl _) _
       ·rw [rZ _ _ _ hrl hrow0, I.ms, lx, q3.ms, cp, cp, Slot.iZ]; omega
       ·have hcl : cs.length = y.ag.length := by have := congrArg List.length q3.val; rwa [List.length_map] at this
        rw [rW _ _ _ hrl hrow0, I.vn, lv, q3.vn, cn, cn, Slot.iY]; omega
       ·rcases List.mem_append.1 hz with h | h
        ·exact I.has z h
        ·cases List.mem_singleton.1 h
         exact ⟨q4, x, hxm, hxn⟩
       ·refine List.pairwise_append.2 ⟨I.rise, List.pairwise_singleton _ _, fun a ha b hb => ?_⟩
        cases List.mem_singleton.1 hb
        obtain ⟨w, hw, hle⟩ := I.top a ha
        rw [hw] at hL
        simp [mH] at hL
        omega
       ·rcases List.mem_append.1 hz with h | h
        ·obtain ⟨w, hw, hle⟩ := I.top z h
         rw [hw] at hL
         simp [mH] at hL
         exact ⟨y.num, rfl, by omega⟩
        ·cases List.mem_singleton.1 h
         exact ⟨y.num, rfl, Int.le_refl _⟩
       ·rw [I.ones, List.map_append]
        congr 1
        show [x.f.one] = [m.oneOf y]
        rw [P.oneOf hx]
      obtain ⟨r1, r2⟩ := rR P l (ds ++ [y]) _ _ _ _ I' fun z hz => hl z (List.mem_cons_of_mem _ hz)
      refine ⟨fun h => ?_, fun h => r2 h⟩
      obtain ⟨ones', last', regs', H', s1, s2⟩ := r1 h
      exact ⟨ones', last', regs', H', s1, by rw [List.append_assoc] at s2; exact s2⟩
theorem yk (P : fw ps bh s St k m q) {ss : List Slot} (hr : dP Slot.num ss) (hh : ∀ y ∈ ss, y.ag ≠ [] ∧ ∃ x ∈ q.side bh, x.f.num = y.num) :
  ((q.side bh).filterMap fun x => if gV ss x.f.num = [] then none else some (Slot.mk x.f.num (gV ss x.f.num))) = ss := by
 refine dP.unique (k := Slot.num) ?_ hr ?_
 ·refine List.Pairwise.filterMap _ (fun a b hab c hc d hd => ?_) P.rise
  simp only at hab hc hd
  split at hc
  ·cases hc
  split at hd
  ·cases hd
  cases hc; cases hd
  exact hab
 ·refine (List.perm_ext_iff_of_nodup ?_ ?_).2 fun y => ?_
  ·refine List.Pairwise.filterMap _ (fun a b hab c hc d hd => ?_) P.rise
   simp only at hab hc hd
   split at hc
   ·cases hc
   split at hd
   ·cases hd
   cases hc; cases hd
   intro e
   injection e with e1 e2
   omega
  ·exact hr.imp fun {a b} h e => by subst e; exact absurd h (Int.lt_irrefl _)
  ·rw [List.mem_filterMap]
   constructor
   ·rintro ⟨x, hx, e⟩
    split at e
    ·cases e
    ·rename_i hne
     cases e
     obtain ⟨z, hz, ez⟩ : ∃ z ∈ ss, z.num = x.f.num := by
      apply Classical.byContradiction
      intro hno
      exact hne (pD fun z hz e => hno ⟨z, hz, e⟩)
     rw [← ez, nI hr hz]
     cases z; exact hz
   ·intro hy
    obtain ⟨h1, x, hx, e⟩ := hh y hy
    refine ⟨x, hx, ?_⟩
    rw [e, nI hr hy, if_neg h1]
    cases y; rfl
theorem EN (P : fw ps bh s St k m q) (r : Rw) : kV (q.side bh) r = dZ m r := by
 unfold kV dZ
 rw [P.find]
 cases (q.side bh).find? (fO r.num) <;> simp
theorem eN.fP {St : Nat → aU → Prop} (S : eN ps bh s St) (hs : s.lN) {k : Nat} {m : aU} (h : St k m) : s.fP m.name = some m := by
 have hm := S.mem k m h
 unfold aL.fP
 cases e : s.msgs.find? (fun x => x.name == m.name) with
 | none =>
  have := List.find?_eq_none.1 e m hm
  simp at this
 | some y =>
  have h1 := List.mem_of_find?_eq_some e
  have h2 : y.name = m.name := by simpa using List.find?_some e
  obtain ⟨i, hi⟩ := List.mem_iff_getElem?.1 h1
  obtain ⟨j, hj⟩ := List.mem_iff_getElem?.1 hm
  have := jG hs hi hj h2
  subst this
  rw [hi] at hj; cases hj; rfl
theorem u4 {St : Nat → aU → Prop} (S : eN ps bh s St) (hs : s.lN) (hP : gO ps) : ∀ (n : Nat) (t : Tree), SizeOf.sizeOf t < n → t.lean → ∀ k m, St k m → tc ps bh s n k m t
 | 0, t, h, _, _, _, _ => by omega
 | n + 1, t, h, hl, k, m, hSt => by
  intro H
  obtain ⟨q, P⟩ := S.NN hs hSt
  have hq := List.mem_of_getElem? P.at_
  have hqr := hP.aE q hq
  have hat := S.fP hs hSt
  have e1 : t.ok s m.name = (dW s m t.aO none [] && t.rest.all (dZ m)) := by
   rw [Tree.ok_eq, hat]
  have hI : px ps bh n q m H (tH q k bh H).x8 [] [] none (List.replicate q.aE.toNat []) (en q k bh H) := by
   have hA := uh q k bh H (by omega)
   refine ⟨List.length_replicate, fun x hx => ?_, fun l hl => ?_, hA.o1, hA.o2, Nat.le_refl _, ((Hp.more.refl H).new _).new _, ?_, ?_, fun y hy => (List.not_mem_nil hy).elim, List.Pairwise.nil, fun y hy => (List.not_mem_nil hy).elim, rfl⟩
   ·have : (List.replicate q.aE.toNat ([] : List cT)).getD x.reg.toNat [] = [] := by
     rw [List.getD_eq_getElem?_getD, List.getElem?_replicate]
     split <;> rfl
    rw [this]; rfl
   ·rw [List.eq_of_mem_replicate hl]
    exact ⟨by simp, fun c hc => by cases hc⟩
   ·rw [qN]; rfl
   ·rw [qM]; rfl
  obtain ⟨r1, r2⟩ := rR P t.aO [] [] none _ _ hI fun x hx => ⟨hl.here.v x hx, fun v hv u hu j m' hj => u4 S hs hP n u (by have := Tree.sub_lt hu hv hx; omega) (hl.sub hu hv hx) j m' hj⟩
  have hfr : fE ps bh (n + 1) k t H = match cX (fE ps bh n) (q.side bh) H.next none t.aO (List.replicate q.aE.toNat []) (en q k bh H) with
    | .error u => .error u
    | .ok r => if t.rest.all (kV (q.side bh)) then .ok (.mk H.next k r.1 t.rest (!bh), r.2.set (H.next + 1) (kJ (k : Int) q.aE H.next t.rest bh)) else .error () := by
   show iW (fE ps bh n) ps bh (k : Int) t H = _
   unfold iW
   simp only [Int.toNat_natCast, P.get] <;> rfl
  have hrest : t.rest.all (kV (q.side bh)) = t.rest.all (dZ m) := by
   congr 1; funext r; exact EN P r
  rw [hfr, hrest, e1]
  constructor
  ·intro h2
   rw [Bool.and_eq_true] at h2
   obtain ⟨ones', last', regs', H', s1, I⟩ := r1 h2.1
   rw [List.nil_append] at I
   rw [s1]
   dsimp only
   rw [if_pos h2.2]
   refine ⟨_, _, rfl, ?_⟩
   have hnx := I.nx
   have hset : ∀ i, i ≠ H.next + 1 → (H'.set (H.next + 1) (kJ (k : Int) q.aE H.next t.rest bh)).obj i = H'.obj i := fun i hi => Hp.oF hi
   have hobj : (Fm.mk H.next k regs' t.rest (!bh)).x8 = kJ (k : Int) q.aE H.next t.rest bh := by
    show [Hc.v (.int .i64 (k : Int)), .v (.os H.next regs'.length 1), _, _] = _
    rw [I.len]; rfl
   refine ⟨I.more.set (Nat.le_succ _) _, .mk _ ⟨Nat.le_refl _, ?_⟩ ?_ ?_ ⟨?_, fun l hl' => ?_⟩ fun l hl' c hc g hg => ?_, .mk n _ q P.at_ ?_ ?_ (fun x hx => ?_) ?_ (fun l hl' => ?_) fun l hl' c hc g hg => ?_, ?_, ?_, ?_, rfl, rfl, rfl⟩
   ·show H.next + 1 < H'.next; omega
   ·rw [hobj]; exact Hp.bN
   ·show (H'.set (H.next + 1) _).obj H.next = _
    rw [hset _ (by omega)]; exact I.o2
   ·show regs'.length ≤ _
    rw [I.len]; omega
   ·have := (I.sub l hl').1; omega
   ·exact ((I.sub l hl').2 c hc g hg).lies.move (by omega) (Nat.le_refl _) fun i hi hi2 => hset i (by omega)
   ·have := hP.sides q hq
    unfold aQ.side; split <;> omega
   ·have := hP.sides q hq
    omega
   ·show 0 ≤ x.reg ∧ x.reg < (regs'.length : Int)
    have := P.reg x hx
    rw [I.len]; omega
   ·have := hl.here.r
    show t.rest.length ≤ _; omega
   ·have := (I.sub l hl').1; omega
   ·exact ((I.sub l hl').2 c hc g hg).good
   ·show mr ps bh (n + 1) (Fm.mk H.next k regs' t.rest (!bh)) = t
    rw [mr]
    have eg : ps.getD (Fm.mk H.next k regs' t.rest (!bh)).part bS = q := P.get
    rw [eg, EH P.rise]
    refine Tree.ext ?_ rfl
    have := yk P I.rise I.has
    refine Eq.trans ?_ this
    show (List.filterMap _ _) = _
    refine xv fun x hx => ?_
    have bw : ((Fm.mk H.next k regs' t.rest (!bh)).row x.reg).map (nC (mr ps bh n)) = gV t.aO x.f.num := I.row x hx
    unfold mu
    rw [bw]
    have : ((Fm.mk H.next k regs' t.rest (!bh)).row x.reg = []) ↔ (gV t.aO x.f.num = []) := by
     rw [← bw]; exact List.map_eq_nil_iff.symm
    by_cases e : gV t.aO x.f.num = []
    ·rw [if_pos e, if_pos (this.2 e)]
    ·rw [if_neg e, if_neg (fun h => e (this.1 h))]
   ·rw [Fm.iZ, Tree.iZ]
    show 1 + cc regs' = _
    rw [I.ms]
   ·rw [Fm.iY, Tree.iY]
    show cb regs' = _
    rw [I.vn]
  ·intro h2
   rw [Bool.and_eq_false_iff] at h2
   cases e3 : dW s m t.aO none [] with
   | false => rw [r2 e3]
   | true =>
    obtain ⟨ones', last', regs', H', s1, I⟩ := r1 e3
    rw [s1]
    dsimp only
    rcases h2 with h2 | h2
    ·rw [e3] at h2; cases h2
    ·rw [h2]; rfl
end
theorem Hg : D9 Tryz.prog 81 = some [(0, 1), (1, 1), (2, 1)] := by kernel_rfl
theorem rI : ∀ (a b : List bF), cx (a ++ b) = cx a + cx b
 | [], b => by rw [cx]; simp
 | x :: a, b => by rw [List.cons_append, cx, cx, rI a b]; omega
theorem rG : ∀ (a b : List bF), cu (a ++ b) = cu a + cu b
 | [], b => by rw [cu]; simp
 | x :: a, b => by rw [List.cons_append, cu, cu, rG a b]; omega
theorem qE : ∀ (a b : List Tree), dF (a ++ b) = dF a + dF b
 | [], b => by rw [dF]; simp
 | x :: a, b => by rw [List.cons_append, dF, dF, qE a b]; omega
theorem qD : ∀ (a b : List Tree), dE (a ++ b) = dE a + dE b
 | [], b => by rw [dE]; simp
 | x :: a, b => by rw [List.cons_append, dE, dE, qD a b]; omega
theorem vN {g : List Slot} {i : Nat} (hi : i < g.length) : cp (g.take (i + 1)) = cp (g.take i) + cx g[i].ag := by rw [dL hi, lx, cp, cp, Slot.iZ]; rfl
theorem vM {g : List Slot} {i : Nat} (hi : i < g.length) : cn (g.take (i + 1)) = cn (g.take i) + (g[i].ag.length + cu g[i].ag) := by rw [dL hi, lv, cn, cn, Slot.iY]; rfl
theorem wW {g : List bF} {i : Nat} (hi : i < g.length) : cx (g.take (i + 1)) = cx (g.take i) + dF g[i].m := by rw [dL hi, rI, cx, cx, bF.iZ]; rfl
theorem wV {g : List bF} {i : Nat} (hi : i < g.length) : cu (g.take (i + 1)) = cu (g.take i) + dE g[i].m := by rw [dL hi, rG, cu, cu, bF.iY]; rfl
theorem vA {g : List Tree} {i : Nat} (hi : i < g.length) : dF (g.take (i + 1)) = dF (g.take i) + g[i].ms := by rw [dL hi, qE, dF, dF]; rfl
theorem uz {g : List Tree} {i : Nat} (hi : i < g.length) : dE (g.take (i + 1)) = dE (g.take i) + g[i].vs := by rw [dL hi, qD, dE, dE]; rfl
def ns (t : Tree) : AV := .tup [.int .i64 (dc (t.ms : Int)), .int .i64 (dc (t.vs : Int))]
theorem ID (t : Tree) (hb : t.eK) (ih : ∀ x ∈ t.aO, ∀ v ∈ x.ag, ∀ u ∈ v.m, Pure Tryz.prog 11 [.agg u.cells] (ns u)) : Pure Tryz.prog 11 [.agg t.cells] (ns t) := by
 have hb1 := hb.here
 have hb0 := hb1.s
 refine Pure.go II mixed Tryz.func11 rfl rfl fun H => (aG.lq [.s 6, .s 4, .s 5, .h, .s 1, .b 1] (fun ((i, m, v) : Nat × Int × Int) => [(.s 6, .sv (.v (.int .i64 (i : Int)))), (.s 4, .sv (.v (.int .i64 m))), (.s 5, .sv (.v (.int .i64 v)))]) (fun ((i, m, v) : Nat × Int × Int) => m = dc (1 + cp (t.aO.take i)) ∧ v = dc (cn (t.aO.take i))) (fun ((i, m, v) : Nat × Int × Int) => t.aO.length - i) (0, 1, 0) rfl rfl ⟨(by rw [List.take_zero, cp]; rfl), (by rw [List.take_zero, cn]; rfl)⟩ ?_)
 rintro ⟨i, m, v⟩ hI
 dsimp only at hI
 refine aC (fun hc1 => ?_) (fun hc1 => ?_)
 ·have hi := cz hc1
  refine aB.ii rfl dU rfl rfl (dS Slot.bC hi) rfl (aG.lq [.s 7, .s 4, .s 5, .h, .s 1, .b 1, .s 6] (fun ((k, m, v) : Nat × Int × Int) => [(.s 7, .sv (.v (.int .i64 (k : Int)))), (.s 4, .sv (.v (.int .i64 m))), (.s 5, .sv (.v (.int .i64 v)))]) (fun ((k, m, v) : Nat × Int × Int) => m = dc (1 + cp (t.aO.take i) + cx ((t.aO[i]'hi).ag.take k)) ∧ v = dc (cn (t.aO.take i) + (t.aO[i]'hi).ag.length + cu ((t.aO[i]'hi).ag.take k))) (fun ((k, m, v) : Nat × Int × Int) => (t.aO[i]'hi).ag.length - k) (0, m, _) rfl rfl ⟨hI.1.trans (by simp [cx]), (by rw [hI.2]; simp only [List.length_map]; exact (Mx _ _).trans (by simp [cu]))⟩ ?_)
  rintro ⟨k, m, v⟩ hK
  dsimp only at hK
  have hb2 := hb1.v _ (List.getElem_mem hi)
  refine aB.ii rfl dU rfl rfl (dS Slot.bC hi) rfl (aC (fun hc2 => ?_) (fun hc2 => ?_))
  ·have hk := cz hc2
   refine aG.lq [.s 8, .s 4, .s 5, .h, .s 1, .b 1, .s 6, .s 7] (fun ((j, m, v) : Nat × Int × Int) => [(.s 8, .sv (.v (.int .i64 (j : Int)))), (.s 4, .sv (.v (.int .i64 m))), (.s 5, .sv (.v (.int .i64 v)))]) (fun ((j, m, v) : Nat × Int × Int) => m = dc (1 + cp (t.aO.take i) + cx ((t.aO[i]'hi).ag.take k) + dF (((t.aO[i]'hi).ag[k]'hk).m.take j)) ∧ v = dc (cn (t.aO.take i) + (t.aO[i]'hi).ag.length + cu ((t.aO[i]'hi).ag.take k) + dE (((t.aO[i]'hi).ag[k]'hk).m.take j))) (fun ((j, m, v) : Nat × Int × Int) => ((t.aO[i]'hi).ag[k]'hk).m.length - j) (0, m, v) rfl rfl ⟨hK.1.trans (by simp [dF]), hK.2.trans (by simp [dE])⟩ ?_
   rintro ⟨j, m, v⟩ hJ
   dsimp only at hJ
   have hb3 := hb1.m _ (List.getElem_mem hi) _ (List.getElem_mem hk)
   refine aB.ii rfl dU rfl rfl (dS Slot.bC hi) rfl (aB.ii rfl ek rfl rfl (dS bF.bC hk) rfl (aC (fun hc3 => ?_) (fun hc3 => ?_)))
   ·have hj := cz hc3
    exact aB.ii rfl dU rfl rfl (dS Slot.bC hi) rfl (aB.ii rfl ek rfl rfl (dS bF.bC hk) rfl (aB.ii rfl lQ rfl rfl (dS Tree.bC hj) rfl (aB.jc rfl (Fn rfl) rfl (ih _ (List.getElem_mem hi) _ (List.getElem_mem hk) _ (List.getElem_mem hj)) (.b1 8 rfl (inc (by omega)) rfl ⟨(j + 1, _, _), by dsimp only; omega, ⟨(by rw [hJ.1, vA hj]; exact (HT _ _).trans (congrArg dc (by omega))), (by rw [hJ.2, uz hj]; exact (HT _ _).trans (congrArg dc (by omega)))⟩, rfl⟩))))
   ·have hj := dA hc3
    exact .b1 7 rfl (inc (by omega)) rfl ⟨(k + 1, _, _), by dsimp only; omega, ⟨(by rw [hJ.1, wW hk, List.take_of_length_le hj]; exact congrArg dc (by omega)), (by rw [hJ.2, wV hk, List.take_of_length_le hj]; exact congrArg dc (by omega))⟩, rfl⟩
  ·have hk := dA hc2
   exact .b1 6 rfl (inc (by omega)) rfl ⟨(i + 1, _, _), by dsimp only; omega, ⟨(by rw [hK.1, vN hi, List.take_of_length_le hk]; exact congrArg dc (by omega)), (by rw [hK.2, vM hi, List.take_of_length_le hk]; exact congrArg dc (by omega))⟩, rfl⟩
 ·have hi := dA hc1
  exact ⟨.inr rfl, (aM.r2 rfl (.tmp rfl (.tmp rfl .nil))).cast (by rw [hI.1, hI.2, List.take_of_length_le hi]; unfold ns; rw [Tree.iZ, Tree.iY]; simp), rfl⟩
theorem EV (t : Tree) (hb : t.eK) : Pure Tryz.prog 11 [.agg t.cells] (ns t) :=
 Tree.ind (Q := fun t => t.eK → Pure Tryz.prog 11 [.agg t.cells] (ns t)) (fun t ih hb => ID t hb fun x hx v hv u hu => ih x hx v hv u hu (hb.sub hu hv hx)) t hb
structure Tree.my (t : Tree) : Prop where
 l : t.Fk
 m : ∀ x ∈ t.aO, ∀ v ∈ x.ag, v.m.length ≤ 1000
theorem OP : np Tryz.prog 81 = some [.int .u64 0, .str [], .nsl] := by kernel_rfl
theorem EI {α : Type} {f : α → AV} {g : List α} {a : List AV} {i : Nat} {y : AV} (hi : i < g.length) (ha : a = (g.take i).map f) (hy : y = f g[i]) : a ++ [y] = (g.take (i + 1)).map f := by
 rw [dL hi, List.map_append, ha, hy]; rfl
theorem IU (t : Tree) (hl : t.my) (ih : ∀ x ∈ t.aO, ∀ v ∈ x.ag, ∀ u ∈ v.m, Pure Tryz.prog 17 [.agg u.cells] (.agg u.cells)) : Pure Tryz.prog 17 [.agg t.cells] (.agg t.cells) := by
 have hl1 := hl.l.s
 have hl2 := hl.l.r
 have hl3 := hl.l.v
 refine Pure.gn 6 II mixed Tryz.func17 rfl rfl fun H => (aB.d2 rfl (bD («as» := []) (aH rfl) vQ AW rfl rfl rfl (gQ rfl) rfl) (aB.n3 0 rfl (aj (aH rfl) vQ rfl rfl rfl (ba Rw.cells (fun _ => rfl) _) rfl (by simp only [List.length_map, List.length_nil]; omega) rfl) ?_))
 refine aB.n1 2 rfl (gx (aH rfl) vL KR rfl rfl) (aG.kept (Kept.sT 3 0 300 78 2 rfl rfl rfl rfl (by decide) (Kept.now (aG.r 999 (aG.lq [.s 4, .b 3, .t 300, .h, .s 1, .b 1, .s 2, .b 2, .s 3] (fun ((i, a) : Nat × List AV) => [(.s 4, .sv (.v (.int .i64 (i : Int)))), (.b 3, .bx [.ow 300 a, .v (.sl (t.rest.map Rw.av))]), (.t 300, .tk false 78 2 a)]) (fun ((i, a) : Nat × List AV) => a = (t.aO.take i).map Slot.av) (fun ((i, a) : Nat × List AV) => t.aO.length - i) (0, _) rfl rfl rfl ?_)))))
 rintro ⟨i, a⟩ hI
 refine aC (fun hc1 => ?_) (fun hc1 => ?_)
 ·have hi := cz hc1
  refine aB.im 2 rfl dU rfl rfl (dS Slot.bC hi) rfl (aB.n1 2 rfl (gx (aH rfl) Aa Mr rfl rfl) (aG.kept (Kept.sT 5 1 500 81 3 rfl rfl rfl rfl (by decide) (Kept.now (aG.r 999 (aG.lq [.s 6, .b 5, .t 500, .h, .s 1, .b 1, .s 2, .b 2, .s 3, .b 3, .t 300, .s 4, .s 5] (fun ((k, b) : Nat × List AV) => [(.s 6, .sv (.v (.int .i64 (k : Int)))), (.b 5, .bx [.v (.int .i64 (t.aO[i]'hi).num), .ow 500 b]), (.t 500, .tk false 81 3 b)]) (fun ((k, b) : Nat × List AV) => b = ((t.aO[i]'hi).ag.take k).map bF.av) (fun ((k, b) : Nat × List AV) => (t.aO[i]'hi).ag.length - k) (0, _) rfl rfl rfl ?_))))))
  rintro ⟨k, b⟩ hK
  have hl4 := hl3 _ (List.getElem_mem hi)
  refine aB.ii rfl dU rfl rfl (dS Slot.bC hi) rfl (aC (fun hc2 => ?_) (fun hc2 => ?_))
  ·have hk := cz hc2
   refine aB.ii rfl dU rfl rfl (dS Slot.bC hi) rfl (aB.im 9 rfl ek rfl rfl (dS bF.bC hk) rfl (aB.n1 2 rfl (gx (aH rfl) Hg OP rfl rfl) (aG.kept (Kept.sT 8 2 800 32 2 rfl rfl rfl rfl (by decide) (Kept.now (aG.r 999 (aG.lq [.s 9, .b 8, .t 800, .h, .s 1, .b 1, .s 2, .b 2, .s 3, .b 3, .t 300, .s 4, .s 5, .b 5, .t 500, .s 6, .s 7, .b 7, .s 8] (fun ((j, c) : Nat × List AV) => [(.s 9, .sv (.v (.int .i64 (j : Int)))), (.b 8, .bx [.v (.int .u64 (((t.aO[i]'hi).ag[k]'hk).n : Int)), .v (.str ((t.aO[i]'hi).ag[k]'hk).s), .ow 800 c]), (.t 800, .tk false 32 2 c)]) (fun ((j, c) : Nat × List AV) => c = (((t.aO[i]'hi).ag[k]'hk).m.take j).map Tree.av) (fun ((j, c) : Nat × List AV) => ((t.aO[i]'hi).ag[k]'hk).m.length - j) (0, _) rfl rfl rfl ?_)))))))
   rintro ⟨j, c⟩ hJ
   have hl5 := hl.m _ (List.getElem_mem hi) _ (List.getElem_mem hk)
   refine aC (fun hc3 => ?_) (fun hc3 => ?_)
   ·have hj := cz hc3
    refine ⟨rfl, (aF.d1 rfl (bP (aH rfl) lQ rfl rfl (dS Tree.bC hj) rfl) (aF.d1 rfl (aX (aH rfl) (Fn rfl) rfl (ih _ (List.getElem_mem hi) _ (List.getElem_mem hk) _ (List.getElem_mem hj))) (aF.d3 rfl (aj (aH rfl) EK rfl rfl rfl rfl rfl (by rw [hJ]; simp; omega) rfl) ?_)))⟩
    exact ⟨by kernel_rfl, (⟨Kept.c6 9 rfl (inc (by omega)) (Kept.az [.s 9, .b 8, .t 70, .h, .s 1, .b 1, .s 2, .b 2, .s 3, .b 3, .t 300, .s 4, .s 5, .b 5, .t 500, .s 6, .s 7, .b 7, .s 8] rfl (by decide) (Kept.cO 70 800 (by decide) rfl (Kept.now ⟨(j + 1, _), by dsimp only; omega, EI hj hJ (Tree.bC _).symm, rfl⟩)))⟩)⟩
   ·have hj := dA hc3
    refine aB.d3 rfl (aj (aH rfl) yz rfl rfl rfl rfl rfl (by rw [hK]; simp; omega) rfl) ?_
    exact ⟨Kept.c6 6 rfl (inc (by omega)) (Kept.az [.s 6, .b 5, .t 76, .h, .s 1, .b 1, .s 2, .b 2, .s 3, .b 3, .t 300, .s 4, .s 5] rfl (by decide) (Kept.cO 76 500 (by decide) rfl (Kept.now ⟨(k + 1, _), by dsimp only; omega, EI hk hK (by rw [hJ, List.take_of_length_le hj, bF.bC]; rfl), rfl⟩)))⟩
  ·have hk := dA hc2
   refine aB.d3 rfl (aj (aH rfl) EL rfl rfl rfl rfl rfl (by rw [hI]; simp; omega) rfl) ?_
   exact ⟨Kept.c6 4 rfl (inc (by omega)) (Kept.az [.s 4, .b 3, .t 82, .h, .s 1, .b 1, .s 2, .b 2, .s 3] rfl (by decide) (Kept.cO 82 300 (by decide) rfl (Kept.now ⟨(i + 1, _), by dsimp only; omega, EI hi hI (by rw [hK, List.take_of_length_le hk, Slot.bC]; rfl), rfl⟩)))⟩
 ·have hi := dA hc1
  exact ⟨.inr rfl, (aM.r1 rfl (.cell mK rfl rfl rfl rfl .nil)).cast (by rw [hI, List.take_of_length_le hi]; rfl), rfl⟩
theorem LM (t : Tree) (hl : t.eO Tree.my) : Pure Tryz.prog 17 [.agg t.cells] (.agg t.cells) :=
 Tree.ind (Q := fun t => t.eO Tree.my → Pure Tryz.prog 17 [.agg t.cells] (.agg t.cells)) (fun t ih hl => IU t hl.here fun x hx v hv u hu => ih x hx v hv u hu (hl.sub hu hv hx)) t hl
structure Tree.Oy (t : Tree) : Prop where
 s : t.aO.length ≤ 140737488355328
 r : t.rest.length ≤ 140737488355328
 v : ∀ x ∈ t.aO, x.ag.length ≤ 140737488355328
 m : ∀ x ∈ t.aO, ∀ v ∈ x.ag, v.m.length ≤ 140737488355328
 vs : ∀ x ∈ t.aO, ∀ v ∈ x.ag, v.s.length ≤ 140737488355328
 vn : ∀ x ∈ t.aO, ∀ v ∈ x.ag, v.n < 18446744073709551616
 rs : ∀ r ∈ t.rest, r.s.length ≤ 140737488355328
 rn : ∀ r ∈ t.rest, r.n < 18446744073709551616
def Tree.fits (t : Tree) : Prop := t.eO Tree.Oy
theorem Tree.fits.eK {t : Tree} (h : t.fits) : t.eK := fun u hu => by
 have h1 := h u hu
 exact ⟨Nat.le_trans h1.s (by omega), Nat.le_trans h1.r (by omega), fun x hx => Nat.le_trans (h1.v x hx) (by omega), fun x hx v hv => Nat.le_trans (h1.m x hx v hv) (by omega), fun x hx v hv => Nat.le_trans (h1.vs x hx v hv) (by omega), h1.vn, fun r hr => Nat.le_trans (h1.rs r hr) (by omega), h1.rn⟩
theorem nH {n : Int} (h0 : -9223372036854775808 ≤ n) (h1 : n < 9223372036854775808) : dc n = n := fI h0 h1
theorem NA (n : Nat) : dc ((n : Int).tdiv 20) = ((n / 20 : Nat) : Int) ∨ 9223372036854775808 ≤ n := by
 by_cases h : n < 9223372036854775808
 ·left
  have e : ((n : Int).tdiv 20) = ((n / 20 : Nat) : Int) := by rw [Int.tdiv_eq_ediv_of_nonneg (by omega)]; omega
  rw [e, nH (by omega) (by omega)]
 ·right; omega
def y8 (t : Tree) : Prop := ∀ n d : Int, -1 ≤ n → n ≤ 1000 → t.left n d ≤ n ∧ (0 ≤ t.left n d → t.eO Tree.my)
theorem xg : ∀ (l : List Rw) (n : Int), (∀ r ∈ l, r.s.length ≤ 140737488355328) → n ≤ 1000 → jq l n ≤ n
 | [], n, _, _ => Int.le_refl _
 | r :: l, n, h, hn => by
  unfold jq
  split
  ·rename_i h0
   have hr := h r (List.mem_cons_self ..)
   rcases NA r.s.length with e | e
   ·rw [e, nH (by omega) (by omega)]
    have := xg l (n - ((r.s.length / 20 : Nat) : Int)) (fun q hq => h q (List.mem_cons_of_mem _ hq)) (by omega)
    omega
   ·omega
  ·exact Int.le_refl _
theorem sh {d : Int} : ∀ (l : List Tree), (∀ t ∈ l, y8 t) → ∀ n : Int, n ≤ 1000 → ig l n d ≤ n ∧ (0 ≤ ig l n d → (l.length : Int) ≤ n ∧ ∀ t ∈ l, t.eO Tree.my)
 | [], _, n, hn => by
  rw [ig]
  exact ⟨Int.le_refl _, fun h => ⟨h, fun t ht => (List.not_mem_nil ht).elim⟩⟩
 | t :: l, hl, n, hn => by
  rw [ig]
  split
  ·rename_i h0
   rw [nH (n := n - 1) (by omega) (by omega)]
   obtain ⟨a1, a2⟩ := hl t (List.mem_cons_self ..) (n - 1) (dc (d - 1)) (by omega) (by omega)
   obtain ⟨b1, b2⟩ := sh (d := d) l (fun u hu => hl u (List.mem_cons_of_mem _ hu)) (t.left (n - 1) (dc (d - 1))) (by omega)
   refine ⟨by omega, fun h => ?_⟩
   obtain ⟨c1, c2⟩ := b2 h
   refine ⟨by simp; omega, fun u hu => ?_⟩
   rcases List.mem_cons.1 hu with rfl | hu
   ·exact a2 (by omega)
   ·exact c2 u hu
  ·rename_i h0
   exact ⟨Int.le_refl _, fun h => absurd h h0⟩
theorem sg {d : Int} : ∀ (l : List bF), (∀ v ∈ l, v.s.length ≤ 140737488355328 ∧ ∀ t ∈ v.m, y8 t) → ∀ n : Int, n ≤ 1000 → ic l n d ≤ n ∧ (0 ≤ ic l n d → ∀ v ∈ l, v.m.length ≤ 1000 ∧ ∀ t ∈ v.m, t.eO Tree.my)
 | [], _, n, hn => by
  rw [ic]
  exact ⟨Int.le_refl _, fun h v hv => (List.not_mem_nil hv).elim⟩
 | v :: l, hl, n, hn => by
  rw [ic]
  split
  ·rename_i h0
   obtain ⟨q1, q2⟩ := hl v (List.mem_cons_self ..)
   rw [bF.left_eq]
   rcases NA v.s.length with e | e
   ·rw [e, nH (by omega) (by omega)]
    obtain ⟨a1, a2⟩ := sh (d := d) v.m q2 (n - ((v.s.length / 20 : Nat) : Int)) (by omega)
    obtain ⟨b1, b2⟩ := sg (d := d) l (fun u hu => hl u (List.mem_cons_of_mem _ hu)) (ig v.m (n - ((v.s.length / 20 : Nat) : Int)) d) (by omega)
    refine ⟨by omega, fun h u hu => ?_⟩
    rcases List.mem_cons.1 hu with rfl | hu
    ·obtain ⟨c1, c2⟩ := a2 (by omega)
     exact ⟨by omega, c2⟩
    ·exact b2 h u hu
   ·omega
  ·rename_i h0
   exact ⟨Int.le_refl _, fun h => absurd h h0⟩
theorem si {d : Int} : ∀ (l : List Slot), (∀ x ∈ l, x.ag.length ≤ 140737488355328 ∧ ∀ v ∈ x.ag, v.s.length ≤ 140737488355328 ∧ ∀ t ∈ v.m, y8 t) → ∀ n : Int, n ≤ 1000 → jW l n d ≤ n ∧ (0 ≤ jW l n d → ∀ x ∈ l, x.ag.length ≤ 1000 ∧ ∀ v ∈ x.ag, v.m.length ≤ 1000 ∧ ∀ t ∈ v.m, t.eO Tree.my)
 | [], _, n, hn => by
  rw [jW]
  exact ⟨Int.le_refl _, fun h v hv => (List.not_mem_nil hv).elim⟩
 | x :: l, hl, n, hn => by
  rw [jW]
  split
  ·rename_i h0
   obtain ⟨q1, q2⟩ := hl x (List.mem_cons_self ..)
   rw [Slot.left_eq, nH (by omega) (by omega)]
   obtain ⟨a1, a2⟩ := sg (d := d) x.ag q2 (n - (x.ag.length : Int)) (by omega)
   obtain ⟨b1, b2⟩ := si (d := d) l (fun u hu => hl u (List.mem_cons_of_mem _ hu)) (ic x.ag (n - (x.ag.length : Int)) d) (by omega)
   refine ⟨by omega, fun h u hu => ?_⟩
   rcases List.mem_cons.1 hu with rfl | hu
   ·exact ⟨by omega, a2 (by omega)⟩
   ·exact b2 h u hu
  ·rename_i h0
   exact ⟨Int.le_refl _, fun h => absurd h h0⟩
theorem N6 (t : Tree) : t.fits → y8 t :=
 Tree.ind (Q := fun t => t.fits → y8 t) (fun t ih hf n d hn0 hn1 => by
  have h1 := hf.here
  rw [Tree.left_eq]
  split
  ·exact ⟨hn0, fun h => by omega⟩
  ·have r1 := h1.r
   have s1 := h1.s
   rw [nH (n := n - (t.rest.length : Int)) (by omega) (by omega), nH (by omega) (by omega)]
   have a1 := xg t.rest (n - (t.rest.length : Int) - (t.aO.length : Int)) h1.rs (by omega)
   obtain ⟨b1, b2⟩ := si (d := d) t.aO (fun x hx => ⟨h1.v x hx, fun v hv => ⟨h1.vs x hx v hv, fun u hu => ih x hx v hv u hu (hf.sub hu hv hx)⟩⟩) (jq t.rest (n - (t.rest.length : Int) - (t.aO.length : Int))) (by omega)
   refine ⟨by omega, fun h => ?_⟩
   have c := b2 h
   exact Tree.eO.mk ⟨⟨by omega, by omega, fun x hx => (c x hx).1⟩, fun x hx v hv => ((c x hx).2 v hv).1⟩ fun x hx v hv u hu => ((c x hx).2 v hv).2 u hu) t
theorem qH {t : Tree} (h : t.small = true) (hf : t.fits) : t.eO Tree.my := (N6 t hf 400 40 (by omega) (by omega)).2 (of_decide_eq_true h)
theorem nW {t : Tree} (h : t.eO Tree.my) : t.lean := fun u hu => (h u hu).l
theorem u2 {s : aL} (hs : s.lN) : s.AE := by
 refine ⟨by have := hs.sm.m; omega, fun m hm => by have := hs.sm.f m hm; omega, fun m hm f hf => ?_⟩
 have h := hs.fc m hm f hf
 unfold ae.iN at h
 split at h
 ·cases h
 ·rename_i h2
  by_cases e : f.one = []
  ·rw [e]; simp
  ·have : aq f.one = true := by
    cases q : aq f.one with
    | true => rfl
    | false => exact absurd (by simp [e, q]) h2
   unfold aq at this
   simp only [Bool.and_eq_true, decide_eq_true_eq] at this
   have := this.1.1.1.2
   omega
theorem pW : lk Tryz.prog 97 = some (true, 3) := by kernel_rfl
theorem yy : se Tryz.prog 95 = some (97, 3, 32) := by kernel_rfl
def yH (c : cT) : AV := .tup [c.av, .bool true]
def nD (x : Port) (v : bF) : AV := .tup [(mn x v).av, .bool false]
theorem cT.NX {D : Nat → Prop} (n : Nat) (s : aw) : bH D (cT.mk n s none).av := .agg _ (ab.cons (.int _ _) (ab.cons (.str _) (ab.cons .nilp ab.nil)))
theorem D3 {D : Nat → Prop} (x : Port) (v : bF) : bH D (nD x v) := by
 refine .tup _ (ab.cons ?_ (ab.cons (.bool _) ab.nil))
 unfold mn
 split
 ·exact cT.NX _ _
 ·exact cT.NX _ _
theorem D2 {F : qk} {x : Port} {v : bF} {H : Hp} (h : decide (x.part < 0) = true) : jC H (nD x v) (DR yH (gM F x v H)) (.tup [(cT.mk v.n v.s none).av, .bool (v.ok rV x.f)]) H := by
 have h := of_decide_eq_true h
 unfold gM nD mn
 rw [if_pos h, if_pos h]
 cases v.ok rV x.f
 ·exact ⟨rfl, Hp.more.refl H⟩
 ·exact ⟨rfl, rfl⟩
theorem tO {F : qk} {x : Port} {v : bF} {H : Hp} (h : decide (x.part < 0) = false) (h2 : ¬ (v.n = 0 ∧ v.s = [] ∧ v.m.length = 1)) : jC H (nD x v) (DR yH (gM F x v H)) (.tup [Gf.av, .bool false]) H := by
 have h := of_decide_eq_false h
 unfold gM nD mn
 rw [if_neg h, if_neg h, if_neg h2]
 exact ⟨rfl, Hp.more.refl H⟩
theorem J7 {F : qk} {x : Port} {v : bF} {H : Hp} {u : Unit} (h : decide (x.part < 0) = false) (h2 : v.n = 0 ∧ v.s = [] ∧ v.m.length = 1) (e : F x.part (v.m.headD (.mk [] [])) H = .error u) : jC H (nD x v) (DR yH (gM F x v H)) (.tup [Gf.av, .bool false]) H := by
 have h := of_decide_eq_false h
 unfold gM nD mn
 rw [if_neg h, if_neg h, if_pos h2, e]
 exact ⟨rfl, Hp.more.refl H⟩
theorem Ge {F : qk} {x : Port} {v : bF} {H : Hp} {p : Fm × Hp} (h : decide (x.part < 0) = false) (h2 : v.n = 0 ∧ v.s = [] ∧ v.m.length = 1) (e : F x.part (v.m.headD (.mk [] [])) H = .ok p) : jC H (nD x v) (DR yH (gM F x v H)) (.tup [(cT.mk 0 [] (some p.1)).av, .bool true]) p.2 := by
 have h := of_decide_eq_false h
 unfold gM nD mn
 rw [if_neg h, if_neg h, if_pos h2, e]
 exact ⟨rfl, rfl⟩
theorem Ok {v : bF} (h : v.m.length = 1) : (v.m.map Tree.av)[((0 : Int)).toNat]? = some (.agg (v.m.headD (.mk [] [])).cells) := by
 cases hm : v.m with
 | nil => rw [hm] at h; simp at h
 | cons u l => simp [Tree.bC]
theorem Ff {v : bF} (h : v.m.length = 1) : v.m.headD (.mk [] []) ∈ v.m := by
 cases hm : v.m with
 | nil => rw [hm] at h; simp at h
 | cons u l => simp
theorem Er (ps : List aQ) (bh : Bool) (F : qk) (x : Port) (v : bF) (hx : x.part < (ps.length : Int)) (hv1 : v.s.length ≤ 9223372036854775807) (hv2 : ∀ u ∈ v.m, u.eK) (hF : ∀ u ∈ v.m, Jk Tryz.prog 52 ps bh F u) (H : Hp) :
  kO Tryz.prog 147 [oV ps bh, x.av, .agg v.cells] H (nD x v) (DR yH (gM F x v H)) := by
 refine cB.qv Tryz.func147 rfl rfl (aH rfl) (D3 x v) (aK.go II mixed (aC (fun hc1 => ?_) (fun hc1 => ?_)))
 ·exact ⟨rfl, (aF.d1 rfl (aX (aH rfl) (Fn rfl) rfl (KA rV x.f v hv1 fun u hu name => Lc rV zC u (hv2 u hu) name)) (⟨by kernel_rfl, (kP.fin (D2 hc1) ⟨.inr rfl, (aM.r2 rfl (.cell pW rfl rfl rfl rfl (.tmp rfl .nil))).cast rfl, rfl⟩)⟩))⟩
 ·refine aC (fun hg2 => ?_) (fun hg2 => ?_)
  ·exact kP.fin (tO hc1 (by rintro ⟨q1, _, _⟩; rw [q1] at hg2; exact absurd hg2 (by decide))) ⟨.inr rfl, (aM.r2 rfl (.cell pW rfl rfl rfl rfl (.tmp rfl .nil))).cast rfl, rfl⟩
  ·refine aC (fun hg3 => ?_) (fun hg3 => ?_)
   ·exact kP.fin (tO hc1 (by rintro ⟨_, q1, _⟩; rw [q1] at hg3; exact absurd hg3 (by decide))) ⟨.inr rfl, (aM.r2 rfl (.cell pW rfl rfl rfl rfl (.tmp rfl .nil))).cast rfl, rfl⟩
   ·refine aC (fun hc4 => ?_) (fun hc4 => ?_)
    ·exact kP.fin (tO hc1 (by rintro ⟨_, _, q1⟩; simp [q1] at hc4)) ⟨.inr rfl, (aM.r2 rfl (.cell pW rfl rfl rfl rfl (.tmp rfl .nil))).cast rfl, rfl⟩
    ·refine ⟨rfl, ?_⟩
     have h2 : v.n = 0 ∧ v.s = [] ∧ v.m.length = 1 := ⟨by simpa using hg2, by simpa using hg3, by simp at hc4; omega⟩
     refine aF.d1 rfl (ak (aH rfl) lQ rfl rfl (by decide) (Ok h2.2.2) rfl) ?_
     cases hp1 : F x.part (v.m.headD (.mk [] [])) H with
     | ok x1 =>
      refine aF.d2 rfl (bf (aH rfl) (Fn rfl) rfl rfl (kO.HG (hF _ (Ff h2.2.2) x.part (by have := of_decide_eq_false hc1; omega) hx H) hp1)) ?_
      exact ⟨by kernel_rfl, (kP.fin (Ge hc1 h2 hp1) ⟨.inr rfl, (aM.r2 rfl (.cell pW rfl rfl rfl rfl (.tmp rfl .nil))).cast rfl, rfl⟩)⟩
     | error e1 =>
      refine aF.d1 rfl (bu (aH rfl) (Fn rfl) rfl rfl (kO.wN (hF _ (Ff h2.2.2) x.part (by have := of_decide_eq_false hc1; omega) hx H) hp1)) ?_
      exact ⟨by kernel_rfl, (kP.fin (J7 hc1 h2 hp1) ⟨.inr rfl, (aM.r2 rfl (.cell pW rfl rfl rfl rfl (.tmp rfl .nil))).cast rfl, rfl⟩)⟩
def tW (aE : List (List cT)) (x : Port) : Port → Bool := fun y => !(x.f.one == []) && y.f.one == x.f.one && decide (0 < (aE.getD y.reg.toNat []).length)
theorem Hr {g : List (List cT)} {r : Int} (h0 : 0 ≤ r) (h : r < (g.length : Int)) : wP false 1 (((dt g).map fun c => Sv.v (ph c)).drop (r.toNat * 1)) = some (.v (j4 (g.getD r.toNat []))) := zE (f := .mk 0 0 g [] true) h0 h
theorem Es (x y : Port) (aE : List (List cT)) (h0 : 0 ≤ y.reg) (h1 : y.reg < (aE.length : Int)) (xid bid fid rid : Nat) (a b c : AV) (H : Hp) (hX : H.obj xid = some (x.cells.map .v)) (hB : H.obj bid = some [.v (.op fid 0)]) (hF : H.obj fid = some [.v a, .v (.os rid aE.length 1), .v b, .v c]) (hR : H.obj rid = some (dt aE)) :
  cB Tryz.prog 146 [y.av, .op xid 0, .op bid 0] H (.bool (tW aE x y)) H := by
 refine cB.ah Tryz.func146 rfl rfl (aH rfl) (aK.gn 8 II mixed ⟨rfl, (aF.n1 2 rfl (bB (aH rfl) sd rfl rfl hX rfl) (aF.ti 5 999 rfl (fun hg1 => ?_) (fun hg1 => ?_)))⟩)
 ·refine aF.n1 3 rfl (bB (aH rfl) sd rfl rfl hX rfl) (aF.ti 0 999 rfl (fun hg2 => ?_) (fun hg2 => ?_))
  ·exact aF.n1 2 rfl (bB (aH rfl) ze rfl rfl hB rfl) (aF.d1 rfl (bB (aH rfl) mI rfl rfl hF rfl) (aF.n1 0 rfl (bR (aH rfl) nZ rfl rfl h0 h1) (aF.d1 rfl (bB (aH rfl) nV rfl rfl hR (Hr h0 h1)) ⟨by kernel_rfl, (aN rfl rfl rfl (by simp_all [tW]))⟩)))
  ·exact ⟨by kernel_rfl, (aN rfl rfl rfl (by simp_all [tW]))⟩
 ·exact ⟨by kernel_rfl, (aN rfl rfl rfl (by simp_all [tW]))⟩
theorem Li (l : List Port) (hl : l.length ≤ 1000000) (F : FuncId) (caps : List AV) (p : Port → Bool) (H : Hp) (hF : gj Tryz.prog F = true) (hp : ∀ x ∈ l, cB Tryz.prog F ([x.av] ++ caps) H (.bool (p x)) H) : cB Tryz.prog 144 [.sl (l.map Port.av), .fn F caps] H (.int .i64 (bI p l 0)) H := by
 refine cB.ah Tryz.func144 rfl rfl (aH rfl) (aK.go II mixed (aG.lq [.s 8, .h, .s 0, .s 1, .s 7] (fun (i : Nat) => [(.s 8, .sv (.v (.int .i64 (i : Int))))]) (fun (i : Nat) => bI p (l.drop i) i = bI p l 0) (fun (i : Nat) => l.length - i) 0 rfl rfl rfl ?_))
 rintro i hI
 refine aC (fun hc1 => ?_) (fun hc1 => ?_)
 ·have hi := cz hc1
  refine aB.ii rfl cN rfl rfl (ca hi) rfl (aB.d2 rfl (pQ (aH rfl) hF rfl rfl rfl (hp _ (List.getElem_mem hi))) (aC (fun hc2 => ?_) (fun hc2 => ?_)))
  ·exact cC rfl rfl rfl (by rw [← hI, bo hi, if_pos hc2])
  ·exact .b1 8 rfl (inc (by omega)) rfl ⟨i + 1, by omega, by rw [← hI, bo hi, hc2]; rfl, rfl⟩
 ·have hi := dA hc1
  exact cC rfl rfl rfl (by rw [← hI, dT hi])
theorem MO {H : Hp} {A B : List Hc} : ((H.new A).new B).obj (H.next + 1) = some B := Hp.dd (H.new A) B
theorem MN {H : Hp} {A B : List Hc} : ((H.new A).new B).obj H.next = some A := by rw [Hp.cr _ _ (Nat.lt_succ_self _)]; exact Hp.dd _ _
theorem xa {H : Hp} {A B cs : List Hc} {i : Nat} (h : i < H.next) (e : H.obj i = some cs) : ((H.new A).new B).obj i = some cs := by rw [Hp.cr _ _ (Nat.lt_succ_of_lt h), Hp.cr _ _ h]; exact e
theorem zq {α : Type} (p : α → Bool) (l : List α) : decide (bI p l 0 ≥ 0) = l.any p := by
 rcases ao p l 0 with ⟨h1, h2⟩ | ⟨i, hi, h1, h2, h3⟩
 ·rw [h1, Bool.eq_iff_iff, List.any_eq_true]
  constructor
  ·intro h; exact absurd h (by decide)
  ·rintro ⟨x, hx, e⟩; exact absurd e (by simpa using List.find?_eq_none.1 h2 x hx)
 ·rw [h1, Bool.eq_iff_iff, List.any_eq_true]
  constructor
  ·intro _; exact ⟨_, List.getElem_mem hi, h3⟩
  ·intro _; simp
theorem xP (l : List Port) (hl : l.length ≤ 1000000) (F : FuncId) (caps : List AV) (p : Port → Bool) (H : Hp) (hF : gj Tryz.prog F = true) (hp : ∀ x ∈ l, cB Tryz.prog F ([x.av] ++ caps) H (.bool (p x)) H) : cB Tryz.prog 126 [.sl (l.map Port.av), .fn F caps] H (.bool (l.any p)) H := by
 exact cB.ah Tryz.func126 rfl rfl (aH rfl) (aK.go II mixed (aB.d1 rfl (bu (aH rfl) (Fn rfl) rfl rfl (Li l hl F caps p H hF hp)) (aN rfl rfl rfl (zq p l))))
theorem Ax (x : Port) (bX : List Port) (hl : bX.length ≤ 1000000) (aE : List (List cT)) (hp : ∀ y ∈ bX, 0 ≤ y.reg ∧ y.reg < (aE.length : Int)) (fid rid : Nat) (a b c : AV) (H : Hp) (n1 : fid < H.next) (n2 : rid < H.next) (hF : H.obj fid = some [.v a, .v (.os rid aE.length 1), .v b, .v c]) (hR : H.obj rid = some (dt aE)) :
  cB Tryz.prog 96 [.op fid 0, .sl (bX.map Port.av), x.av] H (.bool (kN aE bX x)) H := by
 exact cB.jA Tryz.func96 rfl rfl (aH rfl) (.bool _) (aK.gn 5 II mixed (aG.kept (Kept.qO 3 rfl rfl (Kept.op 3 rfl rfl (Kept.cls 3 rfl rfl rfl rfl (Kept.qO 5 rfl rfl (Kept.op 5 rfl rfl (Kept.cls 5 rfl rfl rfl rfl (Kept.now (aG.r 999 (aB.d1 rfl (lJ (aH rfl) rfl) (aB.d1 rfl (bu (aH rfl) (Fn rfl) rfl rfl (xP bX hl _ _ (tW aE x) _ (by kernel_rfl) fun y hy => Es x y aE (hp y hy).1 (hp y hy).2 _ _ fid rid a b c _ MO MN (xa n1 hF) (xa n2 hR))) (⟨.inr rfl, (aM.r1 rfl (.tmp rfl .nil)).cast rfl, ⟨_, rfl, ((Hp.more.refl H).new _).new _⟩⟩)))))))))))))
def Me (cs : List cT) : AV := .tup [j4 cs, .bool true]
def yG : AV := .tup [.sl [], .bool false]
theorem wB {D : Nat → Prop} : bH D yG := .tup _ (ab.cons (.sl _ fun x hx => by cases hx) (ab.cons (.bool _) ab.nil))
def tv (cs : List cT) : Except Unit (List cT × Hp) → Except Unit (List cT × Hp)
 | .ok r => .ok (cs ++ r.1, r.2)
 | .error u => .error u
theorem Gi (r : Except Unit (List cT × Hp)) : tv [] r = r := by cases r <;> rfl
theorem yF {F : qk} {x : Port} {vs : List bF} {H : Hp} (h : vs.length = 0 ∨ (x.f.rep = false ∧ 1 < vs.length)) : dB F x vs H = .error () := by unfold dB; rw [if_pos h]
theorem Gb {F : qk} {x : Port} {vs : List bF} {H : Hp} (h : ¬ (vs.length = 0 ∨ (x.f.rep = false ∧ 1 < vs.length))) : dB F x vs H = tv [] (dK F x (vs.drop 0) H) := by unfold dB; rw [if_neg h, Gi]; rfl
theorem Gc {F : qk} {x : Port} {vs : List bF} {H K : Hp} {cs : List cT} {i : Nat} {u : Unit} (hi : i < vs.length) (hI : dB F x vs H = tv cs (dK F x (vs.drop i) K)) (e : gM F x vs[i] K = .error u) : dB F x vs H = .error u := by
 rw [hI, List.drop_eq_getElem_cons hi]; unfold dK; rw [e]; rfl
theorem DZ {F : qk} {x : Port} {vs : List bF} {H K : Hp} {cs : List cT} {i : Nat} {c : cT × Hp} (hi : i < vs.length) (hI : dB F x vs H = tv cs (dK F x (vs.drop i) K)) (e : gM F x vs[i] K = .ok c) (h : (x.f.hidden && decide (vs[i].n = 0) && vs[i].s == []) = true) : dB F x vs H = .error () := by
 rw [hI, List.drop_eq_getElem_cons hi]; unfold dK; rw [e]; dsimp only; rw [h]; rfl
theorem nc {F : qk} {x : Port} {vs : List bF} {H K : Hp} {cs : List cT} {i : Nat} {c : cT × Hp} (hi : i < vs.length) (hI : dB F x vs H = tv cs (dK F x (vs.drop i) K)) (e : gM F x vs[i] K = .ok c) (h : (x.f.hidden && decide (vs[i].n = 0) && vs[i].s == []) = false) : dB F x vs H = tv (cs ++ [c.1]) (dK F x (vs.drop (i + 1)) c.2) := by
 rw [hI, List.drop_eq_getElem_cons hi]
 conv => lhs; unfold dK
 rw [e]
 dsimp only
 rw [h]
 cases dK F x (vs.drop (i + 1)) c.2 with
 | ok r => simp [tv]
 | error u => rfl
theorem D0 {F : qk} {x : Port} {vs : List bF} {H K : Hp} {cs : List cT} {i : Nat} (hi : vs.length ≤ i) (hI : dB F x vs H = tv cs (dK F x (vs.drop i) K)) : dB F x vs H = .ok (cs, K) := by
 rw [hI, List.drop_of_length_le hi]; simp [dK, tv]
theorem j5 {F : qk} (hF : ∀ k t H f H', F k t H = .ok (f, H') → H.more H') {x : Port} {v : bF} {H : Hp} {c : cT × Hp} (e : gM F x v H = .ok c) : H.more c.2 := by
 unfold gM at e
 split at e
 ·split at e
  ·cases e; exact Hp.more.refl _
  ·cases e
 ·split at e
  ·split at e
   ·rename_i p hp
    cases e
    exact hF _ _ _ p.1 p.2 hp
   ·cases e
  ·cases e
theorem Aw (ps : List aQ) (bh : Bool) (F : qk) (hFm : ∀ k t H f H', F k t H = .ok (f, H') → H.more H') (x : Port) (vs : List bF) (hx : x.part < (ps.length : Int)) (hl : vs.length ≤ 1000) (hvs : ∀ v ∈ vs, v.s.length ≤ 9223372036854775807 ∧ ∀ u ∈ v.m, u.eK) (hF : ∀ v ∈ vs, ∀ u ∈ v.m, Jk Tryz.prog 52 ps bh F u) (H : Hp) :
  kO Tryz.prog 97 [oV ps bh, x.av, .sl (vs.map bF.av)] H yG (DR Me (dB F x vs H)) := by
 refine cB.qv Tryz.func97 rfl rfl (aH rfl) wB (aK.gn 6 II mixed (aG.jn 999 2 [.h, .s 2, .s 3, .b 3, .s 4, .b 4] (fun (_ : Unit) => []) (fun (_ : Unit) => ¬ (vs.length = 0 ∨ (x.f.rep = false ∧ 1 < vs.length))) rfl ?_ ?_))
 ·refine aC (fun hg1 => ?_) (fun hg1 => ?_)
  ·exact kP.fin (jC.wN (yF (.inl (by simpa using hg1))) rfl (Hp.more.refl H)) ⟨.inr rfl, (aM.r2 rfl (.tmp rfl (.tmp rfl .nil))).cast rfl, rfl⟩
  ·refine aC (fun hg2 => ?_) (fun hg2 => ?_)
   ·refine aC (fun hc3 => ?_) (fun hc3 => ?_)
    ·exact kP.fin (jC.wN (yF (.inr ⟨by simpa using hg2, by simp at hc3; omega⟩)) rfl (Hp.more.refl H)) ⟨.inr rfl, (aM.r2 rfl (.tmp rfl (.tmp rfl .nil))).cast rfl, rfl⟩
    ·exact .b0 rfl ⟨(), by simp at hg1 hc3; rintro (q | ⟨q1, q2⟩); simp_all; omega, rfl⟩
   ·exact .b0 rfl ⟨(), by simp at hg1 hg2; rintro (q | ⟨q1, q2⟩) <;> simp_all, rfl⟩
 ·rintro _ hIN
  refine aB.d2 rfl (Iq (k := 8) (el := 97) (esz := 3) (c := 0) (aH rfl) rfl (by decide)) (aG.lq [.s 29, .s 8, .t 8, .h, .s 3, .b 3, .s 4, .b 4, .s 27, .s 28] (fun ((i, a, K) : Nat × List AV × Hp) => [(.s 29, .sv (.v (.int .i64 (i : Int)))), (.s 8, .sv (.ow 8 a)), (.t 8, .tk false 97 3 a), (.h, .hp K)]) (fun ((i, a, K) : Nat × List AV × Hp) => H.more K ∧ ∃ cs : List cT, cs.length ≤ i ∧ a = cs.map cT.av ∧ dB F x vs H = tv cs (dK F x (vs.drop i) K)) (fun ((i, a, K) : Nat × List AV × Hp) => vs.length - i) (0, [], H) rfl rfl ⟨Hp.more.refl H, [], Nat.zero_le _, rfl, Gb hIN⟩ ?_)
  rintro ⟨i, a, K⟩ hI
  obtain ⟨hM, cs, hcl, ha, hI⟩ := hI
  refine aC (fun hc4 => ?_) (fun hc4 => ?_)
  ·have hi := cz hc4
   refine aB.ii rfl ek rfl rfl (dS bF.bC hi) rfl ?_
   cases hp1 : gM F x (vs[i]'hi) K with
   | ok x1 =>
    refine aB.d2 rfl (bf (aH rfl) (Fn rfl) rfl rfl (kO.HG (Er ps bh F x (vs[i]'hi) hx (hvs _ (List.getElem_mem hi)).1 (hvs _ (List.getElem_mem hi)).2 (hF _ (List.getElem_mem hi)) K) hp1)) (aB.jc rfl (Fn rfl) rfl (xN _) (aC (fun hg5 => ?_) (fun hg5 => ?_)))
    ·refine aC (fun hg6 => ?_) (fun hg6 => ?_)
     ·refine aC (fun hc7 => ?_) (fun hc7 => ?_)
      ·exact kP.fin (jC.wN (DZ hi hI hp1 (by simp_all)) rfl (hM.trans (j5 hFm hp1))) ⟨.inr rfl, (aM.r2 rfl (.tmp rfl (.tmp rfl .nil))).cast rfl, rfl⟩
      ·refine aB.d3 rfl (aj (aH rfl) yy rfl rfl rfl rfl rfl (by simp [ha]; omega) rfl) ?_
       exact ⟨Kept.c6 29 rfl (inc (by omega)) (Kept.az [.s 29, .s 8, .t 60, .h, .s 3, .b 3, .s 4, .b 4, .s 27, .s 28] rfl (by decide) (Kept.cO 60 8 (by decide) rfl (Kept.now ⟨(i + 1, _, _), by dsimp only; omega, ⟨hM.trans (j5 hFm hp1), cs ++ [x1.1], by simp; omega, by rw [ha]; simp; rfl, nc hi hI hp1 (by simp_all)⟩, rfl⟩)))⟩
     ·refine aB.d3 rfl (aj (aH rfl) yy rfl rfl rfl rfl rfl (by simp [ha]; omega) rfl) ?_
      exact ⟨Kept.c6 29 rfl (inc (by omega)) (Kept.az [.s 29, .s 8, .t 60, .h, .s 3, .b 3, .s 4, .b 4, .s 27, .s 28] rfl (by decide) (Kept.cO 60 8 (by decide) rfl (Kept.now ⟨(i + 1, _, _), by dsimp only; omega, ⟨hM.trans (j5 hFm hp1), cs ++ [x1.1], by simp; omega, by rw [ha]; simp; rfl, nc hi hI hp1 (by simp_all)⟩, rfl⟩)))⟩
    ·refine aB.d3 rfl (aj (aH rfl) yy rfl rfl rfl rfl rfl (by simp [ha]; omega) rfl) ?_
     exact ⟨Kept.c6 29 rfl (inc (by omega)) (Kept.az [.s 29, .s 8, .t 60, .h, .s 3, .b 3, .s 4, .b 4, .s 27, .s 28] rfl (by decide) (Kept.cO 60 8 (by decide) rfl (Kept.now ⟨(i + 1, _, _), by dsimp only; omega, ⟨hM.trans (j5 hFm hp1), cs ++ [x1.1], by simp; omega, by rw [ha]; simp; rfl, nc hi hI hp1 (by simp_all)⟩, rfl⟩)))⟩
   | error e1 =>
    exact aB.d1 rfl (bu (aH rfl) (Fn rfl) rfl rfl (kO.wN (Er ps bh F x (vs[i]'hi) hx (hvs _ (List.getElem_mem hi)).1 (hvs _ (List.getElem_mem hi)).2 (hF _ (List.getElem_mem hi)) K) hp1)) (kP.fin (jC.wN (Gc hi hI hp1) rfl hM) ⟨.inr rfl, (aM.r2 rfl (.tmp rfl (.tmp rfl .nil))).cast rfl, rfl⟩)
  ·have hi := dA hc4
   exact kP.fin (jC.HG (D0 hi hI) (by rw [ha]; rfl)) ⟨.inr rfl, (aM.r2 rfl (.tmp rfl (.tmp rfl .nil))).cast rfl, rfl⟩
def qZ (num : Int) (l : List Port) : Except Unit Port := match l.find? (fO num) with | some p => .ok p | none => .error ()
theorem eM {num : Int} {l : List Port} {p : Port} (h : qZ num l = .ok p) : l.find? (fO num) = some p := by
 unfold qZ at h; split at h
 ·rename_i e; cases h; exact e
 ·cases h
theorem oa {num : Int} {l : List Port} {u : Unit} (h : qZ num l = .error u) : l.find? (fO num) = none := by
 unfold qZ at h; split at h
 ·cases h
 ·assumption
theorem z6 {num : Int} {l : List Port} {p : Port} (h : l.find? (fO num) = some p) : 0 ≤ lZ num l := by
 rcases ao (fO num) l 0 with ⟨q1, q2⟩ | ⟨i, hi, q1, q2, q3⟩
 ·rw [q2] at h; cases h
 ·show 0 ≤ bI _ _ _; rw [q1]; omega
theorem z7 {num : Int} {l : List Port} (h : l.find? (fO num) = none) : ¬ 0 ≤ lZ num l := by
 rcases ao (fO num) l 0 with ⟨q1, q2⟩ | ⟨i, hi, q1, q2, q3⟩
 ·show ¬ 0 ≤ bI _ _ _; rw [q1]; omega
 ·rw [q2] at h; cases h
theorem Ah {l : List Port} (hl : l.length ≤ 1000000) {num : Int} {p : Port} (h : qZ num l = .ok p) : Pure Tryz.prog 95 [.sl (l.map Port.av), .int .i64 num] (.tup [p.av, .bool true]) := by
 have := EY l hl num
 have e := eM h
 unfold oK sB at this
 rw [e, decide_eq_true (z6 e)] at this
 exact this
theorem Ai {l : List Port} (hl : l.length ≤ 1000000) {num : Int} {u : Unit} (h : qZ num l = .error u) : Pure Tryz.prog 95 [.sl (l.map Port.av), .int .i64 num] (.tup [ft.av, .bool false]) := by
 have := EY l hl num
 have e := oa h
 unfold oK sB at this
 rw [e, decide_eq_false (z7 e)] at this
 exact this
def qW (l : List Slot) : Nat → Option Int
 | 0 => none
 | j + 1 => some ((l.getD j (.mk 0 [])).num)
theorem CF {l : List Slot} {i : Nat} (h0 : 0 < i) (hi : i < l.length) (hb : l.length ≤ 1000) : (l.map Slot.av)[(IntKind.i64.wrap ((i : Int) - 1)).toNat]? = some (.agg (l.getD (i - 1) (.mk 0 [])).cells) := by
 rw [wj h0 (by omega), Int.toNat_natCast, List.getElem?_map, List.getD_eq_getElem?_getD, List.getElem?_eq_getElem (by omega)]
 simp [Slot.bC]
theorem Mw {i : Nat} (h0 : 0 < i) (h2 : i ≤ 1000) : 0 ≤ IntKind.i64.wrap ((i : Int) - 1) := by rw [wj h0 h2]; omega
theorem u5 {l : List Slot} {i : Nat} (h0 : 0 < i) : qW l i = some (l.getD (i - 1) (.mk 0 [])).num := by
 cases i with
 | zero => omega
 | succ j => rfl
def oX (last : Option Int) (n : Int) : Bool := match last with | none => false | some z => decide (z ≥ n)
structure wL (F : qk) (q : aQ) (bh : Bool) (kn : Nat) (t : Tree) (H : Hp) (i : Nat) (aE : List (List cT)) (K : Hp) : Prop where
 eq : cX F (q.side bh) H.next none t.aO (List.replicate q.aE.toNat []) (en q kn bh H) = cX F (q.side bh) H.next (qW t.aO i) (t.aO.drop i) aE K
 len : aE.length = q.aE.toNat
 o1 : K.obj (H.next + 1) = some (kJ kn q.aE H.next [] bh)
 o2 : K.obj H.next = some (dt aE)
 nx : H.next + 2 ≤ K.next
 more : H.more K
section
variable {F : qk} {q : aQ} {bh : Bool} {kn : Nat} {t : Tree} {H K : Hp} {i : Nat} {aE : List (List cT)}
theorem wL.begin (h : q.aE ≤ 100000) : wL F q bh kn t H 0 (List.replicate q.aE.toNat []) (en q kn bh H) := by
 have hA := uh q kn bh H h
 refine ⟨rfl, List.length_replicate, ?_, hA.o2, Nat.le_refl _, ((Hp.more.refl H).new _).new _⟩
 have := hA.o1
 have e : (tH q kn bh H).x8 = kJ kn q.aE H.next [] bh := by
  show [Hc.v (.int .i64 (kn : Int)), .v (.os H.next (List.replicate q.aE.toNat ([] : List cT)).length 1), _, _] = _
  rw [List.length_replicate]; rfl
 rw [e] at this
 exact this
theorem o4 {last : Option Int} {y : Slot} {l : List Slot} {rid : Nat} {bX : List Port} : cX F bX rid last (y :: l) aE K = match bX.find? (fO y.num) with
  | none => .error ()
  | some p => if oX last y.num || !kN aE bX p then .error () else match dB F p y.ag K with
   | .error u => .error u
   | .ok c => cX F bX rid (some y.num) l (aE.set p.reg.toNat c.1) (c.2.set rid (dt (aE.set p.reg.toNat c.1))) := by
 conv => lhs; unfold cX
 rfl
theorem wL.ML (I : wL F q bh kn t H i aE K) (hi : i < t.aO.length) (h : (q.side bh).find? (fO t.aO[i].num) = none) : cX F (q.side bh) H.next none t.aO (List.replicate q.aE.toNat []) (en q kn bh H) = .error () := by
 rw [I.eq, List.drop_eq_getElem_cons hi, o4, h]
theorem wL.bad (I : wL F q bh kn t H i aE K) (hi : i < t.aO.length) {p : Port} (h : (q.side bh).find? (fO t.aO[i].num) = some p) (h2 : (oX (qW t.aO i) t.aO[i].num || !kN aE (q.side bh) p) = true) : cX F (q.side bh) H.next none t.aO (List.replicate q.aE.toNat []) (en q kn bh H) = .error () := by
 rw [I.eq, List.drop_eq_getElem_cons hi, o4, h]
 dsimp only
 rw [if_pos h2]
theorem wL.JE (I : wL F q bh kn t H i aE K) (hi : i < t.aO.length) {p : Port} (h : (q.side bh).find? (fO t.aO[i].num) = some p) (h2 : (oX (qW t.aO i) t.aO[i].num || !kN aE (q.side bh) p) = false) {u : Unit} (h3 : dB F p t.aO[i].ag K = .error u) : cX F (q.side bh) H.next none t.aO (List.replicate q.aE.toNat []) (en q kn bh H) = .error u := by
 rw [I.eq, List.drop_eq_getElem_cons hi, o4, h]
 dsimp only
 rw [h2, h3]; rfl
theorem CK (aE : List (List cT)) (j : Nat) (c : List cT) : (dt aE).set (j * 1) (.v (j4 c)) = dt (aE.set j c) := by
 unfold dt; rw [List.map_set, Nat.mul_one]
theorem CL {j : Nat} (h : j < aE.length) : (dt aE)[j * 1]? = some (.v (j4 (aE.getD j []))) := by
 unfold dt
 rw [Nat.mul_one, List.getElem?_map, List.getD_eq_getElem?_getD, List.getElem?_eq_getElem h]; rfl
theorem oi (hF : ∀ k t H f H', F k t H = .ok (f, H') → H.more H') {x : Port} : ∀ {l : List bF} {H : Hp} {r : List cT × Hp}, dK F x l H = .ok r → H.more r.2
 | [], H, r, e => by cases e; exact Hp.more.refl _
 | v :: l, H, r, e => by
  unfold dK at e
  split at e
  ·cases e
  ·rename_i c hc
   split at e
   ·cases e
   ·split at e
    ·cases e
    ·rename_i r2 hr
     cases e
     have h9 := oi hF hr
     exact (j5 hF hc).trans h9
theorem jy (hF : ∀ k t H f H', F k t H = .ok (f, H') → H.more H') {x : Port} {l : List bF} {H : Hp} {r : List cT × Hp} (e : dB F x l H = .ok r) : H.more r.2 := by
 unfold dB at e
 split at e
 ·cases e
 ·exact oi hF e
theorem wL.c1 (I : wL F q bh kn t H i aE K) {K' : Hp} (h : K.more K') : K'.obj (H.next + 1) = some (kJ kn q.aE H.next [] bh) := by rw [h.2 _ (by have := I.nx; omega)]; exact I.o1
theorem wL.c2 (I : wL F q bh kn t H i aE K) {K' : Hp} (h : K.more K') : K'.obj H.next = some (dt aE) := by rw [h.2 _ (by have := I.nx; omega)]; exact I.o2
theorem wL.next (I : wL F q bh kn t H i aE K) (hi : i < t.aO.length) {p : Port} (h : (q.side bh).find? (fO t.aO[i].num) = some p) (h2 : (oX (qW t.aO i) t.aO[i].num || !kN aE (q.side bh) p) = false) {c : List cT × Hp} (h3 : dB F p t.aO[i].ag K = .ok c) (hM : K.more c.2) :
  wL F q bh kn t H (i + 1) (aE.set p.reg.toNat c.1) (c.2.set H.next (dt (aE.set p.reg.toNat c.1))) := by
 have hnx := I.nx
 refine ⟨?_, by rw [List.length_set]; exact I.len, ?_, Hp.bN, Nat.le_trans hnx hM.1, (I.more.trans hM).set (Nat.le_refl _) _⟩
 ·rw [I.eq, List.drop_eq_getElem_cons hi, o4, h]
  dsimp only
  rw [h2, h3]
  have : qW t.aO (i + 1) = some t.aO[i].num := by
   show some ((t.aO.getD i (.mk 0 [])).num) = _
   rw [List.getD_eq_getElem?_getD, List.getElem?_eq_getElem hi]; rfl
  rw [this]; rfl
 ·rw [Hp.oF (by omega)]; exact I.c1 hM
theorem wL.end_ (I : wL F q bh kn t H i aE K) (hi : t.aO.length ≤ i) : cX F (q.side bh) H.next none t.aO (List.replicate q.aE.toNat []) (en q kn bh H) = .ok (aE, K) := by
 rw [I.eq, List.drop_of_length_le hi]
 cases qW t.aO i <;> rfl
theorem mP {ps : List aQ} {u : Unit} (hq : ps.getD kn bS = q) (h : cX F (q.side bh) H.next none t.aO (List.replicate q.aE.toNat []) (en q kn bh H) = .error u) : iW F ps bh (kn : Int) t H = .error u := by
 unfold iW
 rw [Int.toNat_natCast, hq]
 dsimp only
 rw [h]
theorem sy {ps : List aQ} (hq : ps.getD kn bS = q) (h : cX F (q.side bh) H.next none t.aO (List.replicate q.aE.toNat []) (en q kn bh H) = .ok (aE, K)) (hr : t.rest.all (kV (q.side bh)) = false) : iW F ps bh (kn : Int) t H = .error () := by
 unfold iW
 rw [Int.toNat_natCast, hq]
 dsimp only
 rw [h]
 dsimp only
 rw [hr]; rfl
theorem DM {ps : List aQ} (hq : ps.getD kn bS = q) (h : cX F (q.side bh) H.next none t.aO (List.replicate q.aE.toNat []) (en q kn bh H) = .ok (aE, K)) (hr : t.rest.all (kV (q.side bh)) = true) : iW F ps bh (kn : Int) t H = .ok (.mk H.next kn aE t.rest (!bh), K.set (H.next + 1) (kJ (kn : Int) q.aE H.next t.rest bh)) := by
 unfold iW
 rw [Int.toNat_natCast, hq]
 dsimp only
 rw [h]
 dsimp only
 rw [if_pos hr]
theorem Gr {α : Type} {p : α → Bool} {l : List α} {i : Nat} (hi : i < l.length) (h : p l[i] = false) : l.all p = false := by
 rw [List.all_eq_false]
 exact ⟨l[i], List.getElem_mem hi, by simp [h]⟩
end
theorem o6 {D : Nat → Prop} : bH D o7 := .tup _ (ab.cons .nilp (ab.cons (.bool _) ab.nil))
theorem El (ps : List aQ) (hP : gO ps) (bh : Bool) (F : qk) (hFm : ∀ k t H f H', F k t H = .ok (f, H') → H.more H') (t : Tree) (hln : t.Fk) (hvb : ∀ y ∈ t.aO, ∀ v ∈ y.ag, v.s.length ≤ 9223372036854775807 ∧ ∀ u ∈ v.m, u.eK) (hF : ∀ y ∈ t.aO, ∀ v ∈ y.ag, ∀ u ∈ v.m, Jk Tryz.prog 52 ps bh F u)
  (kn : Nat) (q : aQ) (hq : ps[kn]? = some q) (H : Hp) : kO Tryz.prog 52 [oV ps bh, .int .i64 kn, .agg t.cells] H o7 (DR AB (iW F ps bh kn t H)) := by
 have hqm := List.mem_of_getElem? hq
 have hqd : ps.getD kn bS = q := by rw [List.getD_eq_getElem?_getD, hq]; rfl
 have hb : q.ins.length ≤ 1000000 ∧ q.outs.length ≤ 1000000 := by have := hP.sides q hqm; omega
 have hsl : (q.side bh).length ≤ 1000000 := by unfold aQ.side; split <;> omega
 have hr0 := (hP.aE q hqm).1
 have hr1 : q.aE ≤ 100000 := by have := (hP.aE q hqm).2; omega
 have hside : ∀ x ∈ q.side bh, 0 ≤ x.reg ∧ x.reg < q.aE ∧ x.part < (ps.length : Int) := fun x hx => hP.bX q hqm x (by unfold aQ.side at hx; cases bh <;> simp_all)
 have hls := hln.s
 have hlr := hln.r
 refine cB.qv Tryz.func52 rfl rfl (aH rfl) o6 (aK.go II mixed (aB.jc rfl (Fn rfl) rfl (Ag ps bh kn q hq hb) (aB.d2 rfl (bf (aH rfl) (Fn rfl) rfl rfl (IT ps bh kn q hq hr0 hr1 H)) (aG.lq [.s 34, .h, .s 3, .b 3, .s 5, .b 5, .s 8, .s 9, .s 32, .s 33] (fun ((i, aE, K) : Nat × List (List cT) × Hp) => [(.s 34, .sv (.v (.int .i64 (i : Int)))), (.h, .hp K)]) (fun ((i, aE, K) : Nat × List (List cT) × Hp) => wL F q bh kn t H i aE K) (fun ((i, aE, K) : Nat × List (List cT) × Hp) => t.aO.length - i) (0, _, _) rfl rfl (wL.begin hr1) ?_))))
 rintro ⟨i, aE, K⟩ hI
 dsimp only at hI
 have hpr : ∀ y ∈ q.side bh, 0 ≤ y.reg ∧ y.reg < (aE.length : Int) := fun y hy => by have := hside y hy; have := hI.len; omega
 refine aC (fun hc1 => ?_) (fun hc1 => ?_)
 ·have hi := cz hc1
  refine aB.ii rfl dU rfl rfl (dS Slot.bC hi) rfl ?_
  cases hp1 : qZ (t.aO[i]'hi).num (q.side bh) with
  | ok x1 =>
   refine aB.jn 6 rfl (Fn rfl) rfl (Ah hsl hp1) (aG.jn 999 999 [.h, .s 3, .b 3, .s 5, .b 5, .s 8, .s 9, .s 11, .b 11, .s 12, .b 12, .s 32, .s 33, .s 34] (fun (_ : Unit) => []) (fun (_ : Unit) => (oX (qW t.aO i) (t.aO[i]'hi).num || !kN aE (q.side bh) x1) = false) rfl ?_ ?_)
   ·refine ⟨rfl, (aC (fun hg2 => ?_) (fun hg2 => ?_))⟩
    ·refine aF.d1 rfl (ak (aH rfl) dU rfl rfl (Mw (wQ hg2) (by omega)) (CF (wQ hg2) hi hls) rfl) (aC (fun hg3 => ?_) (fun hg3 => ?_))
     ·exact ⟨by kernel_rfl, (kP.fin (jC.wN (mP hqd (hI.bad hi (eM hp1) (by rw [u5 (wQ hg2)]; simp only [Bool.or_eq_true]; exact .inl hg3))) rfl hI.more) ⟨.inr rfl, (aM.r2 rfl (.tmp rfl (.tmp rfl .nil))).cast rfl, rfl⟩)⟩
     ·refine aF.d1 rfl (bu (aH rfl) (Fn rfl) rfl rfl (Ax x1 (q.side bh) hsl aE hpr (H.next + 1) H.next _ _ _ K (by have := hI.nx; omega) (by have := hI.nx; omega) (by rw [hI.len]; exact hI.o1) hI.o2)) ?_
      refine ⟨by kernel_rfl, (aC (fun hc4 => ?_) (fun hc4 => ?_))⟩
      ·exact kP.fin (jC.wN (mP hqd (hI.bad hi (eM hp1) (by simp only [Bool.or_eq_true]; exact .inr hc4))) rfl hI.more) ⟨.inr rfl, (aM.r2 rfl (.tmp rfl (.tmp rfl .nil))).cast rfl, rfl⟩
      ·exact .b0 rfl ⟨(), by rw [u5 (wQ hg2)]; exact Bool.or_eq_false_iff.2 ⟨hg3, hc4⟩, rfl⟩
    ·refine aF.d1 rfl (bu (aH rfl) (Fn rfl) rfl rfl (Ax x1 (q.side bh) hsl aE hpr (H.next + 1) H.next _ _ _ K (by have := hI.nx; omega) (by have := hI.nx; omega) (by rw [hI.len]; exact hI.o1) hI.o2)) ?_
     refine ⟨by kernel_rfl, (aC (fun hc5 => ?_) (fun hc5 => ?_))⟩
     ·exact kP.fin (jC.wN (mP hqd (hI.bad hi (eM hp1) (by simp only [Bool.or_eq_true]; exact .inr hc5))) rfl hI.more) ⟨.inr rfl, (aM.r2 rfl (.tmp rfl (.tmp rfl .nil))).cast rfl, rfl⟩
     ·exact .b0 rfl ⟨(), by have : i = 0 := PW hg2; subst this; exact Bool.or_eq_false_iff.2 ⟨rfl, hc5⟩, rfl⟩
   ·rintro _ hJn
    cases hp2 : dB F x1 (t.aO[i]'hi).ag K with
    | ok x2 =>
     refine aB.n2 16 rfl (bf (aH rfl) (Fn rfl) rfl rfl (kO.HG (Aw ps bh F hFm x1 (t.aO[i]'hi).ag (hside _ (List.mem_of_find?_eq_some (eM hp1))).2.2 (hln.v _ (List.getElem_mem hi)) (hvb _ (List.getElem_mem hi)) (hF _ (List.getElem_mem hi)) K) hp2)) ?_
     refine ⟨rfl, (aF.d1 rfl (bB (aH rfl) mI rfl rfl (hI.c1 (jy hFm hp2)) rfl) (aF.n1 0 rfl (bR (aH rfl) nZ rfl rfl (hside _ (List.mem_of_find?_eq_some (eM hp1))).1 (by have := hside _ (List.mem_of_find?_eq_some (eM hp1)); omega)) ?_))⟩
     refine aF.d1 rfl (sO nV rfl rfl (hI.c2 (jy hFm hp2)) rfl rfl (CL (by have := hside _ (List.mem_of_find?_eq_some (eM hp1)); have := hI.len; omega))) ?_
     exact ⟨by kernel_rfl, (⟨Kept.ly rfl (congrArg (Hp.set _ _) (CK _ _ _)) (Kept.c6 34 rfl (inc (by omega)) (Kept.az [.s 34, .h, .s 3, .b 3, .s 5, .b 5, .s 8, .s 9, .s 32, .s 33] rfl (by decide) (Kept.now ⟨(i + 1, _, _), by dsimp only; omega, hI.next hi (eM hp1) hJn hp2 (jy hFm hp2), rfl⟩)))⟩)⟩
    | error e2 =>
     refine aB.d1 rfl (bu (aH rfl) (Fn rfl) rfl rfl (kO.wN (Aw ps bh F hFm x1 (t.aO[i]'hi).ag (hside _ (List.mem_of_find?_eq_some (eM hp1))).2.2 (hln.v _ (List.getElem_mem hi)) (hvb _ (List.getElem_mem hi)) (hF _ (List.getElem_mem hi)) K) hp2)) ?_
     exact kP.fin (jC.wN (mP hqd (hI.JE hi (eM hp1) hJn hp2)) rfl hI.more) ⟨.inr rfl, (aM.r2 rfl (.tmp rfl (.tmp rfl .nil))).cast rfl, rfl⟩
  | error e1 =>
   refine aB.jn 6 rfl (Fn rfl) rfl (Ai hsl hp1) (aG.jn 999 999 [.h, .s 3, .b 3, .s 5, .b 5, .s 8, .s 9, .s 11, .b 11, .s 12, .b 12, .s 32, .s 33, .s 34] (fun (_ : Unit) => []) (fun _ => False) rfl ?_ ?_)
   ·exact ⟨rfl, (⟨by kernel_rfl, (kP.fin (jC.wN (mP hqd (hI.ML hi (oa hp1))) rfl hI.more) ⟨.inr rfl, (aM.r2 rfl (.tmp rfl (.tmp rfl .nil))).cast rfl, rfl⟩)⟩)⟩
   ·exact fun _ hF => hF.elim
 ·have hi := dA hc1
  refine aG.lq [.s 93, .h, .s 5, .b 5, .s 8, .s 9, .s 91, .s 92] (fun (j : Nat) => [(.s 93, .sv (.v (.int .i64 (j : Int))))]) (fun (j : Nat) => (t.rest.drop j).all (kV (q.side bh)) = t.rest.all (kV (q.side bh))) (fun (j : Nat) => t.rest.length - j) 0 rfl rfl rfl ?_
  rintro j hJ
  refine aC (fun hc6 => ?_) (fun hc6 => ?_)
  ·have hj := cz hc6
   refine aB.ii rfl n0 rfl rfl (ca hj) rfl ?_
   cases hp3 : qZ (t.rest[j]'hj).num (q.side bh) with
   | ok x3 =>
    exact aB.jc rfl (Fn rfl) rfl (Ah hsl hp3) (kP.fin (jC.wN (sy hqd (hI.end_ hi) (Gr hj (by unfold kV; rw [eM hp3]; rfl))) rfl hI.more) ⟨.inr rfl, (aM.r2 rfl (.tmp rfl (.tmp rfl .nil))).cast rfl, rfl⟩)
   | error e3 =>
    refine aB.jc rfl (Fn rfl) rfl (Ai hsl hp3) (aB.jc rfl (Fn rfl) rfl (xL _) (aC (fun hc7 => ?_) (fun hc7 => ?_)))
    ·exact kP.fin (jC.wN (sy hqd (hI.end_ hi) (Gr hj (by unfold kV; rw [oa hp3]; simpa using hc7))) rfl hI.more) ⟨.inr rfl, (aM.r2 rfl (.tmp rfl (.tmp rfl .nil))).cast rfl, rfl⟩
    ·exact .b1 93 rfl (inc (by omega)) rfl ⟨j + 1, by omega, by rw [← hJ, List.drop_eq_getElem_cons hj, List.all_cons, show kV (q.side bh) t.rest[j] = true from (by unfold kV; rw [oa hp3]; simpa using hc7)]; rfl, rfl⟩
  ·have hj := dA hc6
   refine aB.jn 2 rfl (Fn rfl) rfl (nP _ (by have := hln.r; omega)) ?_
   exact aB.d1 rfl (sO zh rfl rfl hI.o1 rfl rfl rfl) (kP.fin (jC.HG (DM hqd (hI.end_ hi) (by rw [← hJ, List.drop_of_length_le hj]; rfl)) rfl) ⟨.inr rfl, (aM.r2 rfl (.tmp rfl (.tmp rfl .nil))).cast rfl, rfl⟩)
theorem sc (ps : List aQ) (bh : Bool) : ∀ (n : Nat) k t H f H', fE ps bh n k t H = .ok (f, H') → H.more H'
 | 0, k, t, H, f, H', e => by cases e
 | n + 1, k, t, H, f, H', e => by
  have hF := sc ps bh n
  have go : ∀ {bX : List Port} {rid : Nat}, H.next ≤ rid → ∀ (l : List Slot) (last : Option Int) (aE : List (List cT)) (K : Hp) (r : List (List cT) × Hp), H.more K → cX (fE ps bh n) bX rid last l aE K = .ok r → H.more r.2 := by
   intro bX rid hr l
   induction l with
   | nil => intro last aE K r hK e; rw [cX] at e; cases e; exact hK
   | cons y l ih =>
    intro last aE K r hK e
    rw [o4] at e
    split at e
    ·cases e
    ·split at e
     ·cases e
     ·split at e
      ·cases e
      ·rename_i c hc
       exact ih _ _ _ _ ((hK.trans (jy hF hc)).set hr _) e
  have e : iW (fE ps bh n) ps bh k t H = .ok (f, H') := e
  unfold iW at e
  dsimp only at e
  split at e
  ·cases e
  ·rename_i r hr
   split at e
   ·have h1 := go (Nat.le_refl _) _ _ _ _ _ (((Hp.more.refl H).new _).new _) hr
    injection e with e
    injection e with e1 e2
    rw [← e2]
    exact h1.set (Nat.le_succ _) _
   ·cases e
theorem Av (ps : List aQ) (hP : gO ps) (bh : Bool) : ∀ (n : Nat) (t : Tree), SizeOf.sizeOf t < n → t.lean → t.eK → Jk Tryz.prog 52 ps bh (fE ps bh n) t
 | 0, t, h, _, _ => by omega
 | n + 1, t, h, hl, hb => by
  intro k hk0 hk H
  obtain ⟨kn, rfl⟩ : ∃ kn : Nat, k = kn := ⟨k.toNat, by omega⟩
  have hkn : kn < ps.length := by omega
  exact El ps hP bh (fE ps bh n) (sc ps bh n) t hl.here (fun y hy v hv => ⟨hb.here.vs y hy v hv, fun u hu => hb.sub hu hv hy⟩)
   (fun y hy v hv u hu => Av ps hP bh n u (by have := Tree.sub_lt hu hv hy; omega) (hl.sub hu hv hy) (hb.sub hu hv hy)) kn ps[kn] (List.getElem?_eq_getElem hkn) H
noncomputable def loadT (ps : List aQ) (bh : Bool) (t : Tree) (H : Hp) : Except Unit (Fm × Hp) := fE ps bh (SizeOf.sizeOf t + 1) 0 t H
theorem zU (ps : List aQ) (hP : gO ps) (h0 : 0 < ps.length) (bh : Bool) (t : Tree) (hl : t.lean) (hb : t.eK) (H : Hp) : kO Tryz.prog 31 [cA ps, .bool bh, .agg t.cells] H o7 (DR AB (loadT ps bh t H)) := by
 have hL := Av ps hP bh _ t (Nat.lt_succ_self _) hl hb 0 (Int.le_refl _) (by omega) H
 have e0 : cA ps = .agg [.sl (ps.map aQ.av)] := rfl
 refine cB.qv Tryz.func31 rfl rfl (aH rfl) o6 (aK.go II mixed ?_)
 cases hp1 : loadT ps bh t H with
 | ok x1 =>
  exact aB.d2 rfl (bf (aH rfl) (Fn rfl) rfl rfl (kO.HG hL hp1)) (kP.fin (jC.HG rfl rfl) ⟨.inr rfl, (aM.r2 rfl (.tmp rfl (.tmp rfl .nil))).cast rfl, rfl⟩)
 | error e1 =>
  exact aB.d1 rfl (bu (aH rfl) (Fn rfl) rfl rfl (kO.wN hL hp1)) (kP.fin (jC.wN rfl rfl (Hp.more.refl H)) ⟨.inr rfl, (aM.r2 rfl (.tmp rfl (.tmp rfl .nil))).cast rfl, rfl⟩)
def Nn : aL := ⟨[], [⟨[77], [⟨[97], 1, 1, [], false, false, []⟩], []⟩]⟩
def M9 : Tree := .mk [.mk 1 [.mk 5 [] []]] []
def Mb : List aQ := lower Nn []
theorem B2 : Nn.all [] = .ok [Nn] := by kernel_rfl
theorem J3 : Nn.eK := ⟨by decide, by decide⟩
theorem Ma : gO Mb := pz.parts (wH B2).1 (by decide)
theorem J4 : 0 < Mb.length := by decide
theorem GU : M9.lean := by
 refine Tree.eO.mk ⟨by decide, by decide, fun x hx => ?_⟩ fun x hx v hv u hu => ?_
 ·cases List.mem_singleton.1 hx; decide
 ·cases List.mem_singleton.1 hx
  cases List.mem_singleton.1 hv
  cases hu
theorem J1 : M9.eK := by
 have h1 : ∀ x ∈ M9.aO, ∀ v ∈ x.ag, v = .mk 5 [] [] := fun x hx v hv => by
  cases List.mem_singleton.1 hx
  exact List.mem_singleton.1 hv
 refine Tree.eO.mk ⟨by decide, by decide, fun x hx => ?_, fun x hx v hv => ?_, fun x hx v hv => ?_, fun x hx v hv => ?_, fun r hr => (List.not_mem_nil hr).elim, fun r hr => (List.not_mem_nil hr).elim⟩ fun x hx v hv u hu => ?_
 ·cases List.mem_singleton.1 hx; decide
 ·rw [h1 x hx v hv]; decide
 ·rw [h1 x hx v hv]; decide
 ·rw [h1 x hx v hv]; decide
 ·rw [h1 x hx v hv] at hu; cases hu
def Mc : AV := .agg [.sl [], .sl [.agg [.str [77], .sl [.agg [.str [97], .int .i64 1, .int .i64 1, .str [], .bool false, .bool false, .str []]], .sl []]]]
def M8 : AV := .agg [.sl [.agg [.int .i64 1, .sl [.agg [.int .u64 5, .str [], .sl []]]]], .sl []]
theorem J2 : AV.agg M9.cells = M8 := by
 simp [Tree.cells, M9, Tree.aO, Tree.rest, Slot.av, bF.av, kx, ir, M8]
def P8 (H : Hp) : Fm := .mk H.next 0 [[.mk 5 [] none]] [] true
def Mm (H : Hp) : Hp := ((en (Mb.headD bS) 0 false H).set H.next (dt [[.mk 5 [] none]])).set (H.next + 1) (kJ 0 1 H.next [] false)
theorem P7 (H : Hp) : loadT Mb false M9 H = .ok (P8 H, Mm H) := by kernel_rfl
theorem CO : Pure Tryz.prog 26 [Mc, .sl []] (.tup [cA Mb, .int .i64 0]) := ry (s := Nn) (l := []) J3 (fun x hx => (List.not_mem_nil hx).elim) (by decide) B2
theorem Eg (H : Hp) : cB Tryz.prog 31 [cA Mb, .bool false, M8] H (.tup [.op (H.next + 1) 0, .bool true]) (Mm H) := by
 have h := kO.HG (zU Mb Ma J4 false M9 GU J1 H) (P7 H)
 rw [J2] at h
 exact h
theorem GW (H : Hp) : H.more (Mm H) := ((((Hp.more.refl H).new _).new _).set (Nat.le_refl _) _).set (Nat.le_succ _) _
theorem AF (H : Hp) : (Mm H).obj (H.next + 1) = some (kJ 0 1 H.next [] false) := Hp.bN
theorem GV (H : Hp) : (Mm H).obj H.next = some (dt [[.mk 5 [] none]]) := by
 unfold Mm; rw [Hp.oF (by omega)]; exact Hp.bN
theorem sI : Pure Tryz.prog 13 [] (.bool true) := by
 have e0 : Mc = Mc := rfl
 refine fun H => (cB.jA Tryz.func13 rfl rfl (Nat.zero_le _) (.bool _) (aK.go II mixed (aB.jc rfl (Fn rfl) rfl CO (aB.n2 10 rfl (bf (aH rfl) (Fn rfl) rfl rfl (Eg H)) (aB.n1 5 rfl (ve (aH rfl) pI rfl rfl) (aB.n1 7 rfl (bB (aH rfl) mI rfl rfl (AF H) rfl) (aB.d1 rfl (bB (aH rfl) mI rfl rfl (AF H) rfl) (aB.n1 0 rfl (bR (aH rfl) nZ rfl rfl (by decide) (by decide)) (aB.n1 7 rfl (bB (aH rfl) nV rfl rfl (GV H) rfl) (aB.d1 rfl (bB (aH rfl) mI rfl rfl (AF H) rfl) (aB.n1 0 rfl (bR (aH rfl) nZ rfl rfl (by decide) (by decide)) ?_)))))))))))
 exact aB.d1 rfl (bB (aH rfl) nV rfl rfl (GV H) rfl) (aB.d1 rfl (ak (aH rfl) zv rfl rfl (by decide) rfl rfl) (⟨.inr rfl, (aM.r1 rfl (.tmp rfl .nil)).cast rfl, ⟨_, rfl, GW H⟩⟩))
section
variable {ps : List aQ} (hP : gO ps) {k : Nat} {q : aQ} (hq : ps[k]? = some q) (bh : Bool) (K : Hp)
include hP hq
end
theorem GP : fo Tryz.prog 94 3 = some 3 := by kernel_rfl
theorem Dm : Tryz.prog.underlying 4 = some TypeDesc.bool := Tryz.underlying4
theorem BN {s : aL} {m0 : aU} (h : s.msgs.head? = some m0) : (s.msgs.map aU.av)[((0 : Int)).toNat]? = some (.agg m0.cells) := by
 cases hm : s.msgs with
 | nil => rw [hm] at h; cases h
 | cons a l => rw [hm] at h; cases h; rfl
theorem wz (t : Tree) (hb : t.eK) : Pure Tryz.prog 18 [.agg t.cells, .agg t.cells] (.bool true) := by
 have h := Kr t t hb
 rw [GY] at h; exact h
theorem Au (ps : List aQ) (hP : gO ps) (bh : Bool) (s : aL) (hs : s.lN) (St : Nat → aU → Prop) (S : eN ps bh s St) (m0 : aU) (h0 : s.msgs.head? = some m0) (hr : St 0 m0) (t : Tree) (hl : t.eO Tree.my) (hb : t.eK) : Pure Tryz.prog 14 [cA ps, s.av, .bool bh, .agg t.cells] (.bool true) := by
 refine fun H => ?_
 have e0 : cA ps = .agg [.sl (ps.map aQ.av)] := rfl
 have hpl : 0 < ps.length := by obtain ⟨q, hq, _⟩ := S.at_ 0 m0 hr; exact (List.getElem?_eq_some_iff.1 hq).1
 have hsp := u4 S hs hP _ t (Nat.lt_succ_self _) (nW hl) 0 m0 hr H
 have LK1 : ∀ p, loadT ps bh t H = .ok p → t.ok s m0.name = true ∧ HD ps bh (SizeOf.sizeOf t + 1) 0 t H p.1 p.2 := fun p e => by
  cases ho : t.ok s m0.name with
  | false => have := hsp.2 ho; rw [show loadT ps bh t H = _ from this] at e; cases e
  | true => obtain ⟨f, H', q1, q2⟩ := hsp.1 ho; rw [show loadT ps bh t H = _ from q1] at e; cases e; exact ⟨rfl, q2⟩
 have LK2 : ∀ u, loadT ps bh t H = .error u → t.ok s m0.name = false := fun u e => by
  cases ho : t.ok s m0.name with
  | false => rfl
  | true => obtain ⟨f, H', q1, q2⟩ := hsp.1 ho; rw [show loadT ps bh t H = _ from q1] at e; cases e
 have SZ0 : ∀ p, loadT ps bh t H = .ok p → cB Tryz.prog 32 [p.1.ptr] p.2 (rS (some p.1)) p.2 := fun p e => Le _ (some p.1) fun g hg => by cases hg; exact (LK1 p e).2.lies.at
 have TR0 : ∀ p, loadT ps bh t H = .ok p → cB Tryz.prog 33 [cA ps, .bool bh, p.1.ptr] p.2 (.agg t.cells) p.2 := fun p e => by
  have h := xO ps bh _ p.1 (LK1 p e).2.good p.2 (LK1 p e).2.lies.at
  rw [(LK1 p e).2.tree, Tree.bC] at h; exact h
 have EQ1 : ∀ p, loadT ps bh t H = .ok p → (dc (p.1.ms : Int) == dc (t.ms : Int)) = true := fun p e => by rw [(LK1 p e).2.ms]; exact beq_self_eq_true _
 have EQ2 : ∀ p, loadT ps bh t H = .ok p → (dc (p.1.vs : Int) == dc (t.vs : Int)) = true := fun p e => by rw [(LK1 p e).2.vn]; exact beq_self_eq_true _
 have DN : ∀ p, loadT ps bh t H = .ok p → (!(p.1.done == bh)) = true := fun p e => by rw [(LK1 p e).2.done]; cases bh <;> rfl
 refine cB.jA Tryz.func14 rfl rfl (aH rfl) (.bool _) (aK.seq (aK.region (aD.run II 4 rfl (aD.nil (aK.seq (aK.drawn mixed rfl (aY.run II 3 rfl (aY.c1 rfl (aX (aH rfl) (Fn rfl) rfl (LM t hl)) ?_))))))))
 cases hp1 : loadT ps bh t H with
 | ok x1 => 
  refine aY.c2 rfl (bf (aH rfl) (Fn rfl) rfl rfl (kO.HG (zU ps hP hpl bh t (nW hl) hb H) hp1)) (aY.run II 5 rfl (aY.nil (by kernel_rfl) (Kept.now (aK.seq (aK.seq (aK.drawn mixed rfl (aY.run II 4 rfl (aY.c1 rfl (ak (aH rfl) bW rfl rfl (by decide) (BN h0) rfl) (aY.run II 3 rfl (aY.c1 rfl (aX (aH rfl) (Fn rfl) rfl (zK s (u2 hs) t hb m0.name)) (aY.run II 2 rfl ?_)))))))))))
  iterate 2 (refine aY.g1 rfl (aH rfl) rfl (by rw [(LK1 _ hp1).1]; rfl) (oO (aH rfl) rfl) ?_)
  refine aY.g1 rfl (aH rfl) rfl (by rw [(LK1 _ hp1).1]; rfl) (ve (aH rfl) pI rfl rfl) ?_
  refine aY.g1 rfl (aH rfl) rfl (by rw [(LK1 _ hp1).1]; rfl) (vf (aH rfl) Dm rfl rfl) ?_
  refine aY.c1 rfl (oN (aH rfl) rfl (by rw [(LK1 _ hp1).1]; rfl) rfl) ?_
  refine aY.nil (by kernel_rfl) (Kept.now (aK.q7 rfl rfl (aK.skip (aK.seq (aK.seq (aK.region (aD.run II 2 rfl (aD.nil (aK.q7 rfl (congrArg not rfl) (aK.skip (aK.seq (aK.region (aD.run II 1 rfl (aD.c1 rfl (bu (aH rfl) (Fn rfl) rfl rfl (SZ0 _ hp1)) (aD.run II 5 rfl (aD.nil (aK.seq (aK.region (aD.run II 1 rfl ?_)))))))))))))))))))
  refine aD.c1 rfl (aX (aH rfl) (Fn rfl) rfl (EV t hb)) (aD.run II 5 rfl (aD.nil (aK.seq (aK.drawn mixed rfl (aY.run II 4 rfl ?_)))))
  iterate 2 (refine aY.g1 rfl (aH rfl) rfl (EQ1 _ hp1) (oO (aH rfl) rfl) ?_)
  refine aY.g1 rfl (aH rfl) rfl (EQ1 _ hp1) (iU (aH rfl) rfl rfl rfl) (aY.c1 rfl (mE (aH rfl) rfl (EQ1 _ hp1) rfl) (aY.run II 1 rfl (aY.g1 rfl (aH rfl) rfl (EQ2 _ hp1) (oO (aH rfl) rfl) (aY.g1 rfl (aH rfl) rfl (EQ2 _ hp1) (qp (aH rfl) rfl) (aY.g1 rfl (aH rfl) rfl (EQ2 _ hp1) (vh (aH rfl) GP rfl) (aY.g1 rfl (aH rfl) rfl (EQ2 _ hp1) (bB (aH rfl) BR rfl rfl (LK1 _ hp1).2.lies.at.o1 rfl) (aY.g1 rfl (aH rfl) rfl (EQ2 _ hp1) (oO (aH rfl) rfl) (aY.g1 rfl (aH rfl) rfl (EQ2 _ hp1) (vf (aH rfl) Dm rfl rfl) (aY.c1 rfl (mE (aH rfl) rfl (EQ2 _ hp1) rfl) (aY.run II 1 rfl (aY.g1 rfl (aH rfl) rfl (DN _ hp1) (pO (aH rfl) kF rfl rfl rfl) ?_)))))))))))
  iterate 2 (refine aY.g1 rfl (aH rfl) rfl (DN _ hp1) (oO (aH rfl) rfl) ?_)
  exact aY.g1 rfl (aH rfl) rfl (DN _ hp1) (bu (aH rfl) (Fn rfl) rfl rfl (TR0 _ hp1)) (aY.g1 rfl (aH rfl) rfl (DN _ hp1) (pO (aH rfl) mK rfl rfl rfl) (aY.g1 rfl (aH rfl) rfl (DN _ hp1) (aX (aH rfl) (Fn rfl) rfl (wz t hb)) (aY.c1 rfl (mE (aH rfl) rfl (DN _ hp1) rfl) (aY.run II 1 rfl (aY.nil (by kernel_rfl) (Kept.now (aK.ret (⟨.inr rfl, (aM.r1 rfl (.tmp rfl .nil)).cast rfl, ⟨_, rfl, (LK1 _ hp1).2.more⟩⟩))))))))
 | error e1 => 
  refine aY.c1 rfl (bu (aH rfl) (Fn rfl) rfl rfl (kO.wN (zU ps hP hpl bh t (nW hl) hb H) hp1)) (aY.run II 5 rfl (aY.nil (by kernel_rfl) (Kept.now (aK.seq (aK.seq (aK.drawn mixed rfl (aY.run II 4 rfl (aY.c1 rfl (ak (aH rfl) bW rfl rfl (by decide) (BN h0) rfl) (aY.run II 3 rfl (aY.c1 rfl (aX (aH rfl) (Fn rfl) rfl (zK s (u2 hs) t hb m0.name)) (aY.run II 2 rfl ?_)))))))))))
  iterate 2 (refine aY.g1 rfl (aH rfl) rfl (by rw [LK2 _ hp1]; rfl) (oO (aH rfl) rfl) ?_)
  refine aY.g1 rfl (aH rfl) rfl (by rw [LK2 _ hp1]; rfl) (ve (aH rfl) pI rfl rfl) ?_
  refine aY.g1 rfl (aH rfl) rfl (by rw [LK2 _ hp1]; rfl) (vf (aH rfl) Dm rfl rfl) ?_
  refine aY.c1 rfl (oN (aH rfl) rfl (by rw [LK2 _ hp1]; rfl) rfl) ?_
  exact aY.nil (by kernel_rfl) (Kept.now (aK.q7 rfl rfl (aK.skip (aK.seq (aK.seq (aK.region (aD.run II 2 rfl (aD.nil (aK.xz rfl (congrArg not rfl) (aK.seq (aK.region (aD.run II 1 rfl (aD.nil (aK.ret (⟨.inr rfl, (aM.r1 rfl (.tmp rfl .nil)).cast rfl, ⟨_, rfl, Hp.more.refl _⟩⟩)))))))))))))))
theorem C0 (s : aL) (l : List aS) (t u : Tree) (hc : m5 s l) (ht : t.eK) (hu : u.eK) : Pure Tryz.prog 7 [kL s l, .sl [.agg t.cells, .agg u.cells]] (.bool (gp s l [t, u])) := by
 have h := E4 s l [t, u] hc (fun x hx => by rcases List.mem_cons.1 hx with rfl | hx; exact ht; cases List.mem_singleton.1 hx; exact hu) (by simp)
 simp only [List.map_cons, List.map_nil, Tree.bC] at h
 exact h
structure Ml (s : aL) (l : List aS) (L : List aL) (m0 m1 : aU) : Prop where
 parts : gO (lower s l)
 iV : s.lN
 FQ : (L.getD l.length oG).lN
 inS : eN (lower s l) false s fun k m => s.msgs[k]? = some m
 outS : ∃ St, eN (lower s l) true (L.getD l.length oG) St ∧ St 0 m1
 hd0 : s.msgs.head? = some m0
 hd1 : (L.getD l.length oG).msgs.head? = some m1
theorem Gp {s : aL} {l : List aS} {L : List aL} (h : s.all l = .ok L) : s.lN := by
 unfold aL.all at h
 split at h
 ·cases h
 rename_i h1
 exact aL.gI (by simpa using h1)
theorem J8 {s : aL} {l : List aS} {L : List aL} (h : s.all l = .ok L) (hl : l.length ≤ 40) : ∃ m0 m1, Ml s l L m0 m1 := by
 have hs := Gp h
 obtain ⟨h1, t, h2, I⟩ := Bg h
 obtain ⟨B, C⟩ := wH h
 have ht : L.getD l.length oG = t := by rw [List.getD_eq_getElem?_getD, h2]; rfl
 have head : ∀ {r : aL}, r.lN → ∃ m, r.msgs.head? = some m := fun {r} hr => by
  cases e : r.msgs with
  | nil => have := hr.ne; rw [e] at this; simp at this
  | cons a l => exact ⟨a, rfl⟩
 obtain ⟨m0, e0⟩ := head hs
 obtain ⟨m1, e1⟩ := head I.ok
 refine ⟨m0, m1, pz.parts B hl, hs, by rw [ht]; exact I.ok, C.yq hs, ⟨_, by rw [ht]; exact I.yq, ?_⟩, e0, by rw [ht]; exact e1⟩
 refine ⟨List.mem_of_mem_head? e1, ?_⟩
 have := I.root
 rw [e1, List.head?_eq_getElem?] at this
 exact this
def al.makes (x : al) : List Int := if x.kind = 2 then [x.b, x.c] else if x.kind = 3 then [x.c] else if x.kind = 4 ∨ x.kind = 5 then [x.b] else if x.kind = 7 then [x.a] else []
def al.dQ (x : al) : List Int := if x.kind = 2 ∨ x.kind = 4 ∨ x.kind = 5 then [x.a] else if x.kind = 3 then [x.a, x.b] else []
def pa (l : List Int) (n : Int) : Bool := l.any (· == n)
def al.has (x : al) (r : Int) : Bool := if x.kind = 1 then x.a == r else pa x.makes r || pa x.dQ r || pa x.aE r
def fR (l : List al) (r : Int) : Nat := l.countP fun x => x.has r
def eW (at_ : List Int) : Nat → List al → List al
 | _, [] => []
 | i, x :: l => if pa at_ (i : Int) then eW at_ (i + 1) l else x :: eW at_ (i + 1) l
def pA (p q r : Int) : Int := if r = p then q else r
def al.clean (x : al) : al := if x.kind = 1 ∨ x.kind = 7 then { x with b := 0, c := 0 } else if x.kind = 4 ∨ x.kind = 5 then { x with c := 0 } else if x.kind = 6 then { x with a := 0, b := 0, c := 0 } else x
def al.cO (p q : Int) (x : al) : al := ({ x with a := pA p q x.a, b := pA p q x.b, c := pA p q x.c, aE := x.aE.map (pA p q) } : al).clean
def Port.cO (p q : Int) (x : Port) : Port := { x with reg := pA p q x.reg }
def aQ.cO (p q : Int) (x : aQ) : aQ := { x with ops := x.ops.map (al.cO p q), outs := x.outs.map (Port.cO p q) }
def aQ.drop (at_ : List Int) (x : aQ) : aQ := { x with ops := eW at_ 0 x.ops }
def sZ (a b : Int × Nat) : Int × Nat := (max a.1 b.1, min a.2 b.2)
def G7 (a b : Int × Nat) : Bool := sZ a b == b
def al.own (x : al) : Int × Nat := (x.lo, x.hi)
def mz (p : aQ) (x : al) : Bool :=
 if x.kind = 1 then G7 x.own (dq x.src) && G7 x.own (dq x.dst)
 else if x.kind = 7 then decide (x.dv.n = 0) && x.dv.s == [] && !(p.outs.any fun y => y.reg == x.a) && decide (fR p.ops x.a = 1)
 else false
def mU (x y : al) : al := { x with dst := y.dst, lo := (sZ x.own y.own).1, hi := (sZ x.own y.own).2 }
def tQ (w : aQ) : Bool := match w.ops, w.outs with
 | [], [y] => (match w.ins with | z :: _ => y.reg == z.reg | [] => false)
 | _, _ => false
def gD (all : List aQ) (p : aQ) (i k : Nat) (x y : al) : Option aQ :=
 if x.kind = 1 ∧ y.kind = 1 ∧ x.a = y.a then some (aQ.drop [(k : Int)] { p with ops := p.ops.set i (mU x y) })
 else if x.kind = 2 ∧ y.kind = 3 ∧ x.b = y.a ∧ x.c = y.b ∧ fR p.ops x.b = 2 ∧ fR p.ops x.c = 2 then some ((p.drop [(i : Int), (k : Int)]).cO y.c x.a)
 else if x.kind = 3 ∧ y.kind = 2 ∧ x.c = y.a ∧ fR p.ops x.c = 2 then some (((p.drop [(i : Int), (k : Int)]).cO y.b x.a).cO y.c x.b)
 else if x.kind = 4 ∧ y.kind = 5 ∧ x.b = y.a ∧ tQ (all.getD x.part.toNat bS) = true then some ((p.drop [(i : Int), (k : Int)]).cO y.b x.a)
 else none
def fK {α β : Type} (f : Nat → α → Option β) : Nat → List α → Option β
 | _, [] => none
 | i, x :: l => (f i x).orElse fun _ => fK f (i + 1) l
def jL (all : List aQ) (p : aQ) : Option aQ :=
 fK (fun i x => if mz p x then some (p.drop [(i : Int)]) else fK (fun k y => gD all p i k x y) (i + 1) (p.ops.drop (i + 1))) 0 p.ops
def iR (all : List aQ) : Option (List aQ) := fK (fun i p => (jL all p).map fun q => all.set i q) 0 all
def la : Nat → List aQ → List aQ
 | 0, l => l
 | n + 1, l => match iR l with | some r => la n r | none => l
def kE (l : List aQ) : Nat := (l.map fun p => p.ops.length).sum
def sx (l : List aQ) : List aQ := la (kE l) l
theorem eA {α β : Type} {f : Nat → α → Option β} : ∀ {l : List α} {i : Nat} {r : β}, fK f i l = some r → ∃ j x, l[j]? = some x ∧ f (i + j) x = some r
 | [], i, r, h => by simp [fK] at h
 | x :: l, i, r, h => by
  rw [fK] at h
  cases e : f i x with
  | some b => rw [e] at h; exact ⟨0, x, rfl, by rw [Nat.add_zero, e]; simpa using h⟩
  | none =>
   rw [e] at h
   obtain ⟨j, y, h1, h2⟩ := eA (l := l) (i := i + 1) (by simpa using h)
   exact ⟨j + 1, y, h1, by rw [show i + (j + 1) = i + 1 + j from by omega]; exact h2⟩
theorem dx (a : List Int) : ∀ (l : List al) (i : Nat), (eW a i l).Sublist l
 | [], i => by simp [eW]
 | x :: l, i => by
  rw [eW]
  split
  ·exact (dx a l (i + 1)).trans (List.sublist_cons_self x l)
  ·exact (dx a l (i + 1)).cons_cons x
theorem tJ (a : List Int) : ∀ (l : List al) (i j : Nat), j < l.length → pa a ((i + j : Nat) : Int) = true → (eW a i l).length < l.length
 | [], i, j, h, _ => by simp at h
 | x :: l, i, j, h, ha => by
  rw [eW]
  have hs := (dx a l (i + 1)).length_le
  split
  ·simp; omega
  ·rename_i hn
   cases j with
   | zero => rw [Nat.add_zero] at ha; exact absurd ha hn
   | succ j =>
    have := tJ a l (i + 1) j (by simpa using h) (by rw [show i + 1 + j = i + (j + 1) from by omega]; exact ha)
    simp; omega
def MH (x : al) : Nat := (if x.kind = 4 then 10 else 0) + (if x.kind = 7 then 15 + x.dv.s.length else 0)
def jx (l : List al) : Nat := (l.map MH).sum
def G8 (l : List aQ) : Nat := (l.map fun p => jx p.ops).sum
theorem nb (x : al) : x.clean.kind = x.kind ∧ x.clean.dv = x.dv ∧ x.clean.part = x.part ∧ x.clean.lo = x.lo ∧ x.clean.hi = x.hi ∧ x.clean.src = x.src ∧ x.clean.dst = x.dst := by
 unfold al.clean; split
 ·simp
 ·split
  ·simp
  ·split <;> simp
theorem wu (p q : Int) (x : al) : (x.cO p q).kind = x.kind ∧ (x.cO p q).dv = x.dv ∧ (x.cO p q).part = x.part := ⟨(nb _).1, (nb _).2.1, (nb _).2.2.1⟩
theorem JB (p q : Int) (x : al) : MH (x.cO p q) = MH x := by unfold MH; rw [(wu p q x).1, (wu p q x).2.1]
theorem DY (p q : Int) (l : List al) : jx (l.map (al.cO p q)) = jx l := by
 unfold jx; rw [List.map_map]; congr 1; exact List.map_congr_left fun x _ => JB p q x
theorem H9 {l m : List Nat} (h : l.Sublist m) : l.sum ≤ m.sum := by
 induction h with
 | slnil => exact Nat.le_refl _
 | cons a h ih => simp; omega
 | cons_cons a h ih => simp; omega
theorem AG (a : List Int) (l : List al) (i : Nat) : jx (eW a i l) ≤ jx l := H9 ((dx a l i).map MH)
theorem DX {l : List al} {i : Nat} {x y : al} (h : l[i]? = some x) (hc : MH y = MH x) : jx (l.set i y) = jx l := by
 unfold jx
 rw [List.map_set, hc]
 congr 1
 refine List.ext_getElem? fun j => ?_
 rw [List.getElem?_set]
 split
 ·rename_i e; subst e
  split
  ·rw [List.getElem?_map, h]; rfl
  ·rename_i hn
   rw [List.length_map] at hn
   rw [List.getElem?_eq_none (by simp; omega)]
 ·rfl
structure te (p q : aQ) : Prop where
 name : q.name = p.name
 ins : q.ins = p.ins
 aE : q.aE = p.aE
 fB : q.fB = p.fB
 born : q.born = p.born
 outs : q.outs.length = p.outs.length
 cost : jx q.ops ≤ jx p.ops
 len : q.ops.length < p.ops.length
theorem aQ.k8 {p : aQ} {a : List Int} {j : Nat} (hj : j < p.ops.length) (ha : pa a (j : Int) = true) : te p (p.drop a) :=
 ⟨rfl, rfl, rfl, rfl, rfl, rfl, AG a p.ops 0, tJ a p.ops 0 j hj (by rw [Nat.zero_add]; exact ha)⟩
theorem te.cO {p q : aQ} (h : te p q) (u v : Int) : te p (q.cO u v) :=
 ⟨h.name, h.ins, h.aE, h.fB, h.born, by simp [aQ.cO, h.outs], by rw [show (q.cO u v).ops = q.ops.map (al.cO u v) from rfl, DY]; exact h.cost, by simp [aQ.cO, h.len]⟩
theorem ew (n : Int) (l : List Int) : pa (n :: l) n = true := by simp [pa]
theorem zT {all : List aQ} {p q : aQ} {i k : Nat} {x y : al} (hx : p.ops[i]? = some x) (hk : k < p.ops.length) (h : gD all p i k x y = some q) : te p q := by
 have hi : i < p.ops.length := by
  apply Classical.byContradiction; intro hn
  rw [List.getElem?_eq_none (by omega)] at hx; cases hx
 unfold gD at h
 split at h
 ·rename_i hc
  cases h
  have := aQ.k8 (p := { p with ops := p.ops.set i (mU x y) }) (a := [(k : Int)]) (j := k) (by simpa using hk) (ew _ _)
  have hs : jx (p.ops.set i (mU x y)) = jx p.ops := DX hx rfl
  exact ⟨rfl, rfl, rfl, rfl, rfl, rfl, Nat.le_trans this.cost (Nat.le_of_eq hs), Nat.lt_of_lt_of_eq this.len (List.length_set ..)⟩
 ·split at h
  ·cases h; exact (aQ.k8 hi (ew _ _)).cO _ _
  ·split at h
   ·cases h; exact ((aQ.k8 hi (ew _ _)).cO _ _).cO _ _
   ·split at h
    ·cases h; exact (aQ.k8 hi (ew _ _)).cO _ _
    ·cases h
theorem qJ {all : List aQ} {p q : aQ} (h : jL all p = some q) : te p q := by
 obtain ⟨i, x, h1, h2⟩ := eA h
 rw [Nat.zero_add] at h2
 have hi : i < p.ops.length := by
  apply Classical.byContradiction; intro hn
  rw [List.getElem?_eq_none (by omega)] at h1; cases h1
 split at h2
 ·cases h2; exact aQ.k8 hi (ew _ _)
 ·obtain ⟨k, y, h3, h4⟩ := eA h2
  have hk : i + 1 + k < p.ops.length := by
   rw [List.getElem?_drop] at h3
   apply Classical.byContradiction; intro hn
   rw [List.getElem?_eq_none (by omega)] at h3; cases h3
  exact zT h1 hk h4
theorem qK {all r : List aQ} (h : iR all = some r) : ∃ i p q, all[i]? = some p ∧ jL all p = some q ∧ te p q ∧ r = all.set i q := by
 obtain ⟨i, p, h1, h2⟩ := eA h
 rw [Nat.zero_add] at h2
 cases e : jL all p with
 | none => rw [e] at h2; cases h2
 | some q => rw [e] at h2; exact ⟨i, p, q, h1, e, qJ e, by simpa using h2.symm⟩
theorem vH {α : Type} (f : α → Nat) : ∀ {l : List α} {i : Nat} {x y : α}, l[i]? = some x → ((l.set i y).map f).sum + f x = (l.map f).sum + f y
 | [], i, x, y, h => by simp at h
 | z :: l, 0, x, y, h => by simp at h; subst h; simp; omega
 | z :: l, i + 1, x, y, h => by
  have := vH f (l := l) (y := y) (by simpa using h)
  simp at this ⊢; omega
theorem jj {all r : List aQ} (h : iR all = some r) : G8 r ≤ G8 all ∧ kE r < kE all := by
 obtain ⟨i, p, q, h1, _, h2, rfl⟩ := qK h
 have a := vH (fun p : aQ => jx p.ops) (y := q) h1
 have b := vH (fun p : aQ => p.ops.length) (y := q) h1
 have := h2.cost; have := h2.len
 unfold G8 kE
 constructor <;> omega
end Go.Proofs.YtgmdapgedlachaaGreatDoor.X
