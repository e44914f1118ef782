/- the document: steps of one part -/
import Derived.Test.YtlijgcifhhcfaaaGreatDoorZBG
import Derived.Test.YtlijgcifhhcfaaaGreatDoorZBE
set_option linter.unusedVariables false
set_option linter.unusedSimpArgs false
set_option linter.unusedSectionVars false
set_option maxRecDepth 100000
namespace Go.Proofs.YtlijgcifhhcfaaaGreatDoor.X
open Go Go.RowKit Go.Proofs
theorem E9 : ab Tryz.prog 102 = true := by kernel_rfl
theorem rq : ab Tryz.prog 39 = true := by kernel_rfl
theorem jS : ab Tryz.prog 61 = true := by kernel_rfl
theorem pV : ab Tryz.prog 62 = true := by kernel_rfl
theorem pU : ab Tryz.prog 63 = true := by kernel_rfl
theorem kh : se Tryz.prog 45 = some (149, 13, 144) := by kernel_rfl
theorem iv : bf Tryz.prog 149 = some [AV.int IntKind.i64 (0), AV.int IntKind.i64 (0), AV.int IntKind.i64 (0), AV.int IntKind.i64 (0), AV.int IntKind.i64 (0), AV.int IntKind.i64 (0), AV.int IntKind.i64 (0), AV.int IntKind.u64 (0), AV.int IntKind.i64 (0), AV.sl [], AV.int IntKind.u64 (0), AV.str [], AV.sl []] := by kernel_rfl
theorem lb (l : List ep) : ∀ e ∈ l.map ep.av, e.cells.length = 13 := oj (bw ep.cells (fun _ => rfl) _)
theorem gP {l : List Port} {n : au} (h : 0 ≤ bg l n) : (l.map Port.av)[(bg l n).toNat]? = some (.agg (aO l n).cells) := by
 rcases an (fun x : Port => x.f.name == n) l 0 with ⟨q1, q2⟩ | ⟨i, hi, q1, q2, q3⟩
 ·have e : bg l n = -1 := q1
  omega
 ·have e : bg l n = ((0 + i : Nat) : Int) := q1
  unfold aO
  rw [e, q2, Int.toNat_natCast, Nat.zero_add, List.getElem?_map, List.getElem?_eq_getElem hi]; rfl
theorem yT {l : List Port} {n : au} (h : ¬ 0 ≤ bg l n) : aO l n = gQ := by
 rcases an (fun x : Port => x.f.name == n) l 0 with ⟨q1, q2⟩ | ⟨i, hi, q1, q2, q3⟩
 ·unfold aO; rw [q2]; rfl
 ·have e : bg l n = ((0 + i : Nat) : Int) := q1
  omega
theorem zS {a b : Int} (h0 : -9223372036854775808 ≤ a + b) (h1 : a + b < 9223372036854775808) : qH .add (.int .i64 a) (.int .i64 b) = some (.int .i64 (a + b)) := by
 show (if IntKind.i64 = IntKind.i64 then some (AV.int .i64 (IntKind.i64.wrap (a + b))) else none) = _
 rw [if_pos rfl, eF h0 h1]
def qO (K : Hp) (p q : aj) (o : AV) : AV := if q.ops.length = p.ops.length then o else .os K.next ((p.ops.map ep.av).length + 1) 13
def qP (K : Hp) (p q : aj) (o : AV) : Hp := if q.ops.length = p.ops.length then K else ir K o (az (q.ops.map ep.av))
theorem lR {K : Hp} {p q : aj} {o : AV} (h : q.ops = p.ops) : qO K p q o = o := by unfold qO; rw [if_pos (by rw [h])]
theorem lS {K : Hp} {p q : aj} {o : AV} (h : q.ops = p.ops) : qP K p q o = K := by unfold qP; rw [if_pos (by rw [h])]
theorem iN {K : Hp} {p q : aj} {o : AV} (a : ep) (h : q.ops = p.ops ++ [a]) : qO K p q o = .os K.next ((p.ops.map ep.av).length + 1) 13 := by unfold qO; rw [if_neg (by rw [h]; simp)]
theorem iO {K : Hp} {p q : aj} {o : AV} (a : ep) (h : q.ops = p.ops ++ [a]) : qP K p q o = ir K o (az (p.ops.map ep.av ++ [a.av])) := by unfold qP; rw [if_neg (by rw [h]; simp), h, List.map_append]; rfl
def jK (f : Port) (x : aS) : ep := { j7 with kind := 1, a := f.reg, src := f.f.ty, dst := x.ty, lo := (pA f.f.ty x.ty).1, hi := (pA f.f.ty x.ty).2 }
def jJ (f : Port) (n : Int) : ep := { j7 with kind := 2, a := f.reg, b := n, c := n + 1 }
def ks (f g : Port) (n : Int) : ep := { j7 with kind := 3, a := f.reg, b := g.reg, c := n }
theorem oi {p : aj} {x : aS} (h : x.kind = 1) : aP p x = { p with outs := bY (aV p.outs x.field) { aO p.outs x.field with f := { (aO p.outs x.field).f with name := x.dest } } } := by unfold aP; rw [if_pos h]
theorem oh {p : aj} {x : aS} (h : x.kind = 2) : aP p x = { p with outs := bY (aV p.outs x.field) { aO p.outs x.field with f := { (aO p.outs x.field).f with num := x.num } } } := by unfold aP; simp [h]
theorem og {p : aj} {x : aS} (h : x.kind = 3) : aP p x = { p with ops := p.ops ++ [jK (aO p.outs x.field) x], outs := bY (aV p.outs x.field) { aO p.outs x.field with f := { (aO p.outs x.field).f with ty := x.ty } } } := by unfold aP; simp [h, jK]
theorem oe {p : aj} {x : aS} (h : x.kind = 4) : aP p x = { p with ops := p.ops ++ [jJ (aO p.outs x.field) p.aJ], aJ := p.aJ + 2, outs := bY (bY (aV p.outs x.field) (cb x.dest x.num 3 p.aJ)) (cb x.also x.other 3 (p.aJ + 1)) } := by unfold aP; simp [h, jJ]
theorem od {p : aj} {x : aS} (h : x.kind = 5) : aP p x = { p with ops := p.ops ++ [ks (aO p.outs x.field) (aO (aV p.outs x.field) x.also) p.aJ], aJ := p.aJ + 1, outs := bY (aV (aV p.outs x.field) x.also) (cb x.dest x.num 4 p.aJ) } := by unfold aP; simp [h, ks]
theorem DI (p : aj) (o : AV) (x : aS) (K : Hp) (hK : eh K o 13 (p.ops.map ep.av)) (hl : p.ops.length ≤ 1000) (ho : p.outs.length ≤ 100) (hk : x.kind = 1 ∨ x.kind = 2 ∨ x.kind = 3) : cT Tryz.prog 57 [dg p o, x.av, (aO p.outs x.field).av] K (dg (aP p x) (qO K p (aP p x) o)) (qP K p (aP p x) o) := by
 refine cT.aL Tryz.func57 rfl rfl (aF rfl) (aC.seq (aC.region (aB.run II 4 rfl (aB.nil (aC.seq (aC.region (aB.run II 4 rfl (aB.c1 rfl (aG (aF rfl) pU rfl (gM _ _ (by first | omega | (have := bL p.outs x.field; omega)))) ?_))))))))
 refine aB.run II 2 rfl (aB.nil (aC.seq (aC.seq (aC.region (aB.run II 2 rfl (aB.nil (aC.blk (aC.seq (aC.region (aB.run II 2 rfl (aB.nil (aC.cond rfl (fun hc1 => ?_) (fun hc1 => ?_)))))))))))))
 ·refine aC.region (aB.run II 5 rfl (aB.nil (aC.seq (aC.region (aB.run II 3 rfl (aB.c1 rfl (aG (aF rfl) jS rfl (fv (aV p.outs x.field) { (aO p.outs x.field) with f := { (aO p.outs x.field).f with name := x.dest } } (by have := bL p.outs x.field; omega))) ?_))))))
  exact aB.run II 2 rfl (aB.nil (aC.seq (aC.region (aB.run II 2 rfl (aB.nil (aC.ret ⟨.inr rfl, (aE.r1 rfl (.cell eg rfl rfl rfl rfl .nil)).cast (by rw [lR (p := p) (q := aP p x) (by rw [oi (by simpa using hc1)]), oi (by simpa using hc1)]; rfl), (by rw [lS (p := p) (q := aP p x) (by rw [oi (by simpa using hc1)])]; rfl)⟩))))))
 ·refine aC.seq (aC.region (aB.run II 2 rfl (aB.nil (aC.cond rfl (fun hc2 => ?_) (fun hc2 => ?_)))))
  ·refine aC.region (aB.run II 5 rfl (aB.nil (aC.seq (aC.region (aB.run II 3 rfl (aB.c1 rfl (aG (aF rfl) jS rfl (fv (aV p.outs x.field) { (aO p.outs x.field) with f := { (aO p.outs x.field).f with num := x.num } } (by have := bL p.outs x.field; omega))) ?_))))))
   exact aB.run II 2 rfl (aB.nil (aC.seq (aC.region (aB.run II 2 rfl (aB.nil (aC.ret ⟨.inr rfl, (aE.r1 rfl (.cell eg rfl rfl rfl rfl .nil)).cast (by rw [lR (p := p) (q := aP p x) (by rw [oh (by simpa using hc2)]), oh (by simpa using hc2)]; rfl), (by rw [lS (p := p) (q := aP p x) (by rw [oh (by simpa using hc2)])]; rfl)⟩))))))
  ·refine aC.seq (aC.region (aB.run II 5 rfl (aB.c1 rfl (aG (aF rfl) E9 rfl (Fo _ _)) (aB.run II 5 rfl (aB.nil (aC.seq (aC.region (aB.run II 13 rfl (aB.c3 rfl (jh (aF rfl) kh iv rfl rfl hK (lb _) rfl rfl (List.cons_ne_nil _ _) rfl (by rw [List.length_map]; simp only [List.length_cons, List.length_nil]; omega) (by rw [List.length_map]; simp only [List.length_cons, List.length_nil]; omega)) ?_)))))))))
   refine aB.run II 2 rfl (aB.nil (aC.region (aB.run II 5 rfl (aB.nil (aC.seq (aC.region (aB.run II 3 rfl (aB.c1 rfl (aG (aF rfl) jS rfl (fv (aV p.outs x.field) { (aO p.outs x.field) with f := { (aO p.outs x.field).f with ty := x.ty } } (by have := bL p.outs x.field; omega))) ?_))))))))
   exact aB.run II 2 rfl (aB.nil (aC.seq (aC.region (aB.run II 2 rfl (aB.nil (aC.ret ⟨.inr rfl, (aE.r1 rfl (.cell eg rfl rfl rfl rfl .nil)).cast (by rw [iN (jK (aO p.outs x.field) x) (p := p) (q := aP p x) (by rw [og (by have h1 : x.kind ≠ 1 := (by simpa using hc1); have h2 : x.kind ≠ 2 := (by simpa using hc2); omega)]), og (by have h1 : x.kind ≠ 1 := (by simpa using hc1); have h2 : x.kind ≠ 2 := (by simpa using hc2); omega)]; rfl), (by rw [iO (jK (aO p.outs x.field) x) (p := p) (q := aP p x) (by rw [og (by have h1 : x.kind ≠ 1 := (by simpa using hc1); have h2 : x.kind ≠ 2 := (by simpa using hc2); omega)])]; rfl)⟩))))))
theorem yE (p : aj) (o : AV) (x : aS) (K : Hp) (hK : eh K o 13 (p.ops.map ep.av)) (hl : p.ops.length ≤ 1000) (ho : p.outs.length ≤ 100) (hr : 0 ≤ p.aJ ∧ p.aJ ≤ 1000) (hk : x.kind = 4 ∨ x.kind = 5) (hg : x.kind = 5 → 0 ≤ bg (aV p.outs x.field) x.also) : cT Tryz.prog 58 [dg p o, x.av, (aO p.outs x.field).av] K (dg (aP p x) (qO K p (aP p x) o)) (qP K p (aP p x) o) := by
 refine cT.aL Tryz.func58 rfl rfl (aF rfl) (aC.seq (aC.region (aB.run II 4 rfl (aB.nil (aC.seq (aC.region (aB.run II 3 rfl (aB.nil (aC.seq (aC.region (aB.run II 4 rfl (aB.c1 rfl (aG (aF rfl) pU rfl (gM _ _ (by first | omega | (have := bL p.outs x.field; omega)))) ?_))))))))))))
 refine aB.run II 2 rfl (aB.nil (aC.seq (aC.seq (aC.region (aB.run II 2 rfl (aB.c1 rfl (dM (aF rfl) rfl rfl rfl)  (aB.nil (aC.cond rfl (fun hc1 => ?_) (fun hc1 => ?_)))))))))
 ·refine aC.seq (aC.region (aB.run II 6 rfl (aB.c1 rfl (dM (aF rfl) rfl rfl (zS (by omega) (by omega))) (aB.run II 2 rfl (aB.c3 rfl (jh (aF rfl) kh iv rfl rfl hK (lb _) rfl rfl (List.cons_ne_nil _ _) rfl (by rw [List.length_map]; simp only [List.length_cons, List.length_nil]; omega) (by rw [List.length_map]; simp only [List.length_cons, List.length_nil]; omega)) ?_)))))
  refine aB.run II 2 rfl (aB.nil (aC.seq (aC.region (aB.run II 1 rfl (aB.c1 rfl (dM (aF rfl) rfl rfl (zS (by omega) (by omega))) (aB.run II 2 rfl (aB.nil (aC.seq (aC.drawn mixed rfl (aD.run II 7 rfl (aD.c1 rfl (aG (aF rfl) pV rfl (l6 _ _ _ _)) (aD.c1 rfl (aG (aF rfl) jS rfl (fv (aV p.outs x.field) (cb x.dest x.num 3 p.aJ) (by have := bL p.outs x.field; omega))) ?_))))))))))))
  refine aD.run II 5 rfl (aD.c1 rfl (dM (aF rfl) rfl rfl (zS (by omega) (by omega))) (aD.c1 rfl (aG (aF rfl) pV rfl (l6 _ _ _ _)) (aD.c1 rfl (aG (aF rfl) jS rfl (fv (bY (aV p.outs x.field) (cb x.dest x.num 3 p.aJ)) (cb x.also x.other 3 (p.aJ + 1)) (by rw [dT]; have := bL p.outs x.field; omega))) ?_)))
  exact aD.run II 2 rfl (aD.nil (by kernel_rfl) (Kept.now (aC.seq (aC.region (aB.run II 2 rfl (aB.nil (aC.ret ⟨.inr rfl, (aE.r1 rfl (.cell eg rfl rfl rfl rfl .nil)).cast (by rw [iN (jJ (aO p.outs x.field) p.aJ) (p := p) (q := aP p x) (by rw [oe (by simpa using hc1)]), oe (by simpa using hc1)]; rfl), (by rw [iO (jJ (aO p.outs x.field) p.aJ) (p := p) (q := aP p x) (by rw [oe (by simpa using hc1)])]; rfl)⟩)))))))
 ·refine aC.skip (aC.seq (aC.drawn mixed rfl (aD.run II 6 rfl (aD.c1 rfl (aG (aF rfl) rq rfl (l5 _ _ (by have := bL p.outs x.field; omega))) ?_))))
  refine aD.c1 rfl (aH (aF rfl) cG rfl rfl (hg (by have : x.kind ≠ 4 := (by simpa using hc1); omega)) (gP (hg (by have : x.kind ≠ 4 := (by simpa using hc1); omega))) rfl) ?_
  refine aD.run II 3 rfl (aD.nil (by kernel_rfl) (Kept.now (aC.seq (aC.region (aB.run II 9 rfl (aB.c3 rfl (jh (aF rfl) kh iv rfl rfl hK (lb _) rfl rfl (List.cons_ne_nil _ _) rfl (by rw [List.length_map]; simp only [List.length_cons, List.length_nil]; omega) (by rw [List.length_map]; simp only [List.length_cons, List.length_nil]; omega)) ?_))))))
  refine aB.run II 2 rfl (aB.nil (aC.seq (aC.region (aB.run II 1 rfl (aB.c1 rfl (dM (aF rfl) rfl rfl (zS (by omega) (by omega))) (aB.run II 2 rfl (aB.nil (aC.seq (aC.drawn mixed rfl (aD.run II 4 rfl (aD.c1 rfl (aG (aF rfl) pU rfl (gM _ _ (by first | omega | (have := bL p.outs x.field; omega)))) ?_)))))))))))
  refine aD.run II 5 rfl (aD.c1 rfl (aG (aF rfl) pV rfl (l6 _ _ _ _)) (aD.c1 rfl (aG (aF rfl) jS rfl (fv (aV (aV p.outs x.field) x.also) (cb x.dest x.num 4 p.aJ) (by have := bL (aV p.outs x.field) x.also; have := bL p.outs x.field; omega))) ?_))
  exact aD.run II 2 rfl (aD.nil (by kernel_rfl) (Kept.now (aC.seq (aC.region (aB.run II 2 rfl (aB.nil (aC.ret ⟨.inr rfl, (aE.r1 rfl (.cell eg rfl rfl rfl rfl .nil)).cast (by rw [iN (ks (aO p.outs x.field) (aO (aV p.outs x.field) x.also) p.aJ) (p := p) (q := aP p x) (by rw [od (by have : x.kind ≠ 4 := (by simpa using hc1); omega)]), od (by have : x.kind ≠ 4 := (by simpa using hc1); omega)]; rfl), (by rw [iO (ks (aO p.outs x.field) (aO (aV p.outs x.field) x.also) p.aJ) (p := p) (q := aP p x) (by rw [od (by have : x.kind ≠ 4 := (by simpa using hc1); omega)])]; rfl)⟩)))))))
/- the document: fields that come into a oneof -/
theorem qg : lk Tryz.prog 9 = some (false, 1) := by kernel_rfl
theorem zj : zk Tryz.prog 149 = some [(0, 1), (1, 1), (2, 1), (3, 1), (4, 1), (5, 1), (6, 1), (7, 1), (8, 1), (9, 1), (10, 3)] := by kernel_rfl
theorem IH : mx Tryz.prog 149 = some [.int .i64 0, .int .i64 0, .int .i64 0, .int .i64 0, .int .i64 0, .int .i64 0, .int .i64 0, .int .u64 0, .int .i64 0, .nsl, .int .u64 0, .str [], .nsl] := by kernel_rfl
structure Mv (K : Hp) (o : AV) (K' : Hp) (o' : AV) (ops : List ep) : Prop where
 fin : K'.fin
 nx : K.next ≤ K'.next
 aI : ∀ j, j < K.next → (∀ n e, o ≠ .os j n e) → K'.obj j = K.obj j
 res : eh K' o' 13 (ops.map ep.av)
 fresh : o' = o ∨ ∃ id n e, o' = .os id n e ∧ K.next ≤ id
theorem Mv.same {K : Hp} {o : AV} {ops : List ep} (hf : K.fin) (h : eh K o 13 (ops.map ep.av)) : Mv K o K o ops := ⟨hf, Nat.le_refl _, fun _ _ _ => rfl, h, .inl rfl⟩
theorem we {K : Hp} (h : K.fin) (cs : List Hc) : (K.new cs).fin := fun i hi => by
 have h1 : K.next + 1 ≤ i := hi
 have e : (K.new cs).obj i = if i = K.next then some cs else K.obj i := rfl
 rw [e, if_neg (by omega), h i (by omega)]
theorem xS {K : Hp} (h : K.fin) (id : Nat) : (K.del id).fin := fun i hi => by
 have e : (K.del id).obj i = if i = id then none else K.obj i := rfl
 rw [e]
 split
 ·rfl
 ·exact h i hi
theorem wK {K : Hp} (h : K.fin) {id : Nat} (hi : id < K.next) (cs : List Hc) : (K.set id cs).fin := fun i hl => by
 have h1 : K.next ≤ i := hl
 have e : (K.set id cs).obj i = if i = id then some cs else K.obj i := rfl
 rw [e, if_neg (by omega)]; exact h i h1
theorem pc {K : Hp} (k : Nat) (cs : List Hc) : (K.bump k cs).fin := fun i hi => by
 have h1 : K.next + k + 1 ≤ i := hi
 have e : (K.bump k cs).obj i = if i = K.next + k then some cs else if i < K.next then K.obj i else none := rfl
 rw [e, if_neg (by omega), if_neg (by omega)]
theorem pj {K : Hp} (h : K.fin) (o : AV) (cs : List Hc) : (ir K o cs).fin := by
 cases o <;> first | exact we h cs | exact we (xS h _) cs
theorem kV {K : Hp} {o : AV} {cs : List Hc} : (ir K o cs).next = K.next + 1 := by cases o <;> rfl
theorem uL {K : Hp} {o : AV} {cs : List Hc} : (ir K o cs).obj K.next = some cs := by cases o <;> exact Hp.dZ _ _
theorem jz {K : Hp} {o : AV} {cs : List Hc} {j : Nat} (hj : j < K.next) (ho : ∀ n e, o ≠ .os j n e) : (ir K o cs).obj j = K.obj j := by
 cases o
 case os id n e =>
  have hne : j ≠ id := fun e2 => ho n e (by rw [e2])
  show (if j = K.next then some cs else if j = id then none else K.obj j) = K.obj j
  rw [if_neg (by omega), if_neg hne]
 all_goals exact Hp.kN _ _ hj
theorem jr {K : Hp} (hf : K.fin) {o : AV} {e : Nat} {xs : List AV} (h : eh K o e xs) {id n e' : Nat} (ho : o = .os id n e') : id < K.next := by
 rcases h with ⟨rfl, _⟩ | ⟨id', rfl, h2⟩
 ·cases ho
 ·cases ho
  apply Classical.byContradiction
  intro hn
  rw [hf id (by omega)] at h2; cases h2
theorem ib {K K' : Hp} {o : AV} {e : Nat} {xs : List AV} (h : eh K o e xs) (hk : ∀ id n e', o = .os id n e' → K'.obj id = K.obj id) : eh K' o e xs := by
 rcases h with h | ⟨id, h1, h2⟩
 ·exact .inl h
 ·exact .inr ⟨id, h1, by rw [hk id _ _ h1]; exact h2⟩
theorem Mv.app {K : Hp} {o : AV} {ops : List ep} (hf : K.fin) (a : ep) : Mv K o (ir K o (az (ops.map ep.av ++ [a.av]))) (.os K.next ((ops.map ep.av).length + 1) 13) (ops ++ [a]) :=
 ⟨pj hf _ _, by rw [kV]; omega, fun j hj ho => jz hj ho, .inr ⟨K.next, by simp, by rw [uL, List.map_append]; rfl⟩, .inr ⟨_, _, _, rfl, Nat.le_refl _⟩⟩
def gU (x : aS) (i : Nat) (y : Port) : Port := if (x.names.take i).any (fun s => s == y.f.name) then { y with f := { y.f with one := x.field } } else y
def cf (p : aj) (x : aS) (i : Nat) : List Port := p.outs.map (gU x i)
theorem oc (x : aS) (i : Nat) (y : Port) : (gU x i y).f.name = y.f.name := by unfold gU; split <;> rfl
theorem y8 (x : aS) (i : Nat) (y : Port) : (gU x i y).reg = y.reg := by unfold gU; split <;> rfl
theorem pK {α : Type} {q : α → Bool} {g : α → α} (h : ∀ y, q (g y) = q y) : ∀ (l : List α) (k : Nat), bP q (l.map g) k = bP q l k
 | [], _ => rfl
 | a :: l, k => by simp only [List.map_cons, bP, h, pK h l (k + 1)]
theorem ed {p : aj} {x : aS} {i : Nat} {n : au} : bg (cf p x i) n = bg p.outs n := pK (fun y => by rw [oc]) _ _
theorem fC {p : aj} {x : aS} {i : Nat} : (cf p x i).length = p.outs.length := by unfold cf; simp
theorem kK {l : List Port} {n : au} (h : 0 ≤ bg l n) : ∃ (k : Nat) (hk : k < l.length), bg l n = (k : Int) ∧ (l[k]).f.name = n ∧ aO l n = l[k] := by
 rcases an (fun x : Port => x.f.name == n) l 0 with ⟨q1, q2⟩ | ⟨i, hi, q1, q2, q3⟩
 ·have e : bg l n = -1 := q1
  omega
 ·refine ⟨i, hi, by rw [show bg l n = ((0 + i : Nat) : Int) from q1, Nat.zero_add], by simpa using q3, ?_⟩
  unfold aO; rw [q2]; rfl
theorem mZ {p : aj} {x : aS} {i k : Nat} (hk : k < (cf p x i).length) (hk' : k < p.outs.length) : (cf p x i)[k] = gU x i p.outs[k] := by simp [cf]
theorem y7 (x : aS) (i : Nat) (y : Port) : ({ gU x i y with f := { (gU x i y).f with one := x.field } } : Port) = { y with f := { y.f with one := x.field } } := by unfold gU; split <;> rfl
theorem Dh {p : aj} {x : aS} : cf p x 0 = p.outs := by
 unfold cf
 have : gU x 0 = id := by funext y; unfold gU; simp
 rw [this, List.map_id]
theorem bN {l : List Port} {n : au} (h : 0 ≤ bg l n) : bg l n < (l.length : Int) := by
 obtain ⟨k, hk, e, _⟩ := kK h
 omega
theorem y1 {p : aj} {x : aS} {i : Nat} {n : au} (h : 0 ≤ bg p.outs n) : (aO (cf p x i) n).reg = (aO p.outs n).reg := by
 obtain ⟨k, hk, e1, e2, e3⟩ := kK h
 obtain ⟨k', hk', e1', e2', e3'⟩ := kK (l := cf p x i) (by rw [ed]; exact h)
 rw [ed, e1] at e1'
 have : k' = k := by omega
 subst this
 rw [e3, e3']
 rw [mZ hk' hk, y8]
theorem uy {p : aj} {x : aS} {i : Nat} (hi : i < x.names.length) (hnd : (p.outs.map fun y => y.f.name).Nodup) (h : 0 ≤ bg p.outs x.names[i]) :
  ((cf p x i).map Port.av).set (bg (cf p x i) x.names[i]).toNat (.agg ((aO (cf p x i) x.names[i]).cells.set 6 (.str x.field))) = (cf p x (i + 1)).map Port.av := by
 obtain ⟨k, hk, e1, e2, e3⟩ := kK (l := cf p x i) (n := x.names[i]) (by rw [ed]; exact h)
 have hk' : k < p.outs.length := by rw [fC] at hk; exact hk
 rw [e1, e3, Int.toNat_natCast]
 have ea : (.agg ((cf p x i)[k].cells.set 6 (.str x.field)) : AV) = ({ (cf p x i)[k] with f := { (cf p x i)[k].f with one := x.field } } : Port).av := rfl
 rw [ea, ← List.map_set]
 congr 1
 refine List.ext_getElem? fun j => ?_
 have hname : p.outs[k].f.name = x.names[i] := by
  rw [← e2, mZ hk hk', oc]
 have htk : x.names.take (i + 1) = x.names.take i ++ [x.names[i]] := by rw [List.take_add_one, List.getElem?_eq_getElem hi]; rfl
 by_cases hj : j = k
 ·subst hj
  rw [List.getElem?_set_self hk]
  rw [mZ hk hk', y7]
  unfold cf
  rw [List.getElem?_map, List.getElem?_eq_getElem hk', Option.map_some]
  congr 1
  unfold gU
  rw [htk, List.any_append]
  simp [hname]
 ·rw [List.getElem?_set_ne (fun e => hj e.symm)]
  unfold cf
  rw [List.getElem?_map, List.getElem?_map]
  cases hy : p.outs[j]? with
  | none => rfl
  | some y =>
   simp only [Option.map_some]
   congr 1
   have hne : y.f.name ≠ x.names[i] := fun e => by
    rw [← hname] at e
    have hjl := (List.getElem?_eq_some_iff.1 hy).1
    have h1 : (p.outs.map fun y => y.f.name)[j]? = (p.outs.map fun y => y.f.name)[k]? := by
     rw [List.getElem?_map, List.getElem?_map, hy, List.getElem?_eq_getElem hk']; simp [e]
    exact hj ((List.getElem?_inj (by simpa using hjl) hnd).1 h1)
   unfold gU
   rw [htk, List.any_append]
   have : ([x.names[i]].any fun s => s == y.f.name) = false := by simp; exact fun e => hne e.symm
   rw [this, Bool.or_false]
def ln (p : aj) (x : aS) (i : Nat) : List Int := (x.names.take i).map fun s => (aO p.outs s).reg
theorem uz {p : aj} {x : aS} {i : Nat} (hi : i < x.names.length) : (ln p x i).map jQ ++ [AV.int .i64 (aO p.outs x.names[i]).reg] = (ln p x (i + 1)).map jQ := by
 unfold ln
 rw [List.take_add_one, List.getElem?_eq_getElem hi, List.map_append, List.map_append]; rfl
theorem qe {p : aj} {x : aS} {i : Nat} : (ln p x i).length ≤ x.names.length := by unfold ln; simp; omega
theorem y5 {p : aj} {x : aS} : ln p x x.names.length = x.names.map fun s => (aO p.outs s).reg := by unfold ln; rw [List.take_of_length_le (Nat.le_refl _)]
def w8 (p : aj) (x : aS) : ep := { j7 with kind := 6, aJ := x.names.map fun s => (aO p.outs s).reg }
theorem Ai {p : aj} {x : aS} (h : x.kind = 8) : aP p x = { p with ops := p.ops ++ [w8 p x], outs := cf p x x.names.length } := by
 unfold aP cf
 have : gU x x.names.length = fun y : Port => if (x.names.any fun s => s == y.f.name) = true then { y with f := { y.f with one := x.field } } else y := by
  funext y; unfold gU; rw [List.take_of_length_le (Nat.le_refl _)]
 rw [this]
 simp [h, w8]
theorem yi {id n : Nat} {l : List Port} {s : au} (hn : n = l.length) : [AV.os id n 9, .str s].map (k7 id (l.map Port.av)) = [.sl (l.map Port.av), .str s] := by
 subst hn
 have e : (l.map Port.av).take l.length = l.map Port.av := List.take_of_length_le (by simp)
 simp [k7, fg, e]
theorem KK {v : CV} {rest : List (aM × CV)} {H : Hp} {t el esz : Nat} {b0 b1 b2 b3 b4 b5 b6 b7 b8 c0 c1 c2 : Sv} {a a' u u' : List AV} (h1 : a = a') (h2 : u = u') :
  ((aM.s 6, v) :: (aM.b 5, CV.bx [b0, b1, b2, b3, b4, b5, b6, b7, b8, .ow t a, c0, c1, c2]) :: (aM.t t, CV.tk false el esz a) :: (aM.h, CV.hp (H.bump 1 (az u))) :: rest) = [(aM.s 6, v), (aM.b 5, CV.bx [b0, b1, b2, b3, b4, b5, b6, b7, b8, .ow t a', c0, c1, c2]), (aM.t t, CV.tk false el esz a'), (aM.h, CV.hp (H.bump 1 (az u')))] ++ rest := by rw [h1, h2]; rfl
theorem Iv {p : aj} {id n : Nat} {o : AV} (l : List Port) (hn : n = l.length) (ho : ∀ m e, o ≠ .os id m e) : [Sv.v (.str p.name), .v (.sl (p.ins.map Port.av)), .v o, .v (.os id n 9), .v (.int .i64 p.aJ), .v (.sl (p.ever.map jQ)), .v (.bool p.born)].map (m8 id (l.map Port.av)) = [Sv.v (.str p.name), .v (.sl (p.ins.map Port.av)), .v o, .v (.sl (l.map Port.av)), .v (.int .i64 p.aJ), .v (.sl (p.ever.map jQ)), .v (.bool p.born)] := by
 subst hn
 have e : (l.map Port.av).take l.length = l.map Port.av := List.take_of_length_le (by simp)
 have h : fg id (l.map Port.av) o = o := by
  cases o <;> first | rfl | skip
  rename_i i m e
  show (if i = id ∧ m ≤ (l.map Port.av).length then _ else _) = _
  rw [if_neg (fun h => ho m e (by rw [h.1]))]
 simp only [List.map_cons, List.map_nil, m8]
 rw [h]
 simp [fg, e]
theorem Mv.one {K : Hp} {o : AV} {ops : List ep} {cs : List Hc} (hf : K.fin) (h : eh K o 13 (ops.map ep.av)) (a : ep) : Mv K o ((ir (K.bump 1 cs) o (az (ops.map ep.av ++ [a.av]))).del (K.next + 1)) (.os (K.next + 2) ((ops.map ep.av).length + 1) 13) (ops ++ [a]) := by
 have hlo : ∀ j n e, o = .os j n e → j < K.next := fun j n e ho => jr hf h ho
 have hn : (K.bump 1 cs).next = K.next + 2 := rfl
 refine ⟨xS (pj (pc _ _) _ _) _, ?_, fun j hj ho => ?_, .inr ⟨K.next + 2, by simp, ?_⟩, .inr ⟨_, _, _, rfl, by omega⟩⟩
 ·show K.next ≤ (ir _ _ _).next; rw [kV, hn]; omega
 ·rw [Hp.xR, if_neg (by omega), jz (by rw [hn]; omega) ho, Hp.jx hj]
 ·rw [Hp.xR, if_neg (by omega)]
  have := @uL (K.bump 1 cs) o (az (ops.map ep.av ++ [a.av]))
  rw [hn] at this
  rw [this, List.map_append]; rfl
theorem vR {K : Hp} (hf : K.fin) {o : AV} {e : Nat} {xs : List AV} {k : Nat} {cs : List Hc} (h : eh K o e xs) : eh (K.bump k cs) o e xs := ib h fun id n e' ho => Hp.jx (jr hf h ho)
def CO (K : Hp) (q : aj) (o : AV) (r : AV) (K' : Hp) : Prop := ∃ o', r = dg q o' ∧ Mv K o K' o' q.ops
theorem oU (p : aj) (o : AV) (x : aS) (K : Hp) (hf : K.fin) (hK : eh K o 13 (p.ops.map ep.av)) (hl : p.ops.length ≤ 1000) (ho : p.outs.length ≤ 100) (hk : x.kind = 1 ∨ x.kind = 2 ∨ x.kind = 3) : nZ Tryz.prog 57 [dg p o, x.av, (aO p.outs x.field).av] K (CO K (aP p x) o) := by
 refine (DI p o x K hK hl ho hk).IV ⟨_, rfl, ?_⟩
 rcases hk with h | h | h
 ·rw [lR (p := p) (q := aP p x) (by rw [oi h]), lS (p := p) (q := aP p x) (by rw [oi h]), show (aP p x).ops = p.ops by rw [oi h]]
  exact Mv.same hf hK
 ·rw [lR (p := p) (q := aP p x) (by rw [oh h]), lS (p := p) (q := aP p x) (by rw [oh h]), show (aP p x).ops = p.ops by rw [oh h]]
  exact Mv.same hf hK
 ·rw [iN (jK (aO p.outs x.field) x) (p := p) (q := aP p x) (by rw [og h]), iO (jK (aO p.outs x.field) x) (p := p) (q := aP p x) (by rw [og h]), show (aP p x).ops = p.ops ++ [jK (aO p.outs x.field) x] by rw [og h]]
  exact Mv.app hf _
theorem oS (p : aj) (o : AV) (x : aS) (K : Hp) (hf : K.fin) (hK : eh K o 13 (p.ops.map ep.av)) (hl : p.ops.length ≤ 1000) (ho : p.outs.length ≤ 100) (hr : 0 ≤ p.aJ ∧ p.aJ ≤ 1000) (hk : x.kind = 4 ∨ x.kind = 5) (hg : x.kind = 5 → 0 ≤ bg (aV p.outs x.field) x.also) : nZ Tryz.prog 58 [dg p o, x.av, (aO p.outs x.field).av] K (CO K (aP p x) o) := by
 refine (yE p o x K hK hl ho hr hk hg).IV ⟨_, rfl, ?_⟩
 rcases hk with h | h
 ·rw [iN (jJ (aO p.outs x.field) p.aJ) (p := p) (q := aP p x) (by rw [oe h]), iO (jJ (aO p.outs x.field) p.aJ) (p := p) (q := aP p x) (by rw [oe h]), show (aP p x).ops = p.ops ++ [jJ (aO p.outs x.field) p.aJ] by rw [oe h]]
  exact Mv.app hf _
 ·rw [iN (ks (aO p.outs x.field) (aO (aV p.outs x.field) x.also) p.aJ) (p := p) (q := aP p x) (by rw [od h]), iO (ks (aO p.outs x.field) (aO (aV p.outs x.field) x.also) p.aJ) (p := p) (q := aP p x) (by rw [od h]), show (aP p x).ops = p.ops ++ [ks (aO p.outs x.field) (aO (aV p.outs x.field) x.also) p.aJ] by rw [od h]]
  exact Mv.app hf _
theorem AA (p : aj) (o : AV) (x : aS) (K : Hp) (hf : K.fin) (hK : eh K o 13 (p.ops.map ep.av)) (hl : p.ops.length ≤ 1000) (ho : p.outs.length ≤ 100) (hn : x.names.length ≤ 1000) (hk : x.kind = 8) (hnd : (p.outs.map fun y => y.f.name).Nodup) (hg : ∀ n ∈ x.names, 0 ≤ bg p.outs n) : nZ Tryz.prog 60 [dg p o, x.av] K (CO K (aP p x) o) := by
 refine nZ.aL Tryz.func60 rfl rfl (aF rfl) (aC.seq (aC.region (aB.run II 3 rfl (aB.nil (aC.seq (aC.region (aB.c1 rfl (jI (aF rfl) zj IH rfl rfl) (aB.run II 2 rfl (aB.kept (Kept.wc 5 9 170 3 1 rfl rfl rfl rfl (by decide) (Kept.Ao 5 12 rfl rfl (Kept.now (aC.seq (aC.region (aB.c3 rfl (lg («as» := []) (aF rfl) dI fl rfl rfl rfl (fh rfl) rfl rfl) (aB.run II 2 rfl (aB.c3 rfl (kr (aF rfl) dI fl rfl rfl (Hp.dZ K (az [])) (fun _ h => by cases h) rfl rfl (bw Port.cells (fun _ => rfl) _) rfl (by rw [List.length_map]; omega) (by rw [List.length_map]; omega)) ?_)))))))))))))))))
 refine aB.run II 2 rfl (aB.nil (aC.seq (aC.seq (aC.aK (Kept.nR rfl (show _ = K.bump 1 (az ((cf p x 0).map Port.av)) from (by rw [Hp.lu hf, Dh]; exact Hp.il)) (Kept.now ?_))))))
 refine aC.region (aB.run II 1 rfl (aB.nil (aC.blk (aC.aK (Kept.aI [.s 6, .b 5, .t 170, .h, .s 2, .b 2, .s 3, .b 3, .s 4, .b 4, .s 5] rfl (by decide) (Kept.now (aC.aX (fun (i : Nat) => [(.s 6, .sv (.v (.int .i64 (i : Int)))), (.b 5, .bx [.v (.int .i64 6), .v (.int .i64 0), .v (.int .i64 0), .v (.int .i64 0), .v (.int .i64 0), .v (.int .i64 0), .v (.int .i64 0), .v (.int .u64 0), .v (.int .i64 0), .ow 170 ((ln p x i).map jQ), .v (.int .u64 0), .v (.str []), .v (.sl [])]), (.t 170, .tk false 3 1 ((ln p x i).map jQ)), (.h, .hp (K.bump 1 (az ((cf p x i).map Port.av))))]) _ (fun (i : Nat) => i ≤ x.names.length) (fun (i : Nat) => x.names.length - i) 0 rfl (Nat.zero_le _) ?_)))))))
 rintro i hI
 refine aC.seq (aC.seq (aC.region (aB.run II 5 rfl (aB.nil (aC.cond rfl (fun hc1 => ?_) (fun hc1 => ?_))))))
 ·have hi := ch hc1
  refine aC.skip (aC.seq (aC.blk (aC.seq (aC.drawn mixed rfl (aD.run II 5 rfl (aD.c1 rfl (aH (aF rfl) cC rfl rfl (Int.natCast_nonneg _) (bz hi) rfl) (aD.run II 1 rfl (aD.c1 rfl (tH (K.next + 1) ((cf p x i).map Port.av) (aF rfl) rq rfl rfl (by first | exact Hp.cm | exact Hp.dZ _ _) (rN _) (yi (by rw [fC]; simp)) (l5 (cf p x i) _ (by rw [fC]; omega)) rfl) ?_))))))))
  refine aD.run II 1 rfl (aD.nil (by kernel_rfl) (Kept.now (aC.seq (aC.drawn mixed rfl (aD.run II 5 rfl (aD.c1 rfl (bU (aF rfl) cG rfl rfl (by rw [ed]; exact (hg _ (List.getElem_mem hi))) (by have := bN (l := cf p x i) (n := x.names[i]'hi) (by rw [ed]; exact (hg _ (List.getElem_mem hi))); rw [fC] at this; rw [List.length_map]; omega)) ?_))))))
  refine aD.run II 1 rfl (aD.c1 rfl (o8 (aF rfl) iW rfl rfl (by first | exact Hp.cm | exact Hp.dZ _ _) (rN _) rfl (gP (by rw [ed]; exact (hg _ (List.getElem_mem hi)))) rfl) ?_)
  refine aD.run II 1 rfl (aD.c3 rfl (aW (aF rfl) ba rfl rfl rfl rfl rfl (by have := @qe p x i; rw [List.length_map]; simp only [List.length_cons, List.length_nil]; omega) (by have := @qe p x i; rw [List.length_map]; simp only [List.length_cons, List.length_nil]; omega)) ?_)
  refine aD.run II 2 rfl (aD.nil (by kernel_rfl) (Kept.now (aC.region (aB.run II 5 rfl (aB.c1 rfl (bU (aF rfl) cG rfl rfl (by rw [ed]; exact (hg _ (List.getElem_mem hi))) (by have := bN (l := cf p x i) (n := x.names[i]'hi) (by rw [ed]; exact (hg _ (List.getElem_mem hi))); rw [fC] at this; rw [List.length_map]; omega)) ?_)))))
  refine aB.run II 2 rfl (aB.c1 rfl (G9 qg rfl rfl (by first | exact Hp.cm | exact Hp.dZ _ _) rfl rfl (rN _) rfl (gP (by rw [ed]; exact (hg _ (List.getElem_mem hi)))) (aF rfl)) ?_)
  exact aB.nil (aC.region (aB.run II 3 rfl (aB.kept (Kept.nR rfl Hp.uF (Kept.aY 6 rfl (inc (by omega)) (Kept.aI [.s 6, .b 5, .t 38, .h, .s 2, .b 2, .s 3, .b 3, .s 4, .b 4, .s 5] rfl (by decide) (Kept.gB 38 170 (by decide) rfl (Kept.now ⟨i + 1, by omega, by omega, KK (by rw [y1 (hg _ (List.getElem_mem hi))]; exact uz hi) (uy hi hnd (hg _ (List.getElem_mem hi)))⟩))))))))
 ·have hi := cj hc1
  refine aC.exit (aC.seq (aC.region (aB.run II 4 rfl (aB.c3 rfl (jh (aF rfl) kh iv rfl rfl (vR hf hK) (lb _) rfl rfl (List.cons_ne_nil _ _) rfl (by rw [List.length_map]; simp only [List.length_cons, List.length_nil]; omega) (by rw [List.length_map]; simp only [List.length_cons, List.length_nil]; omega)) ?_))))
  refine aB.run II 2 rfl (aB.kept (Kept.HJ 2 (K.next + 1) rfl rfl ((jz (by show K.next + 1 < K.next + 1 + 1; omega) (fun m e ho => by have := jr hf hK ho; omega)).trans Hp.cm) (rN _) (Iv (p := p) (cf p x i) (by rw [fC]; simp) (fun m e h => by injection h with h1; have : K.next + 2 = K.next + 1 := h1; omega)) (Kept.now ?_)))
  refine aC.seq (aC.region (aB.run II 2 rfl (aB.nil (aC.ret ?_))))
  have hil : i = x.names.length := (by omega)
  subst hil
  exact ⟨.inr rfl, _, _, ⟨_, (by rw [Ai hk]; rfl), (by rw [show (aP p x).ops = p.ops ++ [w8 p x] by rw [Ai hk]]; have e := @y5 p x; rw [e]; exact Mv.one hf hK (w8 p x))⟩, aE.r1 rfl (.cell eg rfl rfl rfl rfl .nil), rfl⟩
/- the document: steps that make, or take away, a part -/
theorem dP : ie Tryz.prog 35 = some 7 := by kernel_rfl
theorem kx : lk Tryz.prog 44 = some (false, 1) := by kernel_rfl
theorem Kept.slnil {s : St} {Q : St → Prop} (k i : Nat) {cs : List AV} (hk : get s (.s k) = some (.sv (.v (.agg cs)))) (hi : cs[i]? = some .nsl) (h : Kept ((.s k, .sv (.v (.agg (cs.set i (.sl []))))) :: s) Q) : Kept s Q := fun E N a w ⟨G, L, hr⟩ => by
 have hv : V G (a.tmps.getD k undef) (.agg cs) := hr.slot k (.v (.agg cs)) hk
 refine h E N a w ⟨G, L, hr.re (y := .v (.agg (cs.set i (.sl [])))) ?_⟩
 show V G _ _
 generalize a.tmps.getD k undef = u at hv
 cases hv
 rename_i vs hl hf hv
 refine .agg vs _ (by simpa using hl) (fun j c e => ?_) (fun j c e => ?_)
 ·rw [List.getElem?_set] at e
  split at e
  ·split at e
   ·cases e; rfl
   ·cases e
  ·exact hf j c e
 ·rw [List.getElem?_set] at e
  split at e
  ·rename_i e2
   subst e2
   split at e
   ·cases e
    have := hv i .nsl hi
    generalize vs.getD i undef = u at this
    cases this
    exact V.slE none 0
   ·cases e
  ·exact hv j c e
def dz (all : List aj) (os : List AV) : List AV := List.zipWith dg all os
theorem eu (all : List aj) (os : List AV) : ∀ e ∈ dz all os, e.cells.length = 7 := fun e he => by
 obtain ⟨i, hi⟩ := List.mem_iff_getElem?.1 he
 unfold dz at hi
 rw [List.getElem?_zipWith] at hi
 split at hi
 ·cases hi; rfl
 ·cases hi
theorem cy {all : List aj} {os : List AV} (h : os.length = all.length) : (dz all os).length = all.length := by unfold dz; simp [h]
theorem gF {all : List aj} {os : List AV} {i : Nat} {p : aj} {o : AV} (hp : all[i]? = some p) (ho : os[i]? = some o) : (dz all os)[i]? = some (dg p o) := by
 unfold dz; rw [List.getElem?_zipWith, hp, ho]
theorem sO {all : List aj} {os : List AV} {i : Nat} {p : aj} {o : AV} : (dz all os).set i (dg p o) = dz (all.set i p) (os.set i o) := by
 unfold dz
 refine List.ext_getElem? fun j => ?_
 simp only [List.getElem?_set, List.getElem?_zipWith, List.length_zipWith]
 by_cases h : i = j
 ·subst h
  simp only [if_true]
  by_cases h1 : i < all.length
  ·by_cases h2 : i < os.length
   ·rw [if_pos (by omega), if_pos h1, if_pos h2]
   ·rw [if_neg (by omega), if_pos h1, if_neg h2]
  ·rw [if_neg (by omega), if_neg h1]
 ·simp only [h, if_false]
theorem zV {all : List aj} {os : List AV} {p : aj} {o : AV} (h : os.length = all.length) : dz all os ++ [dg p o] = dz (all ++ [p]) (os ++ [o]) := by
 unfold dz; rw [List.zipWith_append h.symm]; rfl
structure LH (H0 K : Hp) (A : Nat) (os : List AV) (all : List aj) : Prop where
 fin : K.fin
 nx : H0.next ≤ K.next
 old : ∀ i, i < H0.next → K.obj i = H0.obj i
 lo : H0.next ≤ A
 len : os.length = all.length
 row : K.obj A = some (az (dz all os))
 ops : ∀ (i : Nat) o p, os[i]? = some o → all[i]? = some p → eh K o 13 (p.ops.map ep.av)
 ids : ∀ (i : Nat) id n e, os[i]? = some (.os id n e) → H0.next ≤ id ∧ id ≠ A
 dist : ∀ (i j : Nat) id n e n' e', os[i]? = some (.os id n e) → os[j]? = some (.os id n' e') → i = j
section
variable {H0 K K' : Hp} {A i : Nat} {os : List AV} {all : List aj} {p q : aj} {o o' : AV} {ops : List ep}
theorem LH.alt (I : LH H0 K A os all) : A < K.next := by
 apply Classical.byContradiction
 intro hn
 have := I.row
 rw [I.fin A (by omega)] at this; cases this
theorem LH.HE (I : LH H0 K A os all) {id n e : Nat} (ho : os[i]? = some (.os id n e)) : id < K.next := by
 have hi := (List.getElem?_eq_some_iff.1 ho).1
 have hl := I.len
 exact jr I.fin (I.ops i _ _ ho (List.getElem?_eq_getElem (by omega))) rfl
theorem LH.zq (I : LH H0 K A os all) (ho : os[i]? = some o) (M : Mv K o K' o' ops) : K'.obj A = some (az (dz all os)) := by
 rw [M.aI A I.alt fun n e h => (I.ids i A n e (h ▸ ho)).2 rfl, I.row]
theorem Mv.Jn (M : Mv K o K' o' ops) {id n e : Nat} (h : o' = .os id n e) : o = .os id n e ∨ K.next ≤ id := by
 rcases M.fresh with h1 | ⟨id2, n2, e2, h1, h2⟩
 ·exact .inl (h1 ▸ h)
 ·rw [h1] at h; cases h; exact .inr h2
theorem LH.Jd (I : LH H0 K A os all) (hp : all[i]? = some p) (ho : os[i]? = some o) (M : Mv K o K' o' q.ops) {B : Nat} {L : Hp} (hBf : L.fin) (hB1 : B = A ∨ K'.next ≤ B) (hLn : K'.next ≤ L.next) (hBr : L.obj B = some (az (dz (all.set i q) (os.set i o')))) (hLo : ∀ j, j < K'.next → j ≠ B → L.obj j = K'.obj j) : LH H0 L B (os.set i o') (all.set i q) := by
 have hA := I.alt
 have hnx := M.nx
 have hlo := I.lo
 have hB0 : H0.next ≤ B := by have := I.nx; rcases hB1 with h | h <;> omega
 have hget : ∀ (j : Nat) (o2 : AV), (os.set i o')[j]? = some o2 → (j = i ∧ o2 = o') ∨ (j ≠ i ∧ os[j]? = some o2) := fun j o2 h => by
  rw [List.getElem?_set] at h
  split at h
  ·rename_i e
   split at h
   ·cases h; exact .inl ⟨e.symm, rfl⟩
   ·cases h
  ·rename_i e; exact .inr ⟨fun h2 => e h2.symm, h⟩
 have hid : ∀ (j id n e : Nat), (os.set i o')[j]? = some (AV.os id n e) → H0.next ≤ id ∧ id ≠ B ∧ id < K'.next := fun j id n e h => by
  rcases hget j _ h with ⟨rfl, h2⟩ | ⟨hne, h2⟩
  ·have hlt := jr M.fin M.res h2.symm
   rcases M.Jn h2.symm with h3 | h3
   ·rw [h3] at ho
    obtain ⟨q1, q2⟩ := I.ids j id n e ho
    have := I.HE ho
    exact ⟨q1, by rcases hB1 with h | h <;> omega, hlt⟩
   ·have hk : K'.obj A = some (az (dz all os)) := I.zq ho M
    exact ⟨by have := I.nx; omega, by rcases hB1 with h | h <;> omega, hlt⟩
  ·obtain ⟨q1, q2⟩ := I.ids j id n e h2
   have := I.HE h2
   exact ⟨q1, by rcases hB1 with h | h <;> omega, by omega⟩
 refine ⟨hBf, by have := I.nx; omega, fun j hj => ?_, hB0, by simp [I.len], hBr, fun j o2 p2 h1 h2 => ?_, fun j id n e h => ⟨(hid j id n e h).1, (hid j id n e h).2.1⟩, fun j k id n e n' e' h1 h2 => ?_⟩
 ·have h1 := I.nx
  rw [hLo j (by omega) (by omega), M.aI j (by omega) fun n e h => by have := (I.ids i j n e (h ▸ ho)).1; omega]
  exact I.old j hj
 ·have hlift : ∀ (id n e : Nat), o2 = .os id n e → L.obj id = K'.obj id := fun id n e h => by
   rw [h] at h1
   obtain ⟨_, q2, q3⟩ := hid j id n e h1
   exact hLo id q3 q2
  rcases hget j _ h1 with ⟨rfl, rfl⟩ | ⟨hne, h3⟩
  ·rw [List.getElem?_set] at h2
   simp only [if_true] at h2
   split at h2
   ·cases h2; exact ib M.res hlift
   ·cases h2
  ·rw [List.getElem?_set, if_neg (fun h => hne h.symm)] at h2
   refine ib (I.ops j o2 p2 h3 h2) fun id n e h => ?_
   rw [hlift id n e h]
   rw [h] at h3
   exact M.aI id (I.HE h3) fun n2 e2 h4 => hne (I.dist j i id n e n2 e2 h3 (h4 ▸ ho))
 ·rcases hget j _ h1 with ⟨rfl, h3⟩ | ⟨hne, h3⟩ <;> rcases hget k _ h2 with ⟨rfl, h4⟩ | ⟨hne2, h4⟩
  ·rfl
  ·rcases M.Jn h3.symm with h5 | h5
   ·exact absurd (I.dist k j id n' e' n e h4 (h5 ▸ ho)) hne2
   ·have := I.HE h4; omega
  ·rcases M.Jn h4.symm with h5 | h5
   ·exact absurd (I.dist j k id n e n' e' h3 (h5 ▸ ho)) hne
   ·have := I.HE h3; omega
  ·exact I.dist j k id n e n' e' h3 h4
theorem LH.put (I : LH H0 K A os all) (hp : all[i]? = some p) (ho : os[i]? = some o) (M : Mv K o K' o' q.ops) : LH H0 (K'.set A (az ((dz all os).set i (dg q o')))) A (os.set i o') (all.set i q) := by
 have hA : A < K'.next := Nat.lt_of_lt_of_le I.alt M.nx
 refine I.Jd hp ho M (wK M.fin hA _) (.inl rfl) (Nat.le_refl _) (by rw [sO]; exact Hp.bq) fun j _ hj => ?_
 show (if j = A then _ else K'.obj j) = _
 rw [if_neg hj]
theorem LH.more (I : LH H0 K A os all) {L : Hp} {B : Nat} {w : aj} (hw : w.ops = []) (hBf : L.fin) (hB : K.next ≤ B) (hLn : K.next ≤ L.next) (hBr : L.obj B = some (az (dz (all ++ [w]) (os ++ [AV.nsl])))) (hLo : ∀ j, j < K.next → j ≠ A → L.obj j = K.obj j) : LH H0 L B (os ++ [.nsl]) (all ++ [w]) := by
 have hnx := I.nx
 have hget : ∀ (j : Nat) (o2 : AV), (os ++ [AV.nsl])[j]? = some o2 → os[j]? = some o2 ∨ (j = os.length ∧ o2 = .nsl) := fun j o2 h => by
  rcases Nat.lt_or_ge j os.length with q | q
  ·rw [List.getElem?_append_left q] at h; exact .inl h
  ·rw [List.getElem?_append_right q] at h
   have h2 := (List.getElem?_eq_some_iff.1 h).1
   simp at h2
   have : j - os.length = 0 := by omega
   rw [this] at h
   cases h
   exact .inr ⟨by omega, rfl⟩
 refine ⟨hBf, by omega, fun j hj => by have := I.lo; rw [hLo j (by omega) (by omega), I.old j hj], by have := I.nx; omega, by simp [I.len], hBr, fun j o2 p2 h1 h2 => ?_, fun j id n e h => ?_, fun j k id n e n' e' h1 h2 => ?_⟩
 ·rcases hget j _ h1 with h | ⟨rfl, rfl⟩
  ·have hj := (List.getElem?_eq_some_iff.1 h).1
   rw [List.getElem?_append_left (by have := I.len; omega)] at h2
   exact ib (I.ops j o2 p2 h h2) fun id n e h3 => (by rw [h3] at h; exact hLo id (I.HE h) (I.ids j id n e h).2)
  ·rw [I.len, List.getElem?_append_right (Nat.le_refl _), Nat.sub_self] at h2
   cases h2
   exact .inl ⟨rfl, by rw [hw]; rfl⟩
 ·rcases hget j _ h with h | ⟨_, h⟩
  ·have := I.HE h
   exact ⟨(I.ids j id n e h).1, by omega⟩
  ·cases h
 ·rcases hget j _ h1 with h | ⟨_, h⟩
  ·rcases hget k _ h2 with h' | ⟨_, h'⟩
   ·exact I.dist j k id n e n' e' h h'
   ·cases h'
  ·cases h
end
theorem three {K : Hp} (hf : K.fin) {a b c : List Hc} : ((((K.new a).del K.next).new b).del (K.next + 1)).new c = K.bump 2 c := by
 rw [Hp.lu hf, show ((K.bump 0 a).del K.next).new b = K.bump 1 b from Hp.il]
 exact Hp.il
theorem xf {all : List aj} {os : List AV} (h : os.length = all.length) {i : Nat} (hi : i < all.length) : (dz all os)[i]? = some (dg (all.getD i cc) (os.getD i .nsl)) :=
 gF (by rw [List.getD_eq_getElem?_getD, List.getElem?_eq_getElem hi]; rfl) (by rw [List.getD_eq_getElem?_getD, List.getElem?_eq_getElem (by omega)]; rfl)
theorem yS {l : List Port} (h : l ≠ []) : (l.map Port.av)[(0 : Int).toNat]? = some (.agg (l.headD gQ).cells) := by
 cases l with
 | nil => exact absurd rfl h
 | cons a l => rfl
theorem LH.Jc {H0 K : Hp} {A i : Nat} {os : List AV} {all : List aj} {p q w : aj} {o o' : AV} (I : LH H0 K A os all) (hp : all[i]? = some p) (ho : os[i]? = some o) {K1 : Hp} (M : Mv K o K1 o' q.ops) (hw : w.ops = []) :
  LH H0 ((K1.bump 2 (az (dz (all ++ [w]) (os ++ [AV.nsl])))).set (K1.next + 2) (az ((dz (all ++ [w]) (os ++ [AV.nsl])).set i (dg q o')))) (K1.next + 2) ((os ++ [AV.nsl]).set i o') ((all ++ [w]).set i q) := by
 have hi := (List.getElem?_eq_some_iff.1 hp).1
 have hl := I.len
 have J := I.put hp ho M
 have e1 : (os ++ [AV.nsl]).set i o' = os.set i o' ++ [.nsl] := List.set_append_left _ _ (by omega)
 have e2 : (all ++ [w]).set i q = all.set i q ++ [w] := List.set_append_left _ _ hi
 have hz : (dz (all ++ [w]) (os ++ [AV.nsl])).set i (dg q o') = dz (all.set i q ++ [w]) (os.set i o' ++ [.nsl]) := by rw [sO, e1, e2]
 rw [e1, e2]
 have hn : (K1.bump 2 (az (dz (all ++ [w]) (os ++ [AV.nsl])))).next = K1.next + 3 := rfl
 refine J.more hw (wK (pc _ _) (by rw [hn]; omega) _) (show K1.next ≤ K1.next + 2 by omega) (show K1.next ≤ K1.next + 3 by omega) (by rw [hz]; exact Hp.bq) fun j hj hA => ?_
 have hj' : j < K1.next := hj
 show (if j = K1.next + 2 then _ else (K1.bump 2 _).obj j) = if j = A then _ else K1.obj j
 rw [if_neg (by omega), if_neg hA, Hp.jx hj']
theorem LH.Jb {H0 K K' : Hp} {A i : Nat} {os : List AV} {all : List aj} {p q : aj} {o o' : AV} {ops : List ep} (I : LH H0 K A os all) (hp : all[i]? = some p) (ho : os[i]? = some o) (M : Mv K o K' o' ops) (hq : q.ops = ops) : LH H0 (K'.set A (az ((dz all os).set i (dg q o')))) A (os.set i o') (all.set i q) := by
 subst hq; exact I.put hp ho M
theorem LH.I4 {H0 K : Hp} {A i : Nat} {os : List AV} {all : List aj} {p q w : aj} {o o' : AV} {ops : List ep} (I : LH H0 K A os all) (hp : all[i]? = some p) (ho : os[i]? = some o) {K1 : Hp} (M : Mv K o K1 o' ops) (hw : w.ops = []) (hq : q.ops = ops) :
  LH H0 ((K1.bump 2 (az (dz (all ++ [w]) (os ++ [AV.nsl])))).set (K1.next + 2) (az ((dz (all ++ [w]) (os ++ [AV.nsl])).set i (dg q o')))) (K1.next + 2) ((os ++ [AV.nsl]).set i o') ((all ++ [w]).set i q) := by
 subst hq; exact I.Jc hp ho M hw
def JG (H0 : Hp) (all : List aj) (r : AV) (K' : Hp) : Prop := ∃ A os, r = .os A all.length 7 ∧ LH H0 K' A os all
def tJ (f : Port) (n : Int) (k : Nat) : ep := { j7 with kind := 4, a := f.reg, b := n, part := k }
def n8 (f : Port) (n : Int) : ep := { j7 with kind := 5, a := f.reg, b := n, part := f.part }
def Ii (f : Port) (x : aS) : aj := cN { cc with name := x.dest, born := true, aJ := 1, ins := [{ f with reg := 0 }], outs := [{ f with reg := 0 }] }
def Ij (x : aS) (n : Int) (k : Nat) : Port := ⟨{ dt with name := x.also, num := x.num, ty := 15, ref := x.dest }, n, k⟩
def FA (p : aj) (x : aS) (all : List aj) : aj := { p with ops := p.ops ++ [tJ (aO p.outs x.field) p.aJ all.length], aJ := p.aJ + 1, outs := bY (aV p.outs x.field) (Ij x p.aJ all.length) }
def Ez (p : aj) (x : aS) (all : List aj) : aj := { p with ops := p.ops ++ [n8 (aO p.outs x.field) p.aJ], aJ := p.aJ + 1, outs := bY (aV p.outs x.field) { ((all.getD (aO p.outs x.field).part.toNat cc).outs.headD gQ) with reg := p.aJ } }
theorem CG {all : List aj} {i : Nat} {x : aS} {p : aj} (hp : all[i]? = some p) (h : x.kind = 6) : bX all i x = (all ++ [Ii (aO p.outs x.field) x]).set i (FA p x all) := by
 have hg : all.getD i cc = p := by rw [List.getD_eq_getElem?_getD, hp]; rfl
 unfold bX
 dsimp only
 rw [hg, if_pos h]; rfl
theorem CF {all : List aj} {i : Nat} {x : aS} {p : aj} (hp : all[i]? = some p) (h : x.kind = 7) : bX all i x = all.set i (Ez p x all) := by
 have hg : all.getD i cc = p := by rw [List.getD_eq_getElem?_getD, hp]; rfl
 unfold bX
 dsimp only
 rw [hg, if_neg (by omega), if_pos h]; rfl
theorem CD {all : List aj} {i : Nat} {x : aS} {p : aj} (hp : all[i]? = some p) (h6 : x.kind ≠ 6) (h7 : x.kind ≠ 7) : bX all i x = all.set i (aP p x) := by
 have hg : all.getD i cc = p := by rw [List.getD_eq_getElem?_getD, hp]; rfl
 unfold bX
 dsimp only
 rw [hg, if_neg h6, if_neg h7]
theorem sk (H0 K : Hp) (A : Nat) (os : List AV) (all : List aj) (at_ : Nat) (x : aS) (p : aj) (o : AV) (I : LH H0 K A os all) (hp : all[at_]? = some p) (ho : os[at_]? = some o) (hal : all.length ≤ 100) (hl : p.ops.length ≤ 1000) (hou : p.outs.length ≤ 100) (hr : 0 ≤ p.aJ ∧ p.aJ ≤ 1000) (hk : x.kind = 6 ∨ x.kind = 7) (h7 : x.kind = 7 → 0 ≤ (aO p.outs x.field).part ∧ (aO p.outs x.field).part < (all.length : Int) ∧ (all.getD (aO p.outs x.field).part.toNat cc).outs ≠ []) : nZ Tryz.prog 59 [.os A all.length 7, .int .i64 (at_ : Int), x.av, (aO p.outs x.field).av] K (JG H0 (bX all at_ x)) := by
 have hat := (List.getElem?_eq_some_iff.1 hp).1
 have hln := I.len
 refine nZ.aL Tryz.func59 rfl rfl (aF rfl) (aC.seq (aC.region (aB.run II 3 rfl (aB.nil (aC.seq (aC.region (aB.run II 2 rfl (aB.c1 rfl (bU (aF rfl) dP rfl rfl (Int.natCast_nonneg _) (by omega)) (aB.c1 rfl (jH (aF rfl) eg rfl rfl I.row (eu _ _) rfl (gF hp ho)) (aB.run II 2 rfl (aB.nil (aC.seq (aC.region (aB.run II 3 rfl (aB.nil (aC.seq (aC.region (aB.run II 1 rfl ?_))))))))))))))))))
 refine aB.c1 rfl (dM (aF rfl) rfl rfl (zS (by omega) (by omega))) (aB.run II 2 rfl (aB.nil (aC.seq (aC.region (aB.run II 4 rfl (aB.c1 rfl (aG (aF rfl) pU rfl (gM _ _ (by omega))) (aB.run II 2 rfl (aB.nil (aC.seq (aC.seq (aC.region (aB.run II 3 rfl (aB.nil (aC.cond rfl (fun hc1 => ?_) (fun hc1 => ?_)))))))))))))))
 ·refine aC.seq (aC.region (aB.run II 3 rfl (aB.nil (aC.seq (aC.region (aB.run II 2 rfl (aB.nil (aC.seq (aC.region (aB.run II 6 rfl (aB.c1 rfl (jI (aF rfl) wG IF rfl rfl) (aB.aK (Kept.slnil 41 5 rfl rfl (Kept.now (aB.c1 rfl (aG (aF rfl) v7 rfl (uq { cc with name := x.dest, born := true, aJ := 1, ins := [{ (aO p.outs x.field) with reg := 0 }], outs := [{ (aO p.outs x.field) with reg := 0 }] } (.nsl) (by show 1 ≤ 1000; decide) (by show 0 ≤ 100000; decide))) ?_)))))))))))))))
  refine aB.run II 2 rfl (aB.nil (aC.seq (aC.region (aB.run II 9 rfl (aB.c3 rfl (jh (aF rfl) kh iv rfl rfl (I.ops _ _ _ ho hp) (lb _) rfl rfl (List.cons_ne_nil _ _) rfl (by rw [List.length_map]; simp only [List.length_cons, List.length_nil]; omega) (by rw [List.length_map]; simp only [List.length_cons, List.length_nil]; omega)) ?_)))))
  refine aB.run II 2 rfl (aB.nil (aC.seq (aC.region (aB.run II 5 rfl (aB.c1 rfl (aG (aF rfl) pV rfl (l6 _ _ _ _)) (aB.run II 2 rfl (aB.nil (aC.seq (aC.region (aB.run II 9 rfl (aB.nil (aC.seq (aC.region (aB.run II 3 rfl (aB.c1 rfl (aG (aF rfl) jS rfl (fv (aV p.outs x.field) (Ij x p.aJ all.length) (by have := bL p.outs x.field; omega))) ?_)))))))))))))))
  refine aB.run II 2 rfl (aB.nil (aC.seq (aC.drawn mixed rfl (aD.c3 rfl (lg («as» := []) (aF rfl) oK lK rfl rfl rfl (fh rfl) rfl rfl) (aD.run II 1 rfl (aD.c3 rfl (Dg (aF rfl) oK lK rfl rfl (Hp.dZ _ (az [])) (fun _ h => by cases h) rfl rfl ((Hp.kN _ _ (by rw [kV]; have := I.alt; omega)).trans (I.zq ho (Mv.app I.fin (tJ (aO p.outs x.field) p.aJ all.length)))) (eu _ _) (cy hln) rfl (by rw [cy hln]; omega) (by rw [cy hln]; omega)) ?_))))))
  refine aD.run II 2 rfl (aD.c3 rfl (kr (aF rfl) oK lK rfl rfl (Hp.dZ _ _) (eu _ _) (by simp) rfl rfl rfl (by rw [cy hln]; simp only [List.length_cons, List.length_nil]; omega) (by rw [cy hln]; simp only [List.length_cons, List.length_nil]; omega)) ?_)
  refine aD.run II 1 rfl (aD.nil (by kernel_rfl) (Kept.now (aC.seq (aC.aK (Kept.nR rfl (show _ = (ir K o (az (p.ops.map ep.av ++ [(tJ (aO p.outs x.field) p.aJ all.length).av]))).bump 2 (az (dz (all ++ [Ii (aO p.outs x.field) x]) (os ++ [.nsl]))) from (three (pj I.fin _ _)).trans (congrArg _ (congrArg az (zV hln)))) (Kept.now (aC.region (aB.run II 3 rfl (aB.c1 rfl (bU (aF rfl) dP rfl rfl (Int.natCast_nonneg _) (by rw [cy hln]; simp only [List.length_cons, List.length_nil]; omega)) ?_)))))))))
  refine aB.c1 rfl (kk eg rfl rfl Hp.cm rfl (eu _ _) rfl (by rw [cy (by simp [hln])]; simp; omega) rfl) ?_
  exact aB.nil (aC.seq (aC.region (aB.run II 2 rfl (aB.nil (aC.ret (⟨.inr rfl, _, _, ⟨(ir K o (az (p.ops.map ep.av ++ [(tJ (aO p.outs x.field) p.aJ all.length).av]))).next + 2, (os ++ [AV.nsl]).set at_ (.os K.next ((p.ops.map ep.av).length + 1) 13), (by rw [CG hp (by simpa using hc1), List.length_set, List.length_append, cy hln, Nat.zero_add all.length]; rfl), (by rw [CG hp (by simpa using hc1)]; exact I.I4 (q := FA p x all) hp ho (Mv.app I.fin (tJ (aO p.outs x.field) p.aJ all.length)) rfl rfl)⟩, aE.r1 rfl (.tmp rfl .nil), rfl⟩))))))
 ·refine aC.skip (aC.seq (aC.region (aB.run II 9 rfl (aB.c3 rfl (jh (aF rfl) kh iv rfl rfl (I.ops _ _ _ ho hp) (lb _) rfl rfl (List.cons_ne_nil _ _) rfl (by rw [List.length_map]; simp only [List.length_cons, List.length_nil]; omega) (by rw [List.length_map]; simp only [List.length_cons, List.length_nil]; omega)) ?_))))
  refine aB.run II 2 rfl (aB.nil (aC.seq (aC.region (aB.run II 3 rfl (aB.c1 rfl (bU (aF rfl) dP rfl rfl (h7 (by have : x.kind ≠ 6 := (by simpa using hc1); omega)).1 (h7 (by have : x.kind ≠ 6 := (by simpa using hc1); omega)).2.1) ?_)))))
  refine aB.run II 1 rfl (aB.c1 rfl (o8 (aF rfl) kx rfl rfl (I.zq ho (Mv.app I.fin (n8 (aO p.outs x.field) p.aJ))) (eu _ _) rfl (xf hln (by have := (h7 (by have : x.kind ≠ 6 := (by simpa using hc1); omega)).2.1; have := (h7 (by have : x.kind ≠ 6 := (by simpa using hc1); omega)).1; omega)) rfl) ?_)
  refine aB.c1 rfl (aH (aF rfl) cG rfl rfl (by decide) (yS (h7 (by have : x.kind ≠ 6 := (by simpa using hc1); omega)).2.2) rfl) ?_
  refine aB.run II 3 rfl (aB.nil (aC.seq (aC.region (aB.run II 3 rfl (aB.nil (aC.seq (aC.region (aB.run II 3 rfl (aB.c1 rfl (aG (aF rfl) jS rfl (fv (aV p.outs x.field) { (all.getD (aO p.outs x.field).part.toNat cc).outs.headD gQ with reg := p.aJ } (by have := bL p.outs x.field; omega))) ?_)))))))))
  refine aB.run II 2 rfl (aB.nil (aC.seq (aC.region (aB.run II 3 rfl (aB.c1 rfl (bU (aF rfl) dP rfl rfl (Int.natCast_nonneg _) (by omega)) (aB.c1 rfl (kk eg rfl rfl (I.zq ho (Mv.app I.fin (n8 (aO p.outs x.field) p.aJ))) rfl (eu _ _) rfl (by rw [cy hln]; exact hat) rfl) ?_))))))
  exact aB.nil (aC.seq (aC.region (aB.run II 2 rfl (aB.nil (aC.ret (⟨.inr rfl, _, _, ⟨A, os.set at_ (.os K.next ((p.ops.map ep.av).length + 1) 13), (by rw [CF hp (by have : x.kind ≠ 6 := (by simpa using hc1); omega), List.length_set]), (by rw [CF hp (by have : x.kind ≠ 6 := (by simpa using hc1); omega)]; exact I.Jb (q := Ez p x all) hp ho (Mv.app I.fin (n8 (aO p.outs x.field) p.aJ)) rfl)⟩, aE.r1 rfl (.tmp rfl .nil), rfl⟩))))))
/- the document: a step of the parts -/
theorem vZ : ab Tryz.prog 57 = true := by kernel_rfl
theorem B6 : ab Tryz.prog 58 = true := by kernel_rfl
theorem B5 : ab Tryz.prog 59 = true := by kernel_rfl
theorem H7 : ab Tryz.prog 60 = true := by kernel_rfl
def w7 (x : aS) (n : Int) : ep := { j7 with kind := 7, a := n, dv := x.dv }
theorem Ah {p : aj} {x : aS} (h : x.kind = 9) : aP p x = { p with ops := p.ops ++ [w7 x p.aJ], aJ := p.aJ + 1, outs := bY p.outs (cb x.field x.num x.ty p.aJ) } := by unfold aP; simp [h, w7]
theorem vA {p : aj} {x : aS} (h : x.kind = 10) : aP p x = { p with outs := aV p.outs x.field } := by unfold aP; simp [h]
theorem Cu (H0 K : Hp) (A : Nat) (os : List AV) (all : List aj) (at_ : Nat) (x : aS) (p : aj) (o : AV) (I : LH H0 K A os all) (hp : all[at_]? = some p) (ho : os[at_]? = some o) (hal : all.length ≤ 100) (hl : p.ops.length ≤ 1000) (hou : p.outs.length ≤ 100) (hr : 0 ≤ p.aJ ∧ p.aJ ≤ 1000) (hk : 1 ≤ x.kind ∧ x.kind ≤ 10) (hn : x.names.length ≤ 1000) (h5 : x.kind = 5 → 0 ≤ bg (aV p.outs x.field) x.also) (h7 : x.kind = 7 → 0 ≤ (aO p.outs x.field).part ∧ (aO p.outs x.field).part < (all.length : Int) ∧ (all.getD (aO p.outs x.field).part.toNat cc).outs ≠ []) (h8 : x.kind = 8 → (p.outs.map fun y => y.f.name).Nodup ∧ ∀ n ∈ x.names, 0 ≤ bg p.outs n) : nZ Tryz.prog 40 [.os A all.length 7, .int .i64 (at_ : Int), x.av] K (JG H0 (bX all at_ x)) := by
 have hat := (List.getElem?_eq_some_iff.1 hp).1
 have hln := I.len
 refine nZ.aL Tryz.func40 rfl rfl (aF rfl) (aC.seq (aC.region (aB.run II 2 rfl (aB.nil (aC.seq (aC.region (aB.run II 2 rfl (aB.c1 rfl (bU (aF rfl) dP rfl rfl (Int.natCast_nonneg _) (by omega)) (aB.c1 rfl (jH (aF rfl) eg rfl rfl I.row (eu _ _) rfl (gF hp ho)) (aB.run II 2 rfl (aB.nil (aC.seq (aC.region (aB.run II 3 rfl (aB.nil (aC.cE [.h, .s 0, .s 1, .s 5, .b 5, .s 7, .b 7] (fun (_ : Unit) => [(.s 8, .sv (.lp 8 0)), (.b 8, .bx [.v (.str (aO p.outs x.field).f.name), .v (.int .i64 (aO p.outs x.field).f.num), .v (.int .i64 (aO p.outs x.field).f.ty), .v (.str (aO p.outs x.field).f.ref), .v (.bool (aO p.outs x.field).f.rep), .v (.bool (aO p.outs x.field).f.loose), .v (.str (aO p.outs x.field).f.one), .v (.int .i64 (aO p.outs x.field).reg), .v (.int .i64 (aO p.outs x.field).part)])]) (fun (_ : Unit) => True) rfl ?_ ?_))))))))))))))))
 ·refine aC.seq (aC.region (aB.run II 4 rfl (aB.c1 rfl (aG (aF rfl) rq rfl (l5 _ _ (by omega))) (aB.run II 1 rfl (aB.nil (aC.seq (aC.region (aB.run II 2 rfl (aB.nil (aC.cond rfl (fun hc1 => ?_) (fun hc1 => ?_)))))))))))
  ·exact aC.region (aB.run II 3 rfl (aB.c1 rfl (aH (aF rfl) cG rfl rfl (of_decide_eq_true hc1) (gP (of_decide_eq_true hc1)) rfl) (aB.run II 2 rfl (aB.kept (Kept.aI [.s 8, .b 8, .h, .s 0, .s 1, .s 5, .b 5, .s 7, .b 7] rfl (by decide) (Kept.now ⟨(), trivial, rfl⟩))))))
  ·exact aC.aK (Kept.aI [.s 8, .b 8, .h, .s 0, .s 1, .s 5, .b 5, .s 7, .b 7] rfl (by decide) (Kept.now (aC.skip ⟨(), trivial, by rw [yT (of_decide_eq_false hc1)]; rfl⟩)))
 ·rintro _ hF6
  refine aC.cE [.s 0, .s 1] (fun ((o1, K1) : AV × Hp) => [(.s 7, .sv (.lp 7 0)), (.b 7, .bx [.v (.str (aP p x).name), .v (.sl ((aP p x).ins.map Port.av)), .v o1, .v (.sl ((aP p x).outs.map Port.av)), .v (.int .i64 (aP p x).aJ), .v (.sl ((aP p x).ever.map jQ)), .v (.bool (aP p x).born)]), (.h, .hp K1)]) (fun ((o1, K1) : AV × Hp) => Mv K o K1 o1 (aP p x).ops ∧ x.kind ≠ 6 ∧ x.kind ≠ 7) rfl ?_ ?_
  ·refine aC.seq (aC.region (aB.run II 2 rfl (aB.nil (aC.blk (aC.seq (aC.seq (aC.region (aB.run II 2 rfl (aB.nil (aC.cond rfl (fun hc2 => ?_) (fun hc2 => ?_)))))))))))
   ·refine aC.skip (aC.ar rfl hc2 (aC.region (aB.run II 3 rfl (aB.mK (aF rfl) vZ rfl rfl (oU p o x K I.fin (I.ops _ _ _ ho hp) hl hou (.inl (by simpa using hc2))) (fun r1 K1 hP1 => ?_)))))
    obtain ⟨o1, rfl, hM⟩ := hP1
    exact aB.run II 1 rfl (aB.kept (Kept.aI [.s 7, .b 7, .h, .s 0, .s 1] rfl (by decide) (Kept.now (⟨(o1, _), ⟨hM, by have : x.kind = 1 := (by simpa using hc2); omega, by have : x.kind = 1 := (by simpa using hc2); omega⟩, rfl⟩))))
   ·refine aC.seq (aC.region (aB.run II 2 rfl (aB.nil (aC.cond rfl (fun hc3 => ?_) (fun hc3 => ?_)))))
    ·refine aC.skip (aC.ar rfl hc3 (aC.region (aB.run II 3 rfl (aB.mK (aF rfl) vZ rfl rfl (oU p o x K I.fin (I.ops _ _ _ ho hp) hl hou (.inr (.inl (by simpa using hc3)))) (fun r2 K2 hP2 => ?_)))))
     obtain ⟨o1, rfl, hM⟩ := hP2
     exact aB.run II 1 rfl (aB.kept (Kept.aI [.s 7, .b 7, .h, .s 0, .s 1] rfl (by decide) (Kept.now (⟨(o1, _), ⟨hM, by have : x.kind = 2 := (by simpa using hc3); omega, by have : x.kind = 2 := (by simpa using hc3); omega⟩, rfl⟩))))
    ·refine aC.region (aB.run II 2 rfl (aB.nil (aC.cond rfl (fun hc4 => ?_) (fun hc4 => ?_))))
     ·refine aC.region (aB.run II 3 rfl (aB.mK (aF rfl) vZ rfl rfl (oU p o x K I.fin (I.ops _ _ _ ho hp) hl hou (.inr (.inr (by simpa using hc4)))) (fun r3 K3 hP3 => ?_)))
      obtain ⟨o1, rfl, hM⟩ := hP3
      exact aB.run II 1 rfl (aB.kept (Kept.aI [.s 7, .b 7, .h, .s 0, .s 1] rfl (by decide) (Kept.now (⟨(o1, _), ⟨hM, by have : x.kind = 3 := (by simpa using hc4); omega, by have : x.kind = 3 := (by simpa using hc4); omega⟩, rfl⟩))))
     ·refine aC.seq (aC.seq (aC.region (aB.run II 2 rfl (aB.nil (aC.cond rfl (fun hc5 => ?_) (fun hc5 => ?_))))))
      ·refine aC.skip (aC.ar rfl hc5 (aC.region (aB.run II 3 rfl (aB.mK (aF rfl) B6 rfl rfl (oS p o x K I.fin (I.ops _ _ _ ho hp) hl hou hr (.inl (by simpa using hc5)) h5) (fun r4 K4 hP4 => ?_)))))
       obtain ⟨o1, rfl, hM⟩ := hP4
       exact aB.run II 1 rfl (aB.kept (Kept.aI [.s 7, .b 7, .h, .s 0, .s 1] rfl (by decide) (Kept.now (⟨(o1, _), ⟨hM, by have : x.kind = 4 := (by simpa using hc5); omega, by have : x.kind = 4 := (by simpa using hc5); omega⟩, rfl⟩))))
      ·refine aC.region (aB.run II 2 rfl (aB.nil (aC.cond rfl (fun hc6 => ?_) (fun hc6 => ?_))))
       ·refine aC.region (aB.run II 3 rfl (aB.mK (aF rfl) B6 rfl rfl (oS p o x K I.fin (I.ops _ _ _ ho hp) hl hou hr (.inr (by simpa using hc6)) h5) (fun r5 K5 hP5 => ?_)))
        obtain ⟨o1, rfl, hM⟩ := hP5
        exact aB.run II 1 rfl (aB.kept (Kept.aI [.s 7, .b 7, .h, .s 0, .s 1] rfl (by decide) (Kept.now (⟨(o1, _), ⟨hM, by have : x.kind = 5 := (by simpa using hc6); omega, by have : x.kind = 5 := (by simpa using hc6); omega⟩, rfl⟩))))
       ·refine aC.seq (aC.seq (aC.region (aB.run II 2 rfl (aB.nil (aC.cond rfl (fun hc7 => ?_) (fun hc7 => ?_))))))
        ·refine aC.skip (aC.ar rfl hc7 (aC.seq (aC.region (aB.run II 4 rfl (aB.mK (aF rfl) B5 rfl rfl (sk H0 K A os all at_ x p o I hp ho hal hl hou hr (.inl (by simpa using hc7)) h7) (fun r6 K6 hP6 => ?_))))))
         obtain ⟨A1, yV, rfl, hL⟩ := hP6
         exact aB.run II 1 rfl (aB.nil (aC.ret (⟨.inr rfl, _, _, ⟨A1, yV, rfl, hL⟩, aE.r1 rfl (.tmp rfl .nil), rfl⟩)))
        ·refine aC.region (aB.run II 2 rfl (aB.nil (aC.cond rfl (fun hc8 => ?_) (fun hc8 => ?_))))
         ·refine aC.seq (aC.region (aB.run II 4 rfl (aB.mK (aF rfl) B5 rfl rfl (sk H0 K A os all at_ x p o I hp ho hal hl hou hr (.inr (by simpa using hc8)) h7) (fun r7 K7 hP7 => ?_))))
          obtain ⟨A1, yV, rfl, hL⟩ := hP7
          exact aB.run II 1 rfl (aB.nil (aC.ret (⟨.inr rfl, _, _, ⟨A1, yV, rfl, hL⟩, aE.r1 rfl (.tmp rfl .nil), rfl⟩)))
         ·refine aC.seq (aC.region (aB.run II 2 rfl (aB.nil (aC.cond rfl (fun hc9 => ?_) (fun hc9 => ?_)))))
          ·refine aC.region (aB.run II 2 rfl (aB.mK (aF rfl) H7 rfl rfl (AA p o x K I.fin (I.ops _ _ _ ho hp) hl hou hn (by simpa using hc9) (h8 (by simpa using hc9)).1 (h8 (by simpa using hc9)).2) (fun r8 K8 hP8 => ?_)))
           obtain ⟨o1, rfl, hM⟩ := hP8
           exact aB.run II 1 rfl (aB.kept (Kept.aI [.s 7, .b 7, .h, .s 0, .s 1] rfl (by decide) (Kept.now (⟨(o1, _), ⟨hM, by have : x.kind = 8 := (by simpa using hc9); omega, by have : x.kind = 8 := (by simpa using hc9); omega⟩, rfl⟩))))
          ·refine aC.seq (aC.region (aB.c1 rfl (dM (aF rfl) rfl rfl rfl)  (aB.run II 1 rfl (aB.nil (aC.cond rfl (fun hc10 => ?_) (fun hc10 => ?_))))))
           ·refine aC.seq (aC.region (aB.run II 3 rfl (aB.nil (aC.seq (aC.region (aB.run II 7 rfl (aB.c3 rfl (jh (aF rfl) kh iv rfl rfl (I.ops _ _ _ ho hp) (lb _) rfl rfl (List.cons_ne_nil _ _) rfl (by rw [List.length_map]; simp only [List.length_cons, List.length_nil]; omega) (by rw [List.length_map]; simp only [List.length_cons, List.length_nil]; omega)) ?_)))))))
            refine aB.run II 2 rfl (aB.nil (aC.seq (aC.region (aB.run II 1 rfl (aB.c1 rfl (dM (aF rfl) rfl rfl (zS (by omega) (by omega))) (aB.run II 2 rfl (aB.nil (aC.drawn mixed rfl (aD.run II 9 rfl (aD.c1 rfl (aG (aF rfl) pV rfl (l6 _ _ _ _)) (aD.c1 rfl (aG (aF rfl) jS rfl (fv p.outs (cb x.field x.num x.ty p.aJ) (by omega))) (aD.run II 2 rfl (aD.nil (by kernel_rfl) (Kept.aI [.s 7, .b 7, .h, .s 0, .s 1] rfl (by decide) (Kept.now ?_)))))))))))))))
            exact ⟨(.os K.next ((p.ops.map ep.av).length + 1) 13, ir K o (az (p.ops.map ep.av ++ [(w7 x p.aJ).av]))), ⟨by rw [Ah (by simpa using hc10)]; exact Mv.app I.fin (w7 x p.aJ), by have : x.kind = 9 := (by simpa using hc10); omega, by have : x.kind = 9 := (by simpa using hc10); omega⟩, by rw [Ah (by simpa using hc10)]; rfl⟩
           ·exact aC.region (aB.run II 4 rfl (aB.c1 rfl (aG (aF rfl) pU rfl (gM _ _ (by omega))) (aB.run II 2 rfl (aB.kept (Kept.aI [.s 7, .b 7, .h, .s 0, .s 1] rfl (by decide) (Kept.now (⟨(o, K), ⟨by rw [vA (show x.kind = 10 by have a1 : x.kind ≠ 1 := (by simpa using hc2); have a2 : x.kind ≠ 2 := (by simpa using hc3); have a3 : x.kind ≠ 3 := (by simpa using hc4); have a4 : x.kind ≠ 4 := (by simpa using hc5); have a5 : x.kind ≠ 5 := (by simpa using hc6); have a6 : x.kind ≠ 6 := (by simpa using hc7); have a7 : x.kind ≠ 7 := (by simpa using hc8); have a8 : x.kind ≠ 8 := (by simpa using hc9); have a9 : x.kind ≠ 9 := (by simpa using hc10); omega)]; exact Mv.same I.fin (show eh K o 13 (p.ops.map ep.av) from I.ops _ _ _ ho hp), by have := (show x.kind = 10 by have a1 : x.kind ≠ 1 := (by simpa using hc2); have a2 : x.kind ≠ 2 := (by simpa using hc3); have a3 : x.kind ≠ 3 := (by simpa using hc4); have a4 : x.kind ≠ 4 := (by simpa using hc5); have a5 : x.kind ≠ 5 := (by simpa using hc6); have a6 : x.kind ≠ 6 := (by simpa using hc7); have a7 : x.kind ≠ 7 := (by simpa using hc8); have a8 : x.kind ≠ 8 := (by simpa using hc9); have a9 : x.kind ≠ 9 := (by simpa using hc10); omega); omega, by have := (show x.kind = 10 by have a1 : x.kind ≠ 1 := (by simpa using hc2); have a2 : x.kind ≠ 2 := (by simpa using hc3); have a3 : x.kind ≠ 3 := (by simpa using hc4); have a4 : x.kind ≠ 4 := (by simpa using hc5); have a5 : x.kind ≠ 5 := (by simpa using hc6); have a6 : x.kind ≠ 6 := (by simpa using hc7); have a7 : x.kind ≠ 7 := (by simpa using hc8); have a8 : x.kind ≠ 8 := (by simpa using hc9); have a9 : x.kind ≠ 9 := (by simpa using hc10); omega); omega⟩, by rw [vA (show x.kind = 10 by have a1 : x.kind ≠ 1 := (by simpa using hc2); have a2 : x.kind ≠ 2 := (by simpa using hc3); have a3 : x.kind ≠ 3 := (by simpa using hc4); have a4 : x.kind ≠ 4 := (by simpa using hc5); have a5 : x.kind ≠ 5 := (by simpa using hc6); have a6 : x.kind ≠ 6 := (by simpa using hc7); have a7 : x.kind ≠ 7 := (by simpa using hc8); have a8 : x.kind ≠ 8 := (by simpa using hc9); have a9 : x.kind ≠ 9 := (by simpa using hc10); omega)]; rfl⟩)))))))
  ·rintro ⟨o1, K1⟩ hF25
   refine aC.seq (aC.region (aB.run II 3 rfl (aB.c1 rfl (bU (aF rfl) dP rfl rfl (Int.natCast_nonneg _) (by omega)) (aB.c1 rfl (kk eg rfl rfl (I.zq ho hF25.1) rfl (eu _ _) rfl (by rw [cy hln]; exact hat) rfl) ?_))))
   exact aB.nil (aC.seq (aC.region (aB.run II 2 rfl (aB.nil (aC.ret (⟨.inr rfl, _, _, ⟨A, os.set at_ o1, (by rw [CD hp hF25.2.1 hF25.2.2, List.length_set]), (by rw [CD hp hF25.2.1 hF25.2.2]; exact I.put (q := aP p x) hp ho hF25.1)⟩, aE.r1 rfl (.tmp rfl .nil), rfl⟩))))))
open Go Go.RowKit
/- Plain laws: a step of a part is the step of its message. No condition. -/
structure bu (names : List au) (aJ : Int) (l : List Port) : Prop where
 reg : ∀ x ∈ l, 0 ≤ x.reg ∧ x.reg < aJ
 dist : (l.map (·.reg)).Nodup
 part : ∀ x ∈ l, (x.f.ty = 15 → ∃ j : Nat, x.part = (j : Int) ∧ names[j]? = some x.f.ref) ∧ (x.f.ty ≠ 15 → x.part = -1)
theorem Fit.bc {names : List au} {p : aj} {m : aT} (h : Fit names p m) : bu names p.aJ p.outs := ⟨h.reg, h.dist, h.part⟩
theorem bu.fit {names : List au} {p : aj} {m : aT} (h : bu names p.aJ p.outs) (hr : 0 ≤ p.aJ) (ho : p.outs.map (·.f) = m.fields) : Fit names p m := ⟨hr, ho, h.reg, h.dist, h.part⟩
section
variable {names : List au} {aJ : Int} {l : List Port}
theorem bu.mono {regs' : Int} (h : bu names aJ l) (hr : aJ ≤ regs') : bu names regs' l := ⟨fun x hx => by have := h.reg x hx; omega, h.dist, h.part⟩
theorem bu.eX (h : bu names aJ l) (n : au) : bu names aJ (aV l n) := by
 have hs : ∀ x ∈ aV l n, x ∈ l := fun x hx => (List.mem_filter.1 hx).1
 exact ⟨fun x hx => h.reg x (hs x hx), (List.Sublist.map _ List.filter_sublist).nodup h.dist, fun x hx => h.part x (hs x hx)⟩
theorem bu.with (h : bu names aJ l) {x : Port} (h1 : 0 ≤ x.reg ∧ x.reg < aJ) (h2 : x.reg ∉ l.map (·.reg)) (h3 : (x.f.ty = 15 → ∃ j : Nat, x.part = (j : Int) ∧ names[j]? = some x.f.ref) ∧ (x.f.ty ≠ 15 → x.part = -1)) : bu names aJ (bY l x) := by
 refine ⟨fun y hy => ?_, ?_, fun y hy => ?_⟩
 ·rcases qK hy with rfl | hy
  ·exact h1
  ·exact h.reg y hy
 ·rw [((uX l x).map _).nodup_iff]
  exact List.nodup_cons.2 ⟨h2, h.dist⟩
 ·rcases qK hy with rfl | hy
  ·exact h3
  ·exact h.part y hy
theorem bu.new (h : bu names aJ l) {n : Int} (hn : aJ ≤ n) : n ∉ l.map (·.reg) := by
 intro hx
 obtain ⟨y, hy, e⟩ := List.mem_map.1 hx
 have := h.reg y hy
 omega
theorem bu.back (h : bu names aJ l) (hu : (l.map (fun x => x.f.name)).Nodup) {f : Port} (hf : f ∈ l) : f.reg ∉ (aV l f.f.name).map (·.reg) := by
 intro hx
 obtain ⟨y, hy, e⟩ := List.mem_map.1 hx
 obtain ⟨hy1, hy2⟩ := List.mem_filter.1 hy
 obtain ⟨i, hi⟩ := List.mem_iff_getElem?.1 hy1
 obtain ⟨j, hj⟩ := List.mem_iff_getElem?.1 hf
 have hi' := (List.getElem?_eq_some_iff.1 hi)
 have hj' := (List.getElem?_eq_some_iff.1 hj)
 obtain ⟨hil, rfl⟩ := hi'
 obtain ⟨hjl, rfl⟩ := hj'
 have hp : l.Pairwise fun a b => a.reg ≠ b.reg := List.pairwise_map.1 h.dist
 by_cases hij : i = j
 ·subst hij; simp at hy2
 ·rcases Nat.lt_or_gt_of_ne hij with q | q
  ·exact List.pairwise_iff_getElem.1 hp i j hil hjl q e
  ·exact List.pairwise_iff_getElem.1 hp j i hjl hil q e.symm
end
/-! ### the fields -/
theorem fp (l : List ah) : bB l [] = l := by
 unfold bB
 exact List.filter_eq_self.2 fun a _ => by simp
theorem eW (l : List ah) (n : au) : bB l [n] = l.filter fun f => !(f.name == n) := by
 unfold bB
 congr 1
 funext f
 simp
theorem qx (l : List ah) (n k : au) : bB l [n, k] = (l.filter fun f => !(f.name == n)).filter fun f => !(f.name == k) := by
 unfold bB
 rw [List.filter_filter]
 congr 1
 funext f
 simp [Bool.and_comm]
theorem fV {l base : List ah} {x : ah} (hb : dG (·.num) base) (hp : l.Perm (x :: base)) (hs : dG (·.num) (bI (fun y x : ah => decide (y.num > x.num)) l)) :
  bI (fun y x : ah => decide (y.num > x.num)) l = cR (fun y : ah => decide (y.num > x.num)) x base := by
 have hn : l.Pairwise fun a b => a.num ≠ b.num := ((fU _ l).pairwise_iff (fun h e => h e.symm)).1 hs.ne
 have hn2 : (x :: base).Pairwise fun a b => a.num ≠ b.num := (hp.pairwise_iff (fun h e => h e.symm)).1 hn
 have hx := (List.pairwise_cons.1 hn2).1
 have hr : dG (·.num) (cR (fun y : ah => decide (y.num > x.num)) x base) := hb.ins (k := fun f : ah => f.num) fun y hy e => hx y hy e.symm
 exact Cj hr (hp.trans (dp _ x base).symm)
theorem BK {l base : List ah} {x y : ah} (hb : dG (·.num) base) (hp : l.Perm (y :: x :: base)) (hs : dG (·.num) (bI (fun y x : ah => decide (y.num > x.num)) l)) :
  dG (·.num) (cR (fun y : ah => decide (y.num > x.num)) x base) := by
 have hn : l.Pairwise fun a b => a.num ≠ b.num := ((fU _ l).pairwise_iff (fun h e => h e.symm)).1 hs.ne
 have hn2 : (y :: x :: base).Pairwise fun a b => a.num ≠ b.num := (hp.pairwise_iff (fun h e => h e.symm)).1 hn
 have hx := (List.pairwise_cons.1 (List.pairwise_cons.1 hn2).2).1
 exact hb.ins (k := fun f : ah => f.num) fun y hy e => hx y hy e.symm
theorem vg {x : aS} (h1 : x.kind ≠ 1) (h3 : x.kind ≠ 3) (h8 : x.kind ≠ 8) (f : ah) : x.changed f = f := by
 unfold aS.changed
 rw [if_neg h8]
 rw [if_neg h1, if_neg h3]
 split <;> rfl
theorem c9 {x : aS} (h1 : x.kind ≠ 1) (h3 : x.kind ≠ 3) (h8 : x.kind ≠ 8) (l : List ah) : l.map x.changed = l := by
 conv => rhs; rw [← List.map_id l]
 exact List.map_congr_left fun f _ => vg h1 h3 h8 f
theorem nP {x : aS} (h8 : x.kind ≠ 8) {f : ah} (h : f.name ≠ x.field) : x.changed f = f := by
 unfold aS.changed
 rw [if_neg h8, if_neg h]
/- Plain laws: a step of a part is the step of its message: those that leave the other parts alone. No condition. -/
def aS.dr (s : aN) (m : aT) (x : aS) : List ah := (bB m.fields x.goes).map x.changed ++ x.comes s (m.aQ x.field)
def HG : ah → ah → Bool := fun y x => decide (y.num > x.num)
theorem zh {names : List au} {s t : aN} {x : aS} {m : aT} {at_ : Nat} (A : cH s x t m at_) {p : aj} (hF : Fit names p m) (h6 : x.kind ≠ 6) (h7 : x.kind ≠ 7) (hs : dG (·.num) (bI HG (x.dr s m))) :
  (aP p x).outs.map (·.f) = bI HG (x.dr s m) ∧ bu names (aP p x).aJ (aP p x).outs ∧ p.aJ ≤ (aP p x).aJ := by
 have hm : m ∈ s.msgs := List.mem_of_getElem? A.eq
 have hfn := A.fD.fn m hm
 have hfr := A.fD.fr m hm
 have hnames : (p.outs.map (fun y => y.f.name)).Nodup := by
  have : p.outs.map (fun y => y.f.name) = (p.outs.map (·.f)).map (·.name) := by rw [List.map_map]; rfl
  rw [this, hF.outs]; exact hfn
 have hk : 1 ≤ x.kind ∧ x.kind ≤ 10 := by
  have := A.rt
  simp only [aS.right, Bool.and_eq_true, decide_eq_true_eq] at this
  obtain ⟨⟨⟨⟨⟨⟨⟨⟨⟨⟨q1, q2⟩, _⟩, _⟩, _⟩, _⟩, _⟩, _⟩, _⟩, _⟩, _⟩ := this
  exact ⟨q1, q2⟩
 have hport : m.eI x.field = true → aO p.outs x.field ∈ p.outs ∧ (aO p.outs x.field).f = m.aQ x.field ∧ (aO p.outs x.field).f.name = x.field := fun h => by
  have hh := ek h
  exact fB hF.outs ⟨_, hh.1, hh.2⟩
 have hback : m.eI x.field = true → (aO p.outs x.field).reg ∉ (aV p.outs x.field).map (·.reg) := fun h => by
  obtain ⟨q1, q2, q3⟩ := hport h
  have := hF.bc.back hnames q1
  rwa [q3] at this
 have h0 := hF.rn
 have : x.kind = 1 ∨ x.kind = 2 ∨ x.kind = 3 ∨ x.kind = 4 ∨ x.kind = 5 ∨ x.kind = 8 ∨ x.kind = 9 ∨ x.kind = 10 := by omega
 rcases this with h | h | h | h | h | h | h | h
 ·have hhas : m.eI x.field = true := by have := A.has; simpa [aS.bn, h] using this
  obtain ⟨q1, q2, q3⟩ := hport hhas
  have r1 := hF.reg _ q1
  have r2 := hF.part _ q1
  obtain ⟨f1, f2⟩ := ek hhas
  have ef : x.dr s m = m.fields.map x.changed := by simp [aS.dr, aS.goes, aS.comes, h, fp]
  have ec : x.changed (m.aQ x.field) = { m.aQ x.field with name := x.dest } := by simp [aS.changed, h, f2]
  have hp := wo (·.name) hfn f1 (g := x.changed) fun y _ hy => nP (by omega) (by rw [f2] at hy; exact hy)
  rw [ec, f2, ← ef] at hp
  refine ⟨?_, ?_, by simp [aP, h] <;> omega⟩
  ·simp only [aP, h, if_true]
   rw [dn, cX, hF.outs, q2]
   exact (fV (hfr.filter _) hp hs).symm
  ·simp only [aP, h, if_true]
   exact (hF.bc.eX x.field).with r1 (hback hhas) r2
 ·have hhas : m.eI x.field = true := by have := A.has; simpa [aS.bn, h] using this
  obtain ⟨q1, q2, q3⟩ := hport hhas
  have r1 := hF.reg _ q1
  have r2 := hF.part _ q1
  have ef : x.dr s m = (m.fields.filter fun f => !(f.name == x.field)) ++ [{ m.aQ x.field with num := x.num }] := by
   simp only [aS.dr, aS.goes, aS.comes, h]
   simp only [show ¬ (2 : Int) = 1 by decide, if_true, true_or, eW]
   rw [c9 (by omega) (by omega) (by omega)]
  have hp : (x.dr s m).Perm ({ m.aQ x.field with num := x.num } :: m.fields.filter fun f => !(f.name == x.field)) := by rw [ef]; exact List.perm_append_comm
  refine ⟨?_, ?_, by simp [aP, h] <;> omega⟩
  ·simp only [aP, h, show ¬ (2 : Int) = 1 by decide, if_false, if_true]
   rw [dn, cX, hF.outs, q2]
   exact (fV (hfr.filter _) hp hs).symm
  ·simp only [aP, h, show ¬ (2 : Int) = 1 by decide, if_false, if_true]
   exact (hF.bc.eX x.field).with r1 (hback hhas) r2
 ·have hhas : m.eI x.field = true := by have := A.has; simpa [aS.bn, h] using this
  obtain ⟨q1, q2, q3⟩ := hport hhas
  have r1 := hF.reg _ q1
  have r2 := hF.part _ q1
  obtain ⟨f1, f2⟩ := ek hhas
  have hty : (m.aQ x.field).ty ≠ 15 ∧ x.ty ≠ 15 := by
   have ha := A.ask
   have ht := A.rt
   simp only [aS.asked, h, if_true, Bool.and_eq_true, decide_eq_true_eq] at ha
   simp only [aS.right, Bool.and_eq_true, aS.typed, h, if_true] at ht
   have hw : cI x.ty = true := ht.1.1.2
   simp only [cI, Bool.or_eq_true, Bool.and_eq_true, decide_eq_true_eq] at hw
   omega
  have ef : x.dr s m = m.fields.map x.changed := by simp [aS.dr, aS.goes, aS.comes, h, fp]
  have ec : x.changed (m.aQ x.field) = { m.aQ x.field with ty := x.ty } := by simp [aS.changed, h, f2]
  have hp := wo (·.name) hfn f1 (g := x.changed) fun y _ hy => nP (by omega) (by rw [f2] at hy; exact hy)
  rw [ec, f2, ← ef] at hp
  have hpt := (hF.part _ q1).2 (by rw [q2]; exact hty.1)
  refine ⟨?_, ?_, by simp [aP, h] <;> omega⟩
  ·simp only [aP, h, show ¬ (3 : Int) = 1 by decide, show ¬ (3 : Int) = 2 by decide, if_false, if_true]
   rw [dn, cX, hF.outs, q2]
   exact (fV (hfr.filter _) hp hs).symm
  ·simp only [aP, h, show ¬ (3 : Int) = 1 by decide, show ¬ (3 : Int) = 2 by decide, if_false, if_true]
   exact (hF.bc.eX x.field).with r1 (hback hhas) ⟨fun e => absurd e hty.2, fun _ => hpt⟩
 ·have hhas : m.eI x.field = true := by have := A.has; simpa [aS.bn, h] using this
  obtain ⟨q1, q2, q3⟩ := hport hhas
  have r1 := hF.reg _ q1
  have r2 := hF.part _ q1
  have ef : x.dr s m = (m.fields.filter fun f => !(f.name == x.field)) ++ [{ dt with name := x.dest, num := x.num, ty := 3 }, { dt with name := x.also, num := x.other, ty := 3 }] := by
   simp only [aS.dr, aS.goes, aS.comes, h]
   simp only [show ¬ (4 : Int) = 2 by decide, if_false, if_true, true_or, or_true, eW]
   rw [c9 (by omega) (by omega) (by omega)]
  have hp : (x.dr s m).Perm ({ dt with name := x.also, num := x.other, ty := 3 } :: { dt with name := x.dest, num := x.num, ty := 3 } :: m.fields.filter fun f => !(f.name == x.field)) := by
   rw [ef]
   exact List.perm_append_comm.trans (List.Perm.swap _ _ _)
  have hr := BK (hfr.filter _) hp hs
  have hp2 := hp.trans ((dp (fun y : ah => decide (y.num > x.num)) { dt with name := x.dest, num := x.num, ty := 3 } (m.fields.filter fun f => !(f.name == x.field))).symm.cons { dt with name := x.also, num := x.other, ty := 3 })
  refine ⟨?_, ?_, by simp [aP, h] <;> omega⟩
  ·simp only [aP, h, show ¬ (4 : Int) = 1 by decide, show ¬ (4 : Int) = 2 by decide, show ¬ (4 : Int) = 3 by decide, if_false, if_true]
   rw [dn, dn, cX, hF.outs]
   exact (fV hr hp2 hs).symm
  ·simp only [aP, h, show ¬ (4 : Int) = 1 by decide, show ¬ (4 : Int) = 2 by decide, show ¬ (4 : Int) = 3 by decide, if_false, if_true]
   have hw := hF.bc.eX x.field
   have g1 : bu names (p.aJ + 1) (bY (aV p.outs x.field) (cb x.dest x.num 3 p.aJ)) := (hw.mono (by omega)).with ⟨h0, by show p.aJ < p.aJ + 1; omega⟩ (hw.new (Int.le_refl _)) ⟨fun e => absurd (show (3 : Int) = 15 from e) (by decide), fun _ => rfl⟩
   exact (g1.mono (by omega)).with ⟨by show 0 ≤ p.aJ + 1; omega, by show p.aJ + 1 < p.aJ + 2; omega⟩ (g1.new (Int.le_refl _)) ⟨fun e => absurd (show (3 : Int) = 15 from e) (by decide), fun _ => rfl⟩
 ·have hhas : m.eI x.field = true ∧ m.eI x.also = true := by have := A.has; simpa [aS.bn, h] using this
  obtain ⟨q1, q2, q3⟩ := hport hhas.1
  have ef : x.dr s m = ((m.fields.filter fun f => !(f.name == x.field)).filter fun f => !(f.name == x.also)) ++ [{ dt with name := x.dest, num := x.num, ty := 4 }] := by
   simp only [aS.dr, aS.goes, aS.comes, h]
   simp only [show ¬ (5 : Int) = 2 by decide, show ¬ (5 : Int) = 4 by decide, show ¬ (5 : Int) = 6 by decide, show ¬ (5 : Int) = 7 by decide, show ¬ (5 : Int) = 10 by decide, or_false, false_or, if_false, if_true, qx]
   rw [c9 (by omega) (by omega) (by omega)]
  have hp : (x.dr s m).Perm ({ dt with name := x.dest, num := x.num, ty := 4 } :: ((m.fields.filter fun f => !(f.name == x.field)).filter fun f => !(f.name == x.also))) := by rw [ef]; exact List.perm_append_comm
  refine ⟨?_, ?_, by simp [aP, h] <;> omega⟩
  ·simp only [aP, h, show ¬ (5 : Int) = 1 by decide, show ¬ (5 : Int) = 2 by decide, show ¬ (5 : Int) = 3 by decide, show ¬ (5 : Int) = 4 by decide, if_false, if_true]
   rw [dn, cX, cX, hF.outs]
   exact (fV ((hfr.filter _).filter _) hp hs).symm
  ·simp only [aP, h, show ¬ (5 : Int) = 1 by decide, show ¬ (5 : Int) = 2 by decide, show ¬ (5 : Int) = 3 by decide, show ¬ (5 : Int) = 4 by decide, if_false, if_true]
   have hw := (hF.bc.eX x.field).eX x.also
   exact (hw.mono (by omega)).with ⟨h0, by show p.aJ < p.aJ + 1; omega⟩ (hw.new (Int.le_refl _)) ⟨fun e => absurd (show (4 : Int) = 15 from e) (by decide), fun _ => rfl⟩
 ·have ef : x.dr s m = m.fields.map x.changed := by simp [aS.dr, aS.goes, aS.comes, h, fp]
  have hnum : ∀ f, (x.changed f).num = f.num ∧ (x.changed f).ty = f.ty ∧ (x.changed f).ref = f.ref := fun f => by
   unfold aS.changed
   rw [if_pos h]
   split <;> exact ⟨rfl, rfl, rfl⟩
  have eo : (aP p x).outs = p.outs.map fun y => { y with f := x.changed y.f } := by
   simp only [aP, h, show ¬ (8 : Int) = 1 by decide, show ¬ (8 : Int) = 2 by decide, show ¬ (8 : Int) = 3 by decide, show ¬ (8 : Int) = 4 by decide, show ¬ (8 : Int) = 5 by decide, if_false, if_true]
   refine List.map_congr_left fun y _ => ?_
   unfold aS.changed
   rw [if_pos h]
   split <;> rfl
  have er : (aP p x).aJ = p.aJ := by
   simp only [aP, h, show ¬ (8 : Int) = 1 by decide, show ¬ (8 : Int) = 2 by decide, show ¬ (8 : Int) = 3 by decide, show ¬ (8 : Int) = 4 by decide, show ¬ (8 : Int) = 5 by decide, if_false, if_true]
  have hr : dG (·.num) (m.fields.map x.changed) := List.pairwise_map.2 (hfr.imp fun {a b} hab => by
   show (x.changed a).num < (x.changed b).num
   rw [(hnum a).1, (hnum b).1]; exact hab)
  refine ⟨?_, ?_, by rw [er]; omega⟩
  ·rw [eo, ef]
   have e2 : (p.outs.map fun y => { y with f := x.changed y.f }).map (·.f) = m.fields.map x.changed := by
    rw [← hF.outs, List.map_map, List.map_map]; rfl
   rw [e2]
   exact (kI (k := fun f : ah => f.num) hr).symm
  ·rw [eo, er]
   refine ⟨fun y hy => ?_, ?_, fun y hy => ?_⟩
   ·obtain ⟨z, hz, rfl⟩ := List.mem_map.1 hy
    exact hF.reg z hz
   ·rw [List.map_map]; exact hF.dist
   ·obtain ⟨z, hz, rfl⟩ := List.mem_map.1 hy
    have := hF.part z hz
    show ((x.changed z.f).ty = 15 → _) ∧ ((x.changed z.f).ty ≠ 15 → _)
    rw [(hnum z.f).2.1, (hnum z.f).2.2]
    exact this
 ·have ef : x.dr s m = m.fields ++ [{ dt with name := x.field, num := x.num, ty := x.ty }] := by
   simp only [aS.dr, aS.goes, aS.comes, h]
   simp only [show ¬ (9 : Int) = 2 by decide, show ¬ (9 : Int) = 4 by decide, show ¬ (9 : Int) = 5 by decide, show ¬ (9 : Int) = 6 by decide, show ¬ (9 : Int) = 7 by decide, show ¬ (9 : Int) = 10 by decide, or_false, if_false, if_true, fp]
   rw [c9 (by omega) (by omega) (by omega)]
  have hp : (x.dr s m).Perm ({ dt with name := x.field, num := x.num, ty := x.ty } :: m.fields) := by rw [ef]; exact List.perm_append_comm
  have hty : x.ty ≠ 15 := by
   have ht := A.rt
   simp only [aS.right, Bool.and_eq_true, aS.typed, h, show ¬ (9 : Int) = 3 by decide, if_false, if_true] at ht
   have hw := ht.1.1.2
   intro e
   rw [e] at hw
   exact absurd hw (by decide)
  refine ⟨?_, ?_, by simp [aP, h] <;> omega⟩
  ·simp only [aP, h, show ¬ (9 : Int) = 1 by decide, show ¬ (9 : Int) = 2 by decide, show ¬ (9 : Int) = 3 by decide, show ¬ (9 : Int) = 4 by decide, show ¬ (9 : Int) = 5 by decide, show ¬ (9 : Int) = 8 by decide, if_false, if_true]
   rw [dn, hF.outs]
   exact (fV hfr hp hs).symm
  ·simp only [aP, h, show ¬ (9 : Int) = 1 by decide, show ¬ (9 : Int) = 2 by decide, show ¬ (9 : Int) = 3 by decide, show ¬ (9 : Int) = 4 by decide, show ¬ (9 : Int) = 5 by decide, show ¬ (9 : Int) = 8 by decide, if_false, if_true]
   exact (hF.bc.mono (by omega)).with ⟨h0, by show p.aJ < p.aJ + 1; omega⟩ (hF.bc.new (Int.le_refl _)) ⟨fun e => absurd e hty, fun _ => rfl⟩
 ·have ef : x.dr s m = m.fields.filter fun f => !(f.name == x.field) := by
   simp only [aS.dr, aS.goes, aS.comes, h]
   simp only [show ¬ (10 : Int) = 2 by decide, show ¬ (10 : Int) = 4 by decide, show ¬ (10 : Int) = 5 by decide, show ¬ (10 : Int) = 6 by decide, show ¬ (10 : Int) = 7 by decide, show ¬ (10 : Int) = 9 by decide, or_true, if_false, if_true, eW, List.append_nil]
   rw [c9 (by omega) (by omega) (by omega)]
  refine ⟨?_, ?_, by simp [aP, h] <;> omega⟩
  ·simp only [aP, h, show ¬ (10 : Int) = 1 by decide, show ¬ (10 : Int) = 2 by decide, show ¬ (10 : Int) = 3 by decide, show ¬ (10 : Int) = 4 by decide, show ¬ (10 : Int) = 5 by decide, show ¬ (10 : Int) = 8 by decide, show ¬ (10 : Int) = 9 by decide, if_false]
   rw [cX, hF.outs, ef]
   exact (kI (k := fun f : ah => f.num) (hfr.filter _)).symm
  ·simp only [aP, h, show ¬ (10 : Int) = 1 by decide, show ¬ (10 : Int) = 2 by decide, show ¬ (10 : Int) = 3 by decide, show ¬ (10 : Int) = 4 by decide, show ¬ (10 : Int) = 5 by decide, show ¬ (10 : Int) = 8 by decide, show ¬ (10 : Int) = 9 by decide, if_false]
   exact hF.bc.eX x.field
/- Plain laws: the parts are the messages behind a step too: steps that make no message, and take none away. No condition. -/
theorem iZ {names : List au} {s : au} {k : Nat} (hk : names[k]? = some s) (hu : ∀ j, names[j]? = some s → j = k) : eA names s = k := by
 obtain ⟨hlt, hs⟩ := List.getElem?_eq_some_iff.1 hk
 have hr : names.length - 1 - k < names.reverse.length := by rw [List.length_reverse]; omega
 have hfi : names.reverse.findIdx (· == s) = names.length - 1 - k := by
  rw [List.findIdx_eq hr]
  refine ⟨?_, fun j hj => ?_⟩
  ·rw [List.getElem_reverse]
   have : names.length - 1 - (names.length - 1 - k) = k := by omega
   simp only [this, hs, beq_self_eq_true]
  ·rw [List.getElem_reverse]
   have hlt2 : names.length - 1 - j < names.length := by omega
   have hne : names[names.length - 1 - j] ≠ s := fun e => by
    have := hu (names.length - 1 - j) (by rw [List.getElem?_eq_getElem hlt2, e])
    omega
   simp [hne]
 unfold eA
 rw [hfi]; omega
theorem ig {names : List au} {p : aj} {m : aT} (h : Fit names p m) : Fit names (cN p) m := ⟨h.rn, h.outs, h.reg, h.dist, h.part⟩
section
variable {s t : aN} {x : aS} {m : aT} {at_ : Nat}
theorem iS (hs : s.tL) {i j : Nat} {a b : aT} (hi : s.msgs[i]? = some a) (hj : s.msgs[j]? = some b) (e : a.name = b.name) : i = j := by
 have hn := (List.nodup_append.1 hs.nd).2.1
 obtain ⟨h1, rfl⟩ := List.getElem?_eq_some_iff.1 hi
 obtain ⟨h2, rfl⟩ := List.getElem?_eq_some_iff.1 hj
 have hp : s.msgs.Pairwise fun a b => a.name ≠ b.name := List.pairwise_map.1 hn
 rcases Nat.lt_trichotomy i j with q | q | q
 ·exact absurd e (List.pairwise_iff_getElem.1 hp i j h1 h2 q)
 ·exact q
 ·exact absurd e.symm (List.pairwise_iff_getElem.1 hp j i h2 h1 q)
def ji (s : aN) (m : aT) (x : aS) : aT := { m with fields := x.dr s m }
theorem mem_set {l : List aT} {i : Nat} {a y : aT} (h : y ∈ l.set i a) : (y = a ∧ i < l.length) ∨ ∃ j, j ≠ i ∧ l[j]? = some y := by
 obtain ⟨j, hj⟩ := List.mem_iff_getElem?.1 h
 rw [List.getElem?_set] at hj
 split at hj
 ·rename_i e
  split at hj
  ·rename_i hl; cases hj; exact .inl ⟨rfl, by omega⟩
  ·cases hj
 ·rename_i e; exact .inr ⟨j, fun q => e q.symm, hj⟩
theorem cH.plain (A : cH s x t m at_) (h6 : x.kind ≠ 6) (h7 : x.kind ≠ 7) : t = (⟨s.enums, s.msgs.set at_ (ji s m x)⟩ : aN).sorted := by
 have := A.out
 rw [vF h6 h7] at this
 exact this
theorem cH.mem (A : cH s x t m at_) (h6 : x.kind ≠ 6) (h7 : x.kind ≠ 7) {y : aT} : y ∈ t.msgs ↔ y = (ji s m x).sort ∨ ∃ j, j ≠ at_ ∧ s.msgs[j]? = some y := by
 have hp : t.msgs.Perm ((s.msgs.set at_ (ji s m x)).map aT.sort) := by rw [A.plain h6 h7]; exact jb _
 rw [hp.mem_iff]
 constructor
 ·intro h
  obtain ⟨z, hz, rfl⟩ := List.mem_map.1 h
  rcases mem_set hz with ⟨rfl, _⟩ | ⟨j, hj, e⟩
  ·exact .inl rfl
  ·have hm := List.mem_of_getElem? e
   refine .inr ⟨j, hj, ?_⟩
   rw [aT.jB (A.fD.fr z hm) (A.fD.br z hm)]; exact e
 ·rintro (rfl | ⟨j, hj, e⟩)
  ·exact List.mem_map_of_mem (List.mem_iff_getElem?.2 ⟨at_, List.getElem?_set_self A.lt⟩)
  ·have hm := List.mem_of_getElem? e
   refine List.mem_map.2 ⟨y, (List.mem_iff_getElem?.2 ⟨j, ?_⟩), aT.jB (A.fD.fr y hm) (A.fD.br y hm)⟩
   rw [List.getElem?_set_ne (fun q => hj q.symm)]; exact e
theorem Inv.plain {w : gj} (I : Inv s w) (A : cH s x t m at_) (h6 : x.kind ≠ 6) (h7 : x.kind ≠ 7) : Inv t (w.step x) := by
 have hm : m ∈ s.msgs := List.mem_of_getElem? A.eq
 obtain ⟨k, p, k1, k2, hF⟩ := I.fwd m hm
 have hne : m.name ≠ [] := gx (A.fD.nm m hm)
 have hk : k < w.all.length := (List.getElem?_eq_some_iff.1 k2).1
 have hix : eA w.names x.msg = k := iZ (by rw [← A.nm]; exact k1) fun j hj => I.uniq j k _ hj (by rw [← A.nm]; exact k1) (by rw [← A.nm]; exact hne)
 have hgd : w.all.getD k cc = p := by rw [List.getD_eq_getElem?_getD, k2]; rfl
 have hst : w.step x = ⟨w.all.set k (cN (aP p x)), w.names⟩ := by
  unfold gj.step
  simp only [hix, h6, h7, if_false, bX, hgd]
  congr 1
  rw [List.getD_eq_getElem?_getD, List.getElem?_set_self hk]
  simp
 have hnew : (ji s m x).sort ∈ t.msgs := (A.mem h6 h7).2 (.inl rfl)
 have hrise : dG (·.num) (bI HG (x.dr s m)) := A.Dk.fr _ hnew
 obtain ⟨s1, s2, s3⟩ := zh A hF h6 h7 hrise
 rw [hst]
 refine ⟨by simp [I.len], A.Dk, ?_, I.uniq, fun i n hi hn => ?_, fun y hy => ?_⟩
 ·have hr := I.root
  show w.names.head? = _
  rw [hr, A.plain h6 h7]
  cases e : s.msgs with
  | nil => have := A.lt; rw [e] at this; simp at this
  | cons a l =>
   have hh : ((a :: l).set at_ (ji s m x)).head? = some (if at_ = 0 then ji s m x else a) := by
    cases at_ with
    | zero => rfl
    | succ i => rfl
   have := jc (s := ⟨s.enums, (a :: l).set at_ (ji s m x)⟩) hh
   rw [this]
   simp only [List.head?_cons, Option.map_some, Option.some.injEq]
   split
   ·rename_i h0
    have := A.eq
    rw [h0, e] at this
    simp at this
    rw [this]; rfl
   ·rfl
 ·obtain ⟨y, hy, e⟩ := I.back i n hi hn
  obtain ⟨j, hj⟩ := List.mem_iff_getElem?.1 hy
  by_cases hja : j = at_
  ·subst hja
   rw [A.eq] at hj; cases hj
   exact ⟨_, hnew, e⟩
  ·exact ⟨y, (A.mem h6 h7).2 (.inr ⟨j, hja, hj⟩), e⟩
 ·rcases (A.mem h6 h7).1 hy with rfl | ⟨j, hj, e⟩
  ·refine ⟨k, _, k1, List.getElem?_set_self hk, ig (s2.fit (by have := hF.rn; omega) s1)⟩
  ·obtain ⟨k', p', q1, q2, q3⟩ := I.fwd y (List.mem_of_getElem? e)
   refine ⟨k', p', q1, ?_, q3⟩
   rw [List.getElem?_set_ne, q2]
   intro hkk
   subst hkk
   rw [k1] at q1
   exact hj (iS A.fD e A.eq (by injection q1 with q1; exact q1.symm))
end
/- Plain laws: the parts are the messages behind a step that wraps, too. No condition. -/
theorem bu.names {names names' : List au} {aJ : Int} {l : List Port} (h : bu names aJ l) (hn : ∀ x ∈ l, ∀ j : Nat, x.f.ty = 15 → names[j]? = some x.f.ref → names'[j]? = some x.f.ref) : bu names' aJ l :=
 ⟨h.reg, h.dist, fun x hx => ⟨fun e => by obtain ⟨j, h1, h2⟩ := (h.part x hx).1 e; exact ⟨j, h1, hn x hx j e h2⟩, (h.part x hx).2⟩⟩
theorem Fit.names {names names' : List au} {p : aj} {m : aT} (h : Fit names p m) (hn : ∀ f ∈ m.fields, ∀ j : Nat, f.ty = 15 → names[j]? = some f.ref → names'[j]? = some f.ref) : Fit names' p m :=
 (h.bc.names fun x hx j e h1 => hn x.f (by rw [← h.outs]; exact List.mem_map_of_mem hx) j e h1).fit h.rn h.outs
section
variable {s t : aN} {x : aS} {m : aT} {at_ : Nat}
def my (m : aT) (x : aS) : aT := { j9 with name := x.dest, fields := [m.aQ x.field] }
theorem uV : (my m x).sort = my m x := by
 refine aT.jB ?_ ?_
 ·exact List.pairwise_singleton _ _
 ·exact List.Pairwise.nil
theorem cH.wrap (A : cH s x t m at_) (h6 : x.kind = 6) : t = (⟨s.enums, s.msgs.set at_ (ji s m x) ++ [my m x]⟩ : aN).sorted := by
 have := A.out
 rw [yc h6] at this
 have e : s.msgs.getD at_ j9 = m := by rw [List.getD_eq_getElem?_getD, A.eq]; rfl
 rw [e] at this
 exact this
theorem cH.Dw (A : cH s x t m at_) (h6 : x.kind = 6) {y : aT} : y ∈ t.msgs ↔ y = (ji s m x).sort ∨ (∃ j, j ≠ at_ ∧ s.msgs[j]? = some y) ∨ y = my m x := by
 have hp : t.msgs.Perm ((s.msgs.set at_ (ji s m x) ++ [my m x]).map aT.sort) := by rw [A.wrap h6]; exact jb _
 rw [hp.mem_iff, List.map_append, List.mem_append]
 simp only [List.map_cons, List.map_nil, List.mem_singleton, uV]
 constructor
 ·rintro (h | h)
  ·obtain ⟨z, hz, rfl⟩ := List.mem_map.1 h
   rcases mem_set hz with ⟨rfl, _⟩ | ⟨j, hj, e⟩
   ·exact .inl rfl
   ·have hm := List.mem_of_getElem? e
    refine .inr (.inl ⟨j, hj, ?_⟩)
    rw [aT.jB (A.fD.fr z hm) (A.fD.br z hm)]; exact e
  ·exact .inr (.inr h)
 ·rintro (rfl | ⟨j, hj, e⟩ | h)
  ·exact .inl (List.mem_map_of_mem (List.mem_iff_getElem?.2 ⟨at_, List.getElem?_set_self A.lt⟩))
  ·have hm := List.mem_of_getElem? e
   refine .inl (List.mem_map.2 ⟨y, (List.mem_iff_getElem?.2 ⟨j, ?_⟩), aT.jB (A.fD.fr y hm) (A.fD.br y hm)⟩)
   rw [List.getElem?_set_ne (fun q => hj q.symm)]; exact e
  ·exact .inr h
theorem cH.fresh (A : cH s x t m at_) (h6 : x.kind = 6) : ∀ y ∈ s.msgs, y.name ≠ x.dest := by
 have ht := A.th
 simp only [aS.there, h6, Bool.or_eq_false_iff, Bool.and_eq_false_iff, decide_eq_false_iff_not] at ht
 have hlt : ¬ 0 ≤ s.bH x.dest := by
  rcases ht.1.2 with q | q
  ·exact absurd trivial q
  ·exact q.2
 intro y hy e
 rcases an (fun m : aT => m.name == x.dest) s.msgs 0 with ⟨h1, h2⟩ | ⟨i, hi, h1, h2⟩
 ·have := List.find?_eq_none.1 h2 y hy
  simp [e] at this
 ·apply hlt
  show 0 ≤ bP (fun m : aT => m.name == x.dest) s.msgs 0
  rw [h1]; omega
theorem Inv.wrap {w : gj} (I : Inv s w) (A : cH s x t m at_) (h6 : x.kind = 6) : Inv t (w.step x) := by
 have hm : m ∈ s.msgs := List.mem_of_getElem? A.eq
 obtain ⟨k, p, k1, k2, hF⟩ := I.fwd m hm
 have hne : m.name ≠ [] := gx (A.fD.nm m hm)
 have hk : k < w.all.length := (List.getElem?_eq_some_iff.1 k2).1
 have hix : eA w.names x.msg = k := iZ (by rw [← A.nm]; exact k1) fun j hj => I.uniq j k _ hj (by rw [← A.nm]; exact k1) (by rw [← A.nm]; exact hne)
 have hgd : w.all.getD k cc = p := by rw [List.getD_eq_getElem?_getD, k2]; rfl
 have hhas : m.eI x.field = true := by have := A.has; simpa [aS.bn, h6] using this
 have hh := ek hhas
 obtain ⟨q1, q2, q3⟩ := fB hF.outs ⟨_, hh.1, hh.2⟩
 have q2 : (aO p.outs x.field).f = m.aQ x.field := q2
 have hfr := A.fD.fr m hm
 have hfn := A.fD.fn m hm
 let g : Port := ⟨{ dt with name := x.also, num := x.num, ty := 15, ref := x.dest }, p.aJ, w.all.length⟩
 let p' : aj := { p with ops := p.ops ++ [{ j7 with kind := 4, a := (aO p.outs x.field).reg, b := p.aJ, part := w.all.length }], aJ := p.aJ + 1, outs := bY (aV p.outs x.field) g }
 let wp : aj := cN { cc with name := x.dest, born := true, aJ := 1, ins := [{ aO p.outs x.field with reg := 0 }], outs := [{ aO p.outs x.field with reg := 0 }] }
 have hst : w.step x = ⟨(w.all ++ [wp]).set k (cN p'), w.names ++ [x.dest]⟩ := by
  unfold gj.step
  have h7 : ¬ x.kind = 7 := by omega
  simp only [hix, h7, h6, if_true, if_false, bX, hgd, show ¬ (6 : Int) = 7 by decide]
  congr 1
  have hl : k < (w.all ++ [wp]).length := by simp; omega
  rw [List.getD_eq_getElem?_getD, List.getElem?_set_self hl]
  simp only [Option.getD_some, List.set_set]
  rfl
 have hnew : (ji s m x).sort ∈ t.msgs := (A.Dw h6).2 (.inl rfl)
 have hrise : dG (·.num) (bI HG (x.dr s m)) := A.Dk.fr _ hnew
 have hext : ∀ (j : Nat) n, w.names[j]? = some n → (w.names ++ [x.dest])[j]? = some n := fun j n h => by
  rw [List.getElem?_append_left (List.getElem?_eq_some_iff.1 h).1]; exact h
 have hold : ∀ (j : Nat) n, w.names[j]? = some n → n ≠ [] → n ≠ x.dest := fun j n h hn e => by
  obtain ⟨y, hy, e2⟩ := I.back j n h hn
  exact A.fresh h6 y hy (e2.trans e)
 have ef : x.dr s m = (m.fields.filter fun f => !(f.name == x.field)) ++ [g.f] := by
  simp only [aS.dr, aS.goes, aS.comes, h6]
  simp only [show ¬ (6 : Int) = 2 by decide, show ¬ (6 : Int) = 4 by decide, show ¬ (6 : Int) = 5 by decide, if_false, if_true, true_or, or_true, eW]
  rw [c9 (by omega) (by omega) (by omega)]
 have hp : (x.dr s m).Perm (g.f :: m.fields.filter fun f => !(f.name == x.field)) := by rw [ef]; exact List.perm_append_comm
 have hlast : (w.names ++ [x.dest])[w.all.length]? = some x.dest := by rw [← I.len]; simp
 have hpo : bu (w.names ++ [x.dest]) (p.aJ + 1) (bY (aV p.outs x.field) g) := by
  have hw := (hF.bc.eX x.field).names (names' := w.names ++ [x.dest]) fun y hy j e h1 => hext j _ h1
  exact (hw.mono (by omega)).with ⟨hF.rn, by show p.aJ < p.aJ + 1; omega⟩ ((hF.bc.eX x.field).new (Int.le_refl _)) ⟨fun _ => ⟨w.all.length, rfl, hlast⟩, fun e => absurd rfl e⟩
 have hout : (bY (aV p.outs x.field) g).map (·.f) = bI HG (x.dr s m) := by
  rw [dn, cX, hF.outs]
  exact (fV (hfr.filter _) hp hrise).symm
 rw [hst]
 refine ⟨by simp [I.len], A.Dk, ?_, fun i j n hi hj hn => ?_, fun i n hi hn => ?_, fun y hy => ?_⟩
 ·have hr := I.root
  have hne0 : w.names.head? = (w.names ++ [x.dest]).head? := by
   cases e : w.names with
   | nil => rw [e] at k1; simp at k1
   | cons a l => rfl
  show (w.names ++ [x.dest]).head? = _
  rw [← hne0, hr, A.wrap h6]
  cases e : s.msgs with
  | nil => have := A.lt; rw [e] at this; simp at this
  | cons a l =>
   have hh2 : ((a :: l).set at_ (ji s m x) ++ [my m x]).head? = some (if at_ = 0 then ji s m x else a) := by
    cases at_ with
    | zero => rfl
    | succ i => rfl
   have := jc (s := ⟨s.enums, (a :: l).set at_ (ji s m x) ++ [my m x]⟩) hh2
   rw [this]
   simp only [List.head?_cons, Option.map_some, Option.some.injEq]
   split
   ·rename_i h0
    have := A.eq
    rw [h0, e] at this
    simp at this
    rw [this]; rfl
   ·rfl
 ·have key : ∀ (i : Nat), (w.names ++ [x.dest])[i]? = some n → (w.names[i]? = some n) ∨ (i = w.names.length ∧ n = x.dest) := fun i h => by
   by_cases hl : i < w.names.length
   ·rw [List.getElem?_append_left hl] at h; exact .inl h
   ·rw [List.getElem?_append_right (by omega)] at h
    have : i - w.names.length = 0 := by
     have := (List.getElem?_eq_some_iff.1 h).1
     simp at this; omega
    rw [this] at h
    simp at h
    exact .inr ⟨by omega, h.symm⟩
  rcases key i hi with a | ⟨a, b⟩ <;> rcases key j hj with c | ⟨c, d⟩
  ·exact I.uniq i j n a c hn
  ·exact absurd d (hold i n a hn)
  ·exact absurd b (hold j n c hn)
  ·omega
 ·by_cases hl : i < w.names.length
  ·have hi' : w.names[i]? = some n := by
    have : (w.names ++ [x.dest])[i]? = some n := hi
    rwa [List.getElem?_append_left hl] at this
   obtain ⟨y, hy, e⟩ := I.back i n hi' hn
   obtain ⟨j, hj⟩ := List.mem_iff_getElem?.1 hy
   by_cases hja : j = at_
   ·subst hja
    rw [A.eq] at hj; cases hj
    exact ⟨_, hnew, e⟩
   ·exact ⟨y, (A.Dw h6).2 (.inr (.inl ⟨j, hja, hj⟩)), e⟩
  ·have h : (w.names ++ [x.dest])[i]? = some n := hi
   rw [List.getElem?_append_right (by omega)] at h
   have h0 : i - w.names.length = 0 := by
    have := (List.getElem?_eq_some_iff.1 h).1
    simp at this; omega
   rw [h0] at h
   simp at h
   exact ⟨my m x, (A.Dw h6).2 (.inr (.inr rfl)), h⟩
 ·rcases (A.Dw h6).1 hy with rfl | ⟨j, hj, e⟩ | rfl
  ·refine ⟨k, _, hext k _ k1, List.getElem?_set_self (by simp; omega), ig (p := p') (hpo.fit (p := p') (by show 0 ≤ p.aJ + 1; have := hF.rn; omega) hout)⟩
  ·obtain ⟨k', p2, r1, r2, r3⟩ := I.fwd y (List.mem_of_getElem? e)
   refine ⟨k', p2, hext k' _ r1, ?_, r3.names fun f _ j _ h1 => hext j _ h1⟩
   have hk' := (List.getElem?_eq_some_iff.1 r2).1
   rw [List.getElem?_set_ne, List.getElem?_append_left hk', r2]
   intro hkk
   subst hkk
   rw [k1] at r1
   exact hj (iS A.fD e A.eq (by injection r1 with r1; exact r1.symm))
  ·refine ⟨w.all.length, wp, hlast, ?_, ?_⟩
   ·rw [List.getElem?_set_ne (by omega)]; simp
   ·refine ig ⟨(show (0 : Int) ≤ 1 by decide), ?_, fun z hz => ?_, by simp, fun z hz => ?_⟩
    ·show [(aO p.outs x.field).f] = [m.aQ x.field]
     rw [q2]
    ·simp at hz; subst hz; exact ⟨Int.le_refl _, by show (0 : Int) < 1; decide⟩
    ·simp at hz; subst hz
     have := hF.part _ q1
     refine ⟨fun e => ?_, this.2⟩
     obtain ⟨j, h1, h2⟩ := this.1 e
     exact ⟨j, h1, hext j _ h2⟩
end
/- Plain laws: the parts are the messages behind a step that unwraps, too; behind all steps. No condition. -/
theorem rE : ∀ (l : List Nat) (i : Nat) (h : i < l.length), l[i] ≤ l.sum
 | a :: l, 0, _ => by simp
 | a :: l, i + 1, h => by
  have := rE l i (by simpa using h)
  simp; omega
theorem rD : ∀ (l : List Nat) (i j : Nat) (hi : i < l.length) (hj : j < l.length), i < j → l[i] + l[j] ≤ l.sum
 | a :: l, 0, j + 1, _, hj, _ => by
  have := rE l j (by simpa using hj)
  simp; omega
 | a :: l, i + 1, j + 1, hi, hj, h => by
  have := rD l i j (by simpa using hi) (by simpa using hj) (by omega)
  simp; omega
theorem zG {l : List ah} {p : ah → Bool} {f g : ah} (hf : f ∈ l) (hg : g ∈ l) (pf : p f = true) (pg : p g = true) (hne : f ≠ g) : 2 ≤ l.countP p := by
 rw [List.countP_eq_length_filter]
 have h1 : f ∈ l.filter p := List.mem_filter.2 ⟨hf, pf⟩
 have h2 : g ∈ l.filter p := List.mem_filter.2 ⟨hg, pg⟩
 cases e : l.filter p with
 | nil => rw [e] at h1; cases h1
 | cons a r =>
  cases r with
  | nil =>
   rw [e] at h1 h2
   simp at h1 h2
   exact absurd (h1.trans h2.symm) hne
  | cons b r => simp
theorem nz {s : aN} {ref : au} (h : s.xi ref = 1) {i : Nat} {m : aT} (hi : s.msgs[i]? = some m) {f : ah} (hf : f ∈ m.fields) (ht : f.ty = 15) (hr : f.ref = ref) {j : Nat} {y : aT} (hj : s.msgs[j]? = some y) {g : ah} (hg : g ∈ y.fields) (gt : g.ty = 15) (gr : g.ref = ref) : j = i ∧ g = f := by
 let p : ah → Bool := fun f => decide (f.ty = 15) && f.ref == ref
 have pf : p f = true := by simp [p, ht, hr]
 have pg : p g = true := by simp [p, gt, gr]
 have hpos : ∀ (m : aT) (f : ah), f ∈ m.fields → p f = true → 1 ≤ m.fields.countP p := fun m f hf hp => List.countP_pos_iff.2 ⟨f, hf, hp⟩
 have hs : (s.msgs.map fun m => m.fields.countP p).sum = 1 := h
 obtain ⟨hi1, rfl⟩ := List.getElem?_eq_some_iff.1 hi
 obtain ⟨hj1, rfl⟩ := List.getElem?_eq_some_iff.1 hj
 have c1 := hpos _ f hf pf
 have c2 := hpos _ g hg pg
 have hij : j = i := by
  apply Classical.byContradiction
  intro hne
  rcases Nat.lt_or_gt_of_ne hne with q | q
  ·have := rD (s.msgs.map fun m => m.fields.countP p) j i (by simpa using hj1) (by simpa using hi1) q
   simp only [List.getElem_map] at this
   omega
  ·have := rD (s.msgs.map fun m => m.fields.countP p) i j (by simpa using hi1) (by simpa using hj1) q
   simp only [List.getElem_map] at this
   omega
 refine ⟨hij, ?_⟩
 subst hij
 apply Classical.byContradiction
 intro hne
 have h2 := zG (p := p) hg hf pg pf hne
 have := rE (s.msgs.map fun m => m.fields.countP p) j (by simpa using hj1)
 simp only [List.getElem_map] at this
 omega
section
variable {s t : aN} {x : aS} {m : aT} {at_ : Nat}
theorem ku (h7 : x.kind = 7) {r : aT} {ref : au} {y : aT} (hl : at_ < s.msgs.length) : y ∈ x.msgs s at_ r ref ↔ y = r ∨ ∃ j, j ≠ at_ ∧ s.msgs[j]? = some y ∧ y.name ≠ ref := by
 unfold aS.msgs
 simp only [h7, show ¬ (7 : Int) = 6 by decide, if_false, List.append_nil, true_and]
 rw [List.mem_filterMap]
 constructor
 ·rintro ⟨⟨a, i⟩, h1, h2⟩
  have h1 := List.mem_zipIdx_iff_getElem?.1 h1
  simp only at h1 h2
  split at h2
  ·cases h2; exact .inl rfl
  ·rename_i hne
   split at h2
   ·cases h2
   ·rename_i hn
    cases h2
    exact .inr ⟨i, hne, h1, hn⟩
 ·rintro (rfl | ⟨j, h1, h2, h3⟩)
  ·exact ⟨(s.msgs[at_], at_), List.mem_zipIdx_iff_getElem?.2 (List.getElem?_eq_getElem hl), by simp⟩
  ·exact ⟨(y, j), List.mem_zipIdx_iff_getElem?.2 h2, by simp [h1, h3]⟩
theorem tc (h7 : x.kind = 7) {r : aT} {ref : au} {a : aT} {l : List aT} (e : s.msgs = a :: l) (hn : a.name ≠ ref) : (x.msgs s at_ r ref).head? = some (if at_ = 0 then r else a) := by
 unfold aS.msgs
 simp only [h7, show ¬ (7 : Int) = 6 by decide, if_false, List.append_nil, true_and, e, List.zipIdx_cons, List.filterMap_cons]
 by_cases h0 : at_ = 0
 ·subst h0; simp
 ·have : ¬ 0 = at_ := fun q => h0 q.symm
  simp [this, hn, h0]
structure JI (s : aN) (m : aT) (f : ah) (m2 : aT) (g : ah) (j2 : Nat) : Prop where
 ty : f.ty = 15
 at2 : s.msgs[j2]? = some m2
 pos : 1 ≤ j2
 nm : m2.name = f.ref
 ne : f.ref ≠ m.name
 use : s.xi f.ref = 1
 one : m2.fields = [g]
 find : s.iT f.ref = some m2
theorem cH.boxed (A : cH s x t m at_) (h7 : x.kind = 7) : ∃ m2 g j2, JI s m (m.aQ x.field) m2 g j2 := by
 have ha := A.ask
 simp only [aS.asked, h7, show ¬ (7 : Int) = 3 by decide, show ¬ (7 : Int) = 4 by decide, show ¬ (7 : Int) = 5 by decide, show ¬ (7 : Int) = 6 by decide, show ¬ (7 : Int) = 10 by decide, if_false, if_true] at ha
 simp only [aN.boxed, Bool.and_eq_true, decide_eq_true_eq, Bool.not_eq_true', beq_eq_false_iff_ne] at ha
 obtain ⟨⟨⟨⟨⟨h1, h2⟩, h3⟩, h4⟩, h5⟩, h6⟩ := ha
 rcases an (fun m' : aT => m'.name == (m.aQ x.field).ref) s.msgs 0 with ⟨q1, q2⟩ | ⟨i, hi, q1, q2, q3⟩
 ·have : s.bH (m.aQ x.field).ref = -1 := q1
  rw [this] at h3; omega
 ·have hix : s.bH (m.aQ x.field).ref = ((0 + i : Nat) : Int) := q1
  rw [hix] at h3
  have hat : s.iT (m.aQ x.field).ref = some s.msgs[i] := q2
  rw [hat] at h6
  simp only [Option.map_some] at h6
  cases e : s.msgs[i].fields with
  | nil => rw [e] at h6; cases h6
  | cons g r =>
   cases r with
   | nil => exact ⟨s.msgs[i], g, i, h1, List.getElem?_eq_getElem hi, by omega, by simpa using q3, h4, h5, e, hat⟩
   | cons b r => rw [e] at h6; cases h6
theorem Inv.FQ {w : gj} (I : Inv s w) (A : cH s x t m at_) (h7 : x.kind = 7) : Inv t (w.step x) := by
 have hm : m ∈ s.msgs := List.mem_of_getElem? A.eq
 obtain ⟨k, p, k1, k2, hF⟩ := I.fwd m hm
 have hne : m.name ≠ [] := gx (A.fD.nm m hm)
 have hk : k < w.all.length := (List.getElem?_eq_some_iff.1 k2).1
 have hix : eA w.names x.msg = k := iZ (by rw [← A.nm]; exact k1) fun j hj => I.uniq j k _ hj (by rw [← A.nm]; exact k1) (by rw [← A.nm]; exact hne)
 have hgd : w.all.getD k cc = p := by rw [List.getD_eq_getElem?_getD, k2]; rfl
 have hhas : m.eI x.field = true := by have := A.has; simpa [aS.bn, h7] using this
 have hh := ek hhas
 obtain ⟨q1, q2, q3⟩ := fB hF.outs ⟨_, hh.1, hh.2⟩
 have q2 : (aO p.outs x.field).f = m.aQ x.field := q2
 obtain ⟨m2, g, j2, B⟩ := A.boxed h7
 have hfr := A.fD.fr m hm
 have hm2 : m2 ∈ s.msgs := List.mem_of_getElem? B.at2
 have hn2 : m2.name ≠ [] := gx (A.fD.nm m2 hm2)
 obtain ⟨k', p2, r1, r2, F2⟩ := I.fwd m2 hm2
 obtain ⟨j, hj1, hj2⟩ := (hF.part _ q1).1 (by rw [q2]; exact B.ty)
 rw [q2] at hj2
 have hjk : k' = j := I.uniq k' j _ r1 (by rw [B.nm]; exact hj2) hn2
 subst hjk
 have hpart : (aO p.outs x.field).part.toNat = k' := by rw [hj1]; simp
 have hg2 : w.all.getD k' cc = p2 := by rw [List.getD_eq_getElem?_getD, r2]; rfl
 obtain ⟨G, hG, hGf⟩ : ∃ G, p2.outs = [G] ∧ G.f = g := by
  have := F2.outs
  rw [B.one] at this
  cases e : p2.outs with
  | nil => rw [e] at this; cases this
  | cons a r =>
   rw [e] at this
   simp at this
   exact ⟨a, by rw [this.2], this.1⟩
 let g' : Port := { G with reg := p.aJ }
 let p' : aj := { p with ops := p.ops ++ [{ j7 with kind := 5, a := (aO p.outs x.field).reg, b := p.aJ, part := (aO p.outs x.field).part }], aJ := p.aJ + 1, outs := bY (aV p.outs x.field) g' }
 have hst : w.step x = ⟨w.all.set k (cN p'), w.names.set k' []⟩ := by
  unfold gj.step
  simp only [hix, h7, if_true, if_false, bX, hgd, hpart, hg2, hG, show ¬ (7 : Int) = 6 by decide]
  congr 1
  rw [List.getD_eq_getElem?_getD, List.getElem?_set_self hk]
  simp only [Option.getD_some, List.set_set]
  rfl
 have hout := A.out
 have hmem : ∀ y, y ∈ t.msgs ↔ y = (ji s m x).sort ∨ ∃ j, j ≠ at_ ∧ s.msgs[j]? = some y ∧ y.name ≠ (m.aQ x.field).ref := by
  intro y
  have hp : t.msgs.Perm ((x.msgs s at_ (ji s m x) (m.aQ x.field).ref).map aT.sort) := by rw [hout]; exact jb _
  rw [hp.mem_iff, List.mem_map]
  constructor
  ·rintro ⟨z, hz, rfl⟩
   rcases (ku h7 A.lt).1 hz with rfl | ⟨i, a1, a2, a3⟩
   ·exact .inl rfl
   ·have hz2 := List.mem_of_getElem? a2
    refine .inr ⟨i, a1, ?_, a3⟩
    rw [aT.jB (A.fD.fr z hz2) (A.fD.br z hz2)]; exact a2
  ·rintro (rfl | ⟨i, a1, a2, a3⟩)
   ·exact ⟨_, (ku h7 A.lt).2 (.inl rfl), rfl⟩
   ·have hz2 := List.mem_of_getElem? a2
    exact ⟨y, (ku h7 A.lt).2 (.inr ⟨i, a1, a2, a3⟩), aT.jB (A.fD.fr y hz2) (A.fD.br y hz2)⟩
 have hnew : (ji s m x).sort ∈ t.msgs := (hmem _).2 (.inl rfl)
 have hrise : dG (·.num) (bI HG (x.dr s m)) := A.Dk.fr _ hnew
 have hset : ∀ (i : Nat) n, w.names[i]? = some n → i ≠ k' → (w.names.set k' [])[i]? = some n := fun i n h hi => by rw [List.getElem?_set_ne (fun q => hi q.symm)]; exact h
 have hun : ∀ (i : Nat) n, (w.names.set k' [])[i]? = some n → n ≠ [] → i ≠ k' ∧ w.names[i]? = some n := fun i n h hn => by
  rw [List.getElem?_set] at h
  split at h
  ·split at h
   ·cases h; exact absurd rfl hn
   ·cases h
  ·rename_i e; exact ⟨fun q => e q.symm, h⟩
 have hkk : k ≠ k' := fun e => by
  rw [e, hj2] at k1
  injection k1 with k1
  exact B.ne k1
 have ef : x.dr s m = (m.fields.filter fun f => !(f.name == x.field)) ++ [g] := by
  simp only [aS.dr, aS.goes, aS.comes, h7]
  simp only [show ¬ (7 : Int) = 2 by decide, show ¬ (7 : Int) = 4 by decide, show ¬ (7 : Int) = 5 by decide, show ¬ (7 : Int) = 6 by decide, if_false, if_true, true_or, or_true, eW, B.find, Option.getD_some, B.one, List.headD_cons]
  rw [c9 (by omega) (by omega) (by omega)]
 have hp : (x.dr s m).Perm (g :: m.fields.filter fun f => !(f.name == x.field)) := by rw [ef]; exact List.perm_append_comm
 have hpo : bu (w.names.set k' []) (p.aJ + 1) (bY (aV p.outs x.field) g') := by
  have hw := (hF.bc.eX x.field).names (names' := w.names.set k' []) fun y hy i e h1 => hset i _ h1 fun hi => by
   subst hi
   rw [hj2] at h1
   injection h1 with h1
   obtain ⟨hy1, hy2⟩ := List.mem_filter.1 hy
   have := (nz B.use A.eq hh.1 B.ty rfl A.eq (g := y.f) (by rw [← hF.outs]; exact List.mem_map_of_mem hy1) e h1.symm).2
   rw [this, hh.2] at hy2
   simp at hy2
  refine (hw.mono (by omega)).with ⟨hF.rn, by show p.aJ < p.aJ + 1; omega⟩ ((hF.bc.eX x.field).new (Int.le_refl _)) ?_
  have hGp := F2.part G (by rw [hG]; simp)
  refine ⟨fun e => ?_, hGp.2⟩
  obtain ⟨i, a1, a2⟩ := hGp.1 e
  refine ⟨i, a1, hset i _ a2 fun hi => ?_⟩
  subst hi
  rw [hj2] at a2
  injection a2 with a2
  have := (nz B.use A.eq hh.1 B.ty rfl B.at2 (g := G.f) (by rw [B.one, hGf]; simp) e a2.symm).1
  have h3 := B.at2
  rw [this, A.eq] at h3
  cases h3
  exact B.ne B.nm.symm
 have houts : (bY (aV p.outs x.field) g').map (·.f) = bI HG (x.dr s m) := by
  rw [dn, cX, hF.outs]
  have : g'.f = g := hGf
  rw [this]
  exact (fV (hfr.filter _) hp hrise).symm
 rw [hst]
 refine ⟨by simp [I.len], A.Dk, ?_, fun i i2 n hi hj hn => ?_, fun i n hi hn => ?_, fun y hy => ?_⟩
 ·show (w.names.set k' []).head? = _
  cases e : s.msgs with
  | nil => have := A.lt; rw [e] at this; simp at this
  | cons a l =>
   have hr := I.root
   rw [e] at hr
   simp only [List.head?_cons, Option.map_some] at hr
   have ha0 : s.msgs[0]? = some a := by rw [e]; rfl
   have hna : a.name ≠ (m.aQ x.field).ref := fun q => by
    have := iS A.fD ha0 B.at2 (q.trans B.nm.symm)
    have := B.pos
    omega
   have hk0 : k' ≠ 0 := fun q => by
    rw [q, ← List.head?_eq_getElem?, hr] at hj2
    injection hj2 with hj2
    exact hna hj2
   have h1 : (w.names.set k' []).head? = some a.name := by
    rw [← hr]
    cases w.names with
    | nil => rfl
    | cons b r =>
     obtain ⟨i, rfl⟩ : ∃ i, k' = i + 1 := ⟨k' - 1, by omega⟩
     rfl
   rw [h1, hout, jc (tc h7 e hna)]
   simp only [Option.map_some, Option.some.injEq]
   split
   ·rename_i h0
    have := A.eq
    rw [h0, e] at this
    simp at this
    rw [this]; rfl
   ·rfl
 ·exact I.uniq i i2 n (hun i n hi hn).2 (hun i2 n hj hn).2 hn
 ·obtain ⟨a1, a2⟩ := hun i n hi hn
  obtain ⟨y, hy, e⟩ := I.back i n a2 hn
  obtain ⟨i2, hi2⟩ := List.mem_iff_getElem?.1 hy
  by_cases hja : i2 = at_
  ·subst hja
   rw [A.eq] at hi2; cases hi2
   exact ⟨_, hnew, e⟩
  ·refine ⟨y, (hmem y).2 (.inr ⟨i2, hja, hi2, fun q => ?_⟩), e⟩
   rw [← e, q] at a2
   exact a1 (I.uniq i k' _ a2 hj2 (by rw [← q, e]; exact hn))
 ·rcases (hmem y).1 hy with rfl | ⟨i2, b1, b2, b3⟩
  ·exact ⟨k, _, hset k _ k1 hkk, List.getElem?_set_self hk, ig (p := p') (hpo.fit (p := p') (by show 0 ≤ p.aJ + 1; have := hF.rn; omega) houts)⟩
  ·obtain ⟨k3, p3, c1, c2, c3⟩ := I.fwd y (List.mem_of_getElem? b2)
   refine ⟨k3, p3, hset k3 _ c1 fun q => ?_, ?_, c3.names fun f hf i e h1 => hset i _ h1 fun q => ?_⟩
   ·rw [q, hj2] at c1
    injection c1 with c1
    exact b3 c1.symm
   ·rw [List.getElem?_set_ne, c2]
    intro q
    subst q
    rw [k1] at c1
    injection c1 with c1
    exact b1 (iS A.fD b2 A.eq c1.symm)
   ·rw [q, hj2] at h1
    injection h1 with h1
    exact b1 (nz B.use A.eq hh.1 B.ty rfl b2 hf e h1.symm).1
end
/- Plain laws: behind all steps of a migration the parts are the messages of its last schema; ahead of them, of its first one. No condition. -/
theorem uh {x : aS} (h : x.right = true) : 1 ≤ x.kind ∧ x.kind ≤ 10 := by
 simp only [aS.right, Bool.and_eq_true, decide_eq_true_eq] at h
 obtain ⟨⟨⟨⟨⟨⟨⟨⟨⟨⟨q1, q2⟩, _⟩, _⟩, _⟩, _⟩, _⟩, _⟩, _⟩, _⟩, _⟩ := h
 exact ⟨q1, q2⟩
theorem Inv.step {s t : aN} {x : aS} {w : gj} (I : Inv s w) (h : s.apply x = .ok t) : Inv t (w.step x) := by
 obtain ⟨m, at_, A⟩ := jV h
 by_cases h6 : x.kind = 6
 ·exact I.wrap A h6
 ·by_cases h7 : x.kind = 7
  ·exact I.FQ A h7
  ·exact I.plain A h6 h7
def jN (s : aN) : gj := ⟨bk s, s.msgs.map (·.name)⟩
theorem qa (s : aN) : ∀ (l : List ah) (n : Nat), ((l.zipIdx n).map fun (f, k) => jF s f k).map (·.f) = l
 | [], n => rfl
 | f :: l, n => by
  simp only [List.zipIdx_cons, List.map_cons]
  congr 1
  exact qa s l (n + 1)
theorem oX (s : aN) : ∀ (l : List ah) (n : Nat), ((l.zipIdx n).map fun (f, k) => jF s f k).map (·.reg) = (List.range' n l.length).map fun (k : Nat) => (k : Int)
 | [], n => rfl
 | f :: l, n => by
  simp only [List.zipIdx_cons, List.map_cons, List.length_cons, List.range'_succ]
  congr 1
  exact oX s l (n + 1)
theorem mU {s : aN} {m : aT} {y : Port} (h : y ∈ bb s m) : ∃ (k : Nat), k < m.fields.length ∧ y.reg = (k : Int) ∧ y.f ∈ m.fields ∧ y.part = (if y.f.ty = 15 then s.bH y.f.ref else -1) := by
 unfold bb at h
 obtain ⟨⟨f, k⟩, h1, rfl⟩ := List.mem_map.1 h
 have h2 := List.mem_zipIdx_iff_getElem?.1 h1
 simp only at h2
 exact ⟨k, (List.getElem?_eq_some_iff.1 h2).1, rfl, List.mem_of_getElem? h2, rfl⟩
theorem Inv.begin {s : aN} (hs : s.tL) : Inv s (jN s) := by
 have hget : ∀ (i : Nat) n, (s.msgs.map (·.name))[i]? = some n → ∃ m, s.msgs[i]? = some m ∧ m.name = n := fun i n h => by
  rw [List.getElem?_map] at h
  cases e : s.msgs[i]? with
  | none => rw [e] at h; cases h
  | some m => rw [e] at h; simp at h; exact ⟨m, rfl, h⟩
 refine ⟨by simp [jN, bk], hs, by simp [jN], fun i j n hi hj hn => ?_, fun i n hi hn => ?_, fun m hm => ?_⟩
 ·obtain ⟨a, ha, ea⟩ := hget i n hi
  obtain ⟨b, hb, eb⟩ := hget j n hj
  exact iS hs ha hb (ea.trans eb.symm)
 ·obtain ⟨a, ha, ea⟩ := hget i n hi
  exact ⟨a, List.mem_of_getElem? ha, ea⟩
 ·obtain ⟨k, hk⟩ := List.mem_iff_getElem?.1 hm
  refine ⟨k, cN { cc with name := m.name, ins := bb s m, outs := bb s m, aJ := m.fields.length }, by simp [jN, hk], by simp [jN, bk, hk], ig ⟨by show (0 : Int) ≤ (m.fields.length : Int); omega, qa s m.fields 0, fun y hy => ?_, ?_, fun y hy => ?_⟩⟩
  ·obtain ⟨k, h1, h2, _⟩ := mU hy
   refine ⟨by omega, ?_⟩
   show y.reg < (m.fields.length : Int)
   omega
  ·show ((bb s m).map (·.reg)).Nodup
   unfold bb
   rw [oX]
   exact List.Pairwise.map _ (fun a b hab => by omega) List.nodup_range'
  ·obtain ⟨k, h1, h2, h3, h4⟩ := mU hy
   refine ⟨fun e => ?_, fun e => by rw [h4, if_neg e]⟩
   rw [if_pos e] at h4
   have hr := (hs.refs m hm y.f h3).2 e
   obtain ⟨i, hi, e1, e2⟩ := kQ (fun m : aT => m.name == y.f.ref) s.msgs (by show ¬ s.bH y.f.ref < 0; omega)
   refine ⟨i, by rw [h4]; exact e1, ?_⟩
   show (s.msgs.map (·.name))[i]? = _
   rw [List.getElem?_map, List.getElem?_eq_getElem hi]
   simp only [Option.map_some, Option.some.injEq]
   simpa using e2
/-! ### ahead of the steps -/
structure mO (s : aN) (w : gj) : Prop where
 ins : ∀ (k : Nat) m, s.msgs[k]? = some m → ∃ p, w.all[k]? = some p ∧ p.ins = bb s m ∧ (m.fields.length : Int) ≤ p.aJ
/- Plain laws: what the steps of a migration want of the parts; how large these are. No condition. -/
structure aj.bd (n : Nat) (p : aj) : Prop where
 ops : p.ops.length ≤ n
 outs : p.outs.length ≤ 10 + 2 * n
 rn : 0 ≤ p.aJ
 aJ : p.aJ ≤ 10 + 2 * (n : Int)
 ever : p.ever.length ≤ 100 * (n + 1)
structure aj.bs (n : Nat) (p : aj) : Prop where
 ops : p.ops.length ≤ n + 1
 outs : p.outs.length ≤ 10 + 2 * (n + 1)
 rn : 0 ≤ p.aJ
 aJ : p.aJ ≤ 10 + 2 * ((n : Int) + 1)
 ever : p.ever.length ≤ 100 * (n + 1)
theorem aj.bd.bs {n : Nat} {p : aj} (h : p.bd n) : p.bs n := ⟨by have := h.ops; omega, by have := h.outs; omega, h.rn, by have := h.aJ; omega, h.ever⟩
theorem aj.bs.bd {n : Nat} {p : aj} (h : p.bs n) (hn : n ≤ 16) : (cN p).bd (n + 1) := by
 have e : (cN p).ever = tj p p.outs.length := by unfold tj; rw [List.take_of_length_le (Nat.le_refl _)]; rfl
 refine ⟨h.ops, h.outs, h.rn, by have := h.aJ; show p.aJ ≤ _; omega, ?_⟩
 rw [e]
 have h1 := np p p.outs.length
 have h2 := h.ever
 have h3 := h.outs
 omega
theorem aj.bs.up {n : Nat} {p : aj} (h : p.bs n) (hn : n ≤ 16) : p.bd (n + 1) := ⟨h.ops, h.outs, h.rn, by have := h.aJ; omega, by have := h.ever; omega⟩
theorem Gp {n : Nat} {p : aj} {x : aS} (h : p.bd n) (hk : 1 ≤ x.kind ∧ x.kind ≤ 10) (h6 : x.kind ≠ 6) (h7 : x.kind ≠ 7) : (aP p x).bs n := by
 have h1 := h.ops
 have h2 := h.outs
 have h3 := h.rn
 have h4 := h.aJ
 have h5 := h.ever
 have w1 := bL p.outs x.field
 have w2 := bL (aV p.outs x.field) x.also
 rcases show x.kind = 1 ∨ x.kind = 2 ∨ x.kind = 3 ∨ x.kind = 4 ∨ x.kind = 5 ∨ x.kind = 8 ∨ x.kind = 9 ∨ x.kind = 10 by omega with e | e | e | e | e | e | e | e
 ·rw [oi e]; exact ⟨by show p.ops.length ≤ _; omega, by show (bY _ _).length ≤ _; rw [dT]; omega, h3, by show p.aJ ≤ _; omega, h5⟩
 ·rw [oh e]; exact ⟨by show p.ops.length ≤ _; omega, by show (bY _ _).length ≤ _; rw [dT]; omega, h3, by show p.aJ ≤ _; omega, h5⟩
 ·rw [og e]; exact ⟨by show (p.ops ++ [_]).length ≤ _; simp; omega, by show (bY _ _).length ≤ _; rw [dT]; omega, h3, by show p.aJ ≤ _; omega, h5⟩
 ·rw [oe e]; exact ⟨by show (p.ops ++ [_]).length ≤ _; simp; omega, by show (bY (bY _ _) _).length ≤ _; rw [dT, dT]; omega, by show 0 ≤ p.aJ + 2; omega, by show p.aJ + 2 ≤ _; omega, h5⟩
 ·rw [od e]; exact ⟨by show (p.ops ++ [_]).length ≤ _; simp; omega, by show (bY _ _).length ≤ _; rw [dT]; omega, by show 0 ≤ p.aJ + 1; omega, by show p.aJ + 1 ≤ _; omega, h5⟩
 ·rw [Ai e]; exact ⟨by show (p.ops ++ [_]).length ≤ _; simp; omega, by show (cf p x _).length ≤ _; rw [fC]; omega, h3, by show p.aJ ≤ _; omega, h5⟩
 ·rw [Ah e]; exact ⟨by show (p.ops ++ [_]).length ≤ _; simp; omega, by show (bY _ _).length ≤ _; rw [dT]; omega, by show 0 ≤ p.aJ + 1; omega, by show p.aJ + 1 ≤ _; omega, h5⟩
 ·rw [vA e]; exact ⟨by show p.ops.length ≤ _; omega, by show (aV _ _).length ≤ _; omega, h3, by show p.aJ ≤ _; omega, h5⟩
theorem lv {α : Type} {l : List α} {i : Nat} {a y : α} (h : y ∈ l.set i a) : y = a ∨ y ∈ l := by
 rcases List.mem_or_eq_of_mem_set h with h | h
 ·exact .inr h
 ·exact .inl h
theorem vq {n : Nat} {all : List aj} {i : Nat} {p : aj} {x : aS} (hb : ∀ q ∈ all, q.bd n) (hp : all[i]? = some p) (hk : 1 ≤ x.kind ∧ x.kind ≤ 10) : (∀ q ∈ bX all i x, q.bs n) ∧ (bX all i x).length ≤ all.length + 1 ∧ all.length ≤ (bX all i x).length := by
 have h := hb p (List.mem_of_getElem? hp)
 have h1 := h.ops
 have h2 := h.outs
 have h3 := h.rn
 have h4 := h.aJ
 have h5 := h.ever
 have w1 := bL p.outs x.field
 by_cases e6 : x.kind = 6
 ·rw [CG hp e6]
  refine ⟨fun q hq => ?_, by simp, by simp⟩
  rcases lv hq with rfl | hq
  ·exact ⟨by show (p.ops ++ [_]).length ≤ _; simp; omega, by show (bY _ _).length ≤ _; rw [dT]; omega, by show 0 ≤ p.aJ + 1; omega, by show p.aJ + 1 ≤ _; omega, h5⟩
  ·rcases List.mem_append.1 hq with hq | hq
   ·exact (hb q hq).bs
   ·have hq := List.mem_singleton.1 hq
    subst hq
    refine ⟨by show 0 ≤ _; omega, by show 1 ≤ _; omega, by show (0 : Int) ≤ 1; decide, by show (1 : Int) ≤ _; omega, ?_⟩
    have := np { cc with name := x.dest, born := true, aJ := 1, ins := [{ (aO p.outs x.field) with reg := 0 }], outs := [{ (aO p.outs x.field) with reg := 0 }] } 1
    have h9 : (tj { cc with name := x.dest, born := true, aJ := 1, ins := [{ (aO p.outs x.field) with reg := 0 }], outs := [{ (aO p.outs x.field) with reg := 0 }] } 1).length ≤ 0 + 1 := this
    show (tj { cc with name := x.dest, born := true, aJ := 1, ins := [{ (aO p.outs x.field) with reg := 0 }], outs := [{ (aO p.outs x.field) with reg := 0 }] } 1).length ≤ _
    omega
 ·by_cases e7 : x.kind = 7
  ·rw [CF hp e7]
   refine ⟨fun q hq => ?_, by simp, by simp⟩
   rcases lv hq with rfl | hq
   ·exact ⟨by show (p.ops ++ [_]).length ≤ _; simp; omega, by show (bY _ _).length ≤ _; rw [dT]; omega, by show 0 ≤ p.aJ + 1; omega, by show p.aJ + 1 ≤ _; omega, h5⟩
   ·exact (hb q hq).bs
  ·rw [CD hp e6 e7]
   refine ⟨fun q hq => ?_, by simp, by simp⟩
   rcases lv hq with rfl | hq
   ·exact Gp h hk e6 e7
   ·exact (hb q hq).bs
theorem mV {l : List Port} {n : au} (h : ∃ y ∈ l, y.f.name = n) : 0 ≤ bg l n := by
 obtain ⟨y, hy, hn⟩ := h
 rcases an (fun x : Port => x.f.name == n) l 0 with ⟨q1, q2⟩ | ⟨i, hi, q1, q2, q3⟩
 ·have := List.find?_eq_none.1 q2 y hy
  simp [hn] at this
 ·have e : bg l n = ((0 + i : Nat) : Int) := q1
  omega
structure qu (w : gj) (x : aS) (k : Nat) (p : aj) : Prop where
 nm : w.names[k]? = some x.msg
 un : ∀ j, w.names[j]? = some x.msg → j = k
 ix : eA w.names x.msg = k
 pt : w.all[k]? = some p
 kd : 1 ≤ x.kind ∧ x.kind ≤ 10
 h5 : x.kind = 5 → 0 ≤ bg (aV p.outs x.field) x.also
 h7 : x.kind = 7 → 0 ≤ bg p.outs x.field ∧ 0 ≤ (aO p.outs x.field).part ∧ (aO p.outs x.field).part < (w.all.length : Int) ∧ (w.all.getD (aO p.outs x.field).part.toNat cc).outs ≠ []
 h8 : x.kind = 8 → (p.outs.map fun y => y.f.name).Nodup ∧ ∀ n ∈ x.names, 0 ≤ bg p.outs n
theorem zY {s t : aN} {w : gj} {x : aS} {m : aT} {at_ : Nat} (I : Inv s w) (A : cH s x t m at_) : ∃ k p, qu w x k p := by
 have hm : m ∈ s.msgs := List.mem_of_getElem? A.eq
 obtain ⟨k, p, k1, k2, k3⟩ := I.fwd m hm
 have hne : m.name ≠ [] := gx (A.fD.nm m hm)
 have hu : ∀ j, w.names[j]? = some x.msg → j = k := fun j hj => I.uniq j k _ hj (by rw [← A.nm]; exact k1) (by rw [← A.nm]; exact hne)
 have k1' : w.names[k]? = some x.msg := by rw [← A.nm]; exact k1
 have hex : ∀ n, m.eI n = true → ∃ y ∈ p.outs, y.f.name = n := fun n hn => by
  obtain ⟨q1, q2⟩ := ek hn
  obtain ⟨r1, _, r3⟩ := fB k3.outs ⟨_, q1, q2⟩
  exact ⟨_, r1, r3⟩
 refine ⟨k, p, k1', hu, iZ k1' hu, k2, uh A.rt, fun h => ?_, fun h => ?_, fun h => ⟨?_, fun n hn => ?_⟩⟩
 ·have hneed := A.has
  have hask := A.ask
  unfold aS.bn at hneed
  rw [h] at hneed
  unfold aS.asked at hask
  rw [h] at hask
  have h1 : m.eI x.also = true := by simp at hneed; exact hneed.2
  have h2 : x.field ≠ x.also := by simp at hask; exact hask.1.1.1.1
  obtain ⟨y, hy, hn⟩ := hex _ h1
  exact mV ⟨y, List.mem_filter.2 ⟨hy, by simp [hn]; exact fun e => h2 e.symm⟩, hn⟩
 ·have hneed := A.has
  unfold aS.bn at hneed
  rw [h] at hneed
  have h1 : m.eI x.field = true := by simp at hneed; exact hneed
  obtain ⟨q1, q2⟩ := ek h1
  obtain ⟨r1, r2, r3⟩ := fB k3.outs ⟨_, q1, q2⟩
  obtain ⟨m2, g, j2, B⟩ := A.boxed h
  have hty : (aO p.outs x.field).f.ty = 15 := by rw [r2]; exact B.ty
  obtain ⟨j, e1, e2⟩ := (k3.part _ r1).1 hty
  have hm2 : m2 ∈ s.msgs := List.mem_of_getElem? B.at2
  obtain ⟨k', p', l1, l2, l3⟩ := I.fwd m2 hm2
  have href : (aO p.outs x.field).f.ref = m2.name := by rw [r2]; exact B.nm.symm
  have hjk : j = k' := I.uniq j k' m2.name (by rw [← href]; exact e2) l1 (gx (A.fD.nm m2 hm2))
  subst hjk
  have hjl : j < w.all.length := (List.getElem?_eq_some_iff.1 l2).1
  refine ⟨mV ⟨_, r1, r3⟩, by omega, by omega, ?_⟩
  rw [e1, Int.toNat_natCast, List.getD_eq_getElem?_getD, l2]
  intro h0
  have h0' : p'.outs = [] := h0
  have := l3.outs
  rw [h0', B.one] at this
  cases this
 ·have : (p.outs.map fun y => y.f.name) = m.fields.map (·.name) := by rw [← k3.outs, List.map_map]; rfl
  rw [this]; exact A.fD.fn m hm
 ·have hneed := A.has
  unfold aS.bn at hneed
  rw [if_pos h] at hneed
  exact mV (hex n (List.all_eq_true.1 hneed n hn))
/- The program logic: parts that lie in objects become a value. No condition. -/
theorem Kept.bind {s : St} {Q R : St → Prop} (h : Kept s Q) (k : ∀ s', Q s' → Kept s' R) : Kept s R := fun E N a w hf => let ⟨s', h1, h2⟩ := h E N a w hf; k s' h2 E N a w h1
theorem Kept.Gt {s : St} {Q : St → Prop} (A j : Nat) {H : Hp} {cs : List Hc} (hH : get s .h = some (.hp H)) (hA : H.obj A = some cs) (hj : cs[j]? = some (.v .nsl)) (h : Kept ((.h, .hp (H.set A (cs.set j (.v (.sl []))))) :: s) Q) : Kept s Q := fun E N a w ⟨G, L, hr⟩ => by
 obtain ⟨H0, gH, hok, hmay⟩ := hr.heap
 rw [hH] at gH; cases gH
 obtain ⟨blkA, arr, el, a1, a2, a3, a4, a5⟩ := hok.obj A cs hA
 have hv : V G (arr.getD j undef) .nsl := (a4 j _ hj).2
 have hlt : j < cs.length := (List.getElem?_eq_some_iff.1 hj).1
 refine h E N a w ⟨G, L, hr.lN (w' := w) (arr' := arr) hH hA a1 a2 rfl rfl rfl rfl (fun _ _ => rfl) a2 ⟨rfl, by simpa using a3.1⟩ (fun i x e => ?_) (fun i el esz zs e => ?_)⟩
 ·by_cases hi : i = j
  ·subst hi
   rw [List.getElem?_set_self hlt] at e; cases e
   refine ⟨rfl, ?_⟩
   generalize arr.getD i undef = u at hv
   cases hv
   exact V.slE none 0
  ·rw [List.getElem?_set_ne (by omega)] at e
   exact a4 i x e
 ·by_cases hi : i = j
  ·subst hi
   rw [List.getElem?_set_self hlt] at e; cases e
  ·rw [List.getElem?_set_ne (by omega)] at e
   exact ⟨e, rfl⟩
def oz (all : List aj) (os : List AV) (n : Nat) : List AV := (all.take n).map aj.av ++ (dz all os).drop n
theorem Av (all : List aj) (os : List AV) (n : Nat) : ∀ e ∈ oz all os n, e.cells.length = 7 := fun e he => by
 rcases List.mem_append.1 he with h | h
 ·obtain ⟨p, _, rfl⟩ := List.mem_map.1 h; rfl
 ·exact eu all os e (List.mem_of_mem_drop h)
theorem tU {all : List aj} {os : List AV} {n : Nat} {p : aj} {o : AV} (hp : all[n]? = some p) (ho : os[n]? = some o) : (oz all os n)[n]? = some (dg p o) := by
 have hn := (List.getElem?_eq_some_iff.1 hp).1
 have h1 : ((all.take n).map aj.av).length = n := by simp; omega
 unfold oz
 rw [List.getElem?_append_right (by omega), h1, Nat.sub_self, List.getElem?_drop, Nat.add_zero]
 exact gF hp ho
theorem Au {all : List aj} {os : List AV} {n : Nat} {p : aj} (hl : os.length = all.length) (hp : all[n]? = some p) : (oz all os n).set n p.av = oz all os (n + 1) := by
 have hn := (List.getElem?_eq_some_iff.1 hp).1
 have h1 : ((all.take n).map aj.av).length = n := by simp; omega
 have hz : n < (dz all os).length := by rw [cy hl]; exact hn
 unfold oz
 rw [List.set_append_right _ _ (by omega), h1, Nat.sub_self, List.drop_eq_getElem_cons hz, List.set_cons_zero, List.take_add_one, hp]
 simp
structure LF (H0 K : Hp) (A : Nat) (os : List AV) (all : List aj) (n : Nat) : Prop where
 nx : H0.next ≤ K.next
 old : ∀ i, i < H0.next → K.obj i = H0.obj i
 lo : H0.next ≤ A
 len : os.length = all.length
 row : K.obj A = some (az (oz all os n))
 ops : ∀ (i : Nat) o p, n ≤ i → os[i]? = some o → all[i]? = some p → eh K o 13 (p.ops.map ep.av)
 ids : ∀ (i : Nat) id n e, os[i]? = some (.os id n e) → H0.next ≤ id ∧ id ≠ A
 dist : ∀ (i j : Nat) id n e n' e', os[i]? = some (.os id n e) → os[j]? = some (.os id n' e') → i = j
theorem LH.lf {H0 K : Hp} {A : Nat} {os : List AV} {all : List aj} (I : LH H0 K A os all) : LF H0 K A os all 0 := ⟨I.nx, I.old, I.lo, I.len, I.row, fun i o p _ h1 h2 => I.ops i o p h1 h2, I.ids, I.dist⟩
theorem Jr {s : St} {H0 K : Hp} {A : Nat} {os : List AV} {all : List aj} {n : Nat} (hH : get s .h = some (.hp K)) (I : LF H0 K A os all n) (hn : n < all.length) :
  Kept s fun s' => (∀ c, c ≠ .h → get s' c = get s c) ∧ ∃ K', get s' .h = some (.hp K') ∧ LF H0 K' A os all (n + 1) := by
 have hl := I.len
 obtain ⟨p, hp⟩ : ∃ p, all[n]? = some p := ⟨_, List.getElem?_eq_getElem hn⟩
 obtain ⟨o, ho⟩ : ∃ o, os[n]? = some o := ⟨_, List.getElem?_eq_getElem (by omega)⟩
 have hc : (az (oz all os n))[n * 7 + 2]? = some (.v o) := by
  rw [jd (Av all os n) (tU hp ho) (by decide)]; rfl
 have hset : (az (oz all os n)).set (n * 7 + 2) (.v (.sl (p.ops.map ep.av))) = az (oz all os (n + 1)) := by
  rw [wJ (Av all os n) (tU hp ho) (by decide)]
  exact congrArg az (Au hl hp)
 rcases I.ops n o p (Nat.le_refl _) ho hp with ⟨e1, e2⟩ | ⟨id, e1, e2⟩
 ·subst e1
  rw [e2] at hset
  refine Kept.Gt A (n * 7 + 2) hH I.row hc (Kept.now ⟨fun c hc => by simp [get, Ne.symm hc], _, rfl, ?_⟩)
  refine ⟨I.nx, fun i hi => ?_, I.lo, hl, by rw [hset]; exact Hp.bq, fun i o2 p2 h1 h2 h3 => ?_, I.ids, I.dist⟩
  ·show (if i = A then _ else K.obj i) = _
   rw [if_neg (by have := I.lo; omega)]; exact I.old i hi
  ·refine ib (I.ops i o2 p2 (by omega) h2 h3) fun id n e h => ?_
   show (if id = A then _ else K.obj id) = _
   rw [if_neg (by rw [h] at h2; exact (I.ids i id n e h2).2)]
 ·subst e1
  have hne : A ≠ id := fun e => (I.ids n id _ _ ho).2 e.symm
  refine Kept.It A (n * 7 + 2) (ys := p.ops.map ep.av) hH I.row hc e2 hne (lb _) (by rw [List.take_of_length_le]; rw [ca (lb _)]; exact Nat.le_refl _) (Nat.le_refl _) (Kept.now ⟨fun c hc => by simp [get, Ne.symm hc], _, rfl, ?_⟩)
  rw [List.take_of_length_le (Nat.le_refl _), hset]
  refine ⟨I.nx, fun i hi => ?_, I.lo, hl, Hp.bq, fun i o2 p2 h1 h2 h3 => ?_, I.ids, I.dist⟩
  ·show (if i = A then _ else if i = id then none else K.obj i) = _
   have := (I.ids n id _ _ ho).1
   rw [if_neg (by have := I.lo; omega), if_neg (by omega)]; exact I.old i hi
  ·refine ib (I.ops i o2 p2 (by omega) h2 h3) fun id2 n2 e h => ?_
   rw [h] at h2
   show (if id2 = A then _ else if id2 = id then none else K.obj id2) = _
   rw [if_neg (I.ids i id2 n2 e h2).2, if_neg (fun e3 => by
    subst e3
    have := I.dist i n id2 _ _ _ _ h2 ho
    omega)]
theorem Ix {H0 : Hp} {A : Nat} {os : List AV} {all : List aj} : ∀ (k n : Nat) {s : St} {K : Hp} (_ : get s .h = some (.hp K)) (_ : LF H0 K A os all n) (_ : n + k = all.length),
  Kept s fun s' => (∀ c, c ≠ .h → get s' c = get s c) ∧ ∃ K', get s' .h = some (.hp K') ∧ LF H0 K' A os all all.length
 | 0, n, s, K, hH, I, hk => by
  have : n = all.length := by omega
  subst this
  exact Kept.now ⟨fun _ _ => rfl, K, hH, I⟩
 | k + 1, n, s, K, hH, I, hk => (Jr hH I (by omega)).bind fun s' ⟨h1, K', h2, I'⟩ => (Ix k (n + 1) h2 I' (by omega)).bind fun s2 ⟨h3, K2, h4, I2⟩ => Kept.now ⟨fun c hc => (h3 c hc).trans (h1 c hc), K2, h4, I2⟩
theorem Kept.BQ {s : St} {Q : St → Prop} (b : Nat) {H0 K : Hp} {A : Nat} {os : List AV} {all : List aj} (I : LH H0 K A os all) (hH : get s .h = some (.hp K)) (hk : get s (.b b) = some (.bx [.v (.os A all.length 7)]))
  (h : ∀ s' K', (∀ c, c ≠ .h → c ≠ .b b → get s' c = get s c) → get s' (.b b) = some (.bx [.v (.sl (all.map aj.av))]) → get s' .h = some (.hp K') → H0.next ≤ K'.next → (∀ i, i < H0.next → K'.obj i = H0.obj i) → Q s') : Kept s Q := by
 refine (Ix all.length 0 hH I.lf (by omega)).bind fun s' ⟨h1, K', h2, I'⟩ => ?_
 have cB : K'.obj A = some (az (all.map aj.av)) := by
  have := I'.row
  rw [this]
  unfold oz
  rw [List.take_of_length_le (Nat.le_refl _), List.drop_eq_nil_of_le (by rw [cy I.len]; exact Nat.le_refl _), List.append_nil]
 refine Kept.HJ b A (ys := all.map aj.av) (cs := [.v (.os A all.length 7)]) (ds := [.v (.sl (all.map aj.av))]) (esz := 7) (by rw [h1 _ (by simp)]; exact hk) h2 cB (fun e he => by obtain ⟨p, _, rfl⟩ := List.mem_map.1 he; rfl) (by
  have e : (all.map aj.av).take all.length = all.map aj.av := List.take_of_length_le (by simp)
  simp [m8, fg, e]) (Kept.now (h _ (K'.del A) (fun c hc1 hc2 => ?_) ?_ ?_ I'.nx fun i hi => ?_))
 ·simp [get, Ne.symm hc1, Ne.symm hc2]; exact h1 c hc1
 ·simp [get]
 ·simp [get]
 ·show (if i = A then none else K'.obj i) = _
  rw [if_neg (by have := I'.lo; omega)]; exact I'.old i hi
theorem LH.begin {H : Hp} {s : aN} : LH H (H.bump s.msgs.length (az ((bk s).map jZ))) (H.next + s.msgs.length) (List.replicate s.msgs.length .nsl) (bk s) := by
 have hlen : (bk s).length = s.msgs.length := by unfold bk; simp
 have hget : ∀ (i : Nat) (o : AV), (List.replicate s.msgs.length AV.nsl)[i]? = some o → o = AV.nsl := fun i o h => List.eq_of_mem_replicate (n := s.msgs.length) (List.mem_of_getElem? h)
 have hz : dz (bk s) (List.replicate s.msgs.length .nsl) = (bk s).map jZ := by
  unfold dz
  refine List.ext_getElem? fun i => ?_
  rw [List.getElem?_zipWith, List.getElem?_map]
  by_cases hi : i < s.msgs.length
  ·rw [List.getElem?_eq_getElem (show i < (bk s).length by omega), List.getElem?_replicate, if_pos hi]; rfl
  ·rw [List.getElem?_eq_none (show (bk s).length ≤ i by omega)]; rfl
 refine ⟨pc _ _, show H.next ≤ H.next + _ + 1 by omega, fun i hi => Hp.jx hi, by omega, by simp [hlen], by rw [hz]; exact Hp.cm, fun i o p h1 h2 => ?_, fun i id n e h => ?_, fun i j id n e n' e' h1 h2 => ?_⟩
 ·have hm := List.mem_of_getElem? h2
  obtain ⟨m, _, rfl⟩ := List.mem_map.1 (show p ∈ s.msgs.map fun m => cN { cc with name := m.name, ins := bb s m, outs := bb s m, aJ := m.fields.length } from hm)
  exact .inl ⟨hget i o h1, rfl⟩
 ·have := hget i _ h; cases this
 ·have := hget i _ h1; cases this
end Go.Proofs.YtlijgcifhhcfaaaGreatDoor.X
