/- the document: steps of one part -/
import Derived.Test.YtlijgcifhhcfaaaGreatDoorZCG
import Derived.Test.YtlijgcifhhcfaaaGreatDoorZCE
set_option linter.unusedVariables false
set_option linter.unusedSimpArgs false
set_option linter.unusedSectionVars false
set_option maxRecDepth 100000
namespace Go.Proofs.YtlijgcifhhcfaaaGreatDoor.X
open Go Go.RowKit Go.Proofs
theorem Fs : aa Tryz.prog 102 = true := by kernel_rfl
theorem tB : aa Tryz.prog 39 = true := by kernel_rfl
theorem jl : aa Tryz.prog 61 = true := by kernel_rfl
theorem qQ : aa Tryz.prog 62 = true := by kernel_rfl
theorem qP : aa Tryz.prog 63 = true := by kernel_rfl
theorem lS : se Tryz.prog 45 = some (149, 13, 144) := by kernel_rfl
theorem jY : bf Tryz.prog 149 = some [AV.int IntKind.i64 (0), AV.int IntKind.i64 (0), AV.int IntKind.i64 (0), AV.int IntKind.i64 (0), AV.int IntKind.i64 (0), AV.int IntKind.i64 (0), AV.int IntKind.i64 (0), AV.int IntKind.u64 (0), AV.int IntKind.i64 (0), AV.sl [], AV.int IntKind.u64 (0), AV.str [], AV.sl []] := by kernel_rfl
theorem mU (l : List fQ) : ∀ e ∈ l.map fQ.av, e.cells.length = 13 := pb (bn fQ.cells (fun _ => rfl) _)
theorem gz {l : List Port} {n : aw} (h : 0 ≤ bg l n) : (l.map Port.av)[(bg l n).toNat]? = some (.agg (aP l n).cells) := by
 rcases ao (fun x : Port => x.f.name == n) l 0 with ⟨q1, q2⟩ | ⟨i, hi, q1, q2, q3⟩
 ·have e : bg l n = -1 := q1
  omega
 ·have e : bg l n = ((0 + i : Nat) : Int) := q1
  unfold aP
  rw [e, q2, Int.toNat_natCast, Nat.zero_add, List.getElem?_map, List.getElem?_eq_getElem hi]; rfl
theorem z7 {l : List Port} {n : aw} (h : ¬ 0 ≤ bg l n) : aP l n = hZ := by
 rcases ao (fun x : Port => x.f.name == n) l 0 with ⟨q1, q2⟩ | ⟨i, hi, q1, q2, q3⟩
 ·unfold aP; rw [q2]; rfl
 ·have e : bg l n = ((0 + i : Nat) : Int) := q1
  omega
theorem A2 {a b : Int} (h0 : -9223372036854775808 ≤ a + b) (h1 : a + b < 9223372036854775808) : qu .add (.int .i64 a) (.int .i64 b) = some (.int .i64 (a + b)) := by
 show (if IntKind.i64 = IntKind.i64 then some (AV.int .i64 (IntKind.i64.wrap (a + b))) else none) = _
 rw [if_pos rfl, eL h0 h1]
def rB (K : Hp) (p q : ak) (o : AV) : AV := if q.ops.length = p.ops.length then o else .os K.next ((p.ops.map fQ.av).length + 1) 13
def rC (K : Hp) (p q : ak) (o : AV) : Hp := if q.ops.length = p.ops.length then K else jW K o (bC (q.ops.map fQ.av))
theorem mG {K : Hp} {p q : ak} {o : AV} (h : q.ops = p.ops) : rB K p q o = o := by unfold rB; rw [if_pos (by rw [h])]
theorem mH {K : Hp} {p q : ak} {o : AV} (h : q.ops = p.ops) : rC K p q o = K := by unfold rC; rw [if_pos (by rw [h])]
theorem jC {K : Hp} {p q : ak} {o : AV} (a : fQ) (h : q.ops = p.ops ++ [a]) : rB K p q o = .os K.next ((p.ops.map fQ.av).length + 1) 13 := by unfold rB; rw [if_neg (by rw [h]; simp)]
theorem jD {K : Hp} {p q : ak} {o : AV} (a : fQ) (h : q.ops = p.ops ++ [a]) : rC K p q o = jW K o (bC (p.ops.map fQ.av ++ [a.av])) := by unfold rC; rw [if_neg (by rw [h]; simp), h, List.map_append]; rfl
def jc (f : Port) (x : aS) : fQ := { jx with kind := 1, a := f.reg, src := f.f.ty, dst := x.ty, lo := (pq f.f.ty x.ty).1, hi := (pq f.f.ty x.ty).2 }
def jb (f : Port) (n : Int) : fQ := { jx with kind := 2, a := f.reg, b := n, c := n + 1 }
def l5 (f g : Port) (n : Int) : fQ := { jx with kind := 3, a := f.reg, b := g.reg, c := n }
theorem pa {p : ak} {x : aS} (h : x.kind = 1) : aQ p x = { p with outs := ba (aW p.outs x.field) { aP p.outs x.field with f := { (aP p.outs x.field).f with name := x.dest } } } := by unfold aQ; rw [if_pos h]
theorem p9 {p : ak} {x : aS} (h : x.kind = 2) : aQ p x = { p with outs := ba (aW p.outs x.field) { aP p.outs x.field with f := { (aP p.outs x.field).f with num := x.num } } } := by unfold aQ; simp [h]
theorem p8 {p : ak} {x : aS} (h : x.kind = 3) : aQ p x = { p with ops := p.ops ++ [jc (aP p.outs x.field) x], outs := ba (aW p.outs x.field) { aP p.outs x.field with f := { (aP p.outs x.field).f with ty := x.ty } } } := by unfold aQ; simp [h, jc]
theorem p7 {p : ak} {x : aS} (h : x.kind = 4) : aQ p x = { p with ops := p.ops ++ [jb (aP p.outs x.field) p.aI], aI := p.aI + 2, outs := ba (ba (aW p.outs x.field) (dB x.dest x.num 3 p.aI)) (dB x.also x.other 3 (p.aI + 1)) } := by unfold aQ; simp [h, jb]
theorem pZ {p : ak} {x : aS} (h : x.kind = 5) : aQ p x = { p with ops := p.ops ++ [l5 (aP p.outs x.field) (aP (aW p.outs x.field) x.also) p.aI], aI := p.aI + 1, outs := ba (aW (aW p.outs x.field) x.also) (dB x.dest x.num 4 p.aI) } := by unfold aQ; simp [h, l5]
theorem EV (p : ak) (o : AV) (x : aS) (K : Hp) (hK : fK K o 13 (p.ops.map fQ.av)) (hl : p.ops.length ≤ 1000) (ho : p.outs.length ≤ 100) (hk : x.kind = 1 ∨ x.kind = 2 ∨ x.kind = 3) : cc Tryz.prog 57 [dx p o, x.av, (aP p.outs x.field).av] K (dx (aQ p x) (rB K p (aQ p x) o)) (rC K p (aQ p x) o) := by
 refine cc.aL Tryz.func57 rfl rfl (aF rfl) (aC.seq (aC.region (aB.run II 4 rfl (aB.nil (aC.seq (aC.region (aB.run II 4 rfl (aB.c1 rfl (aG (aF rfl) qP rfl (gx _ _ (by first | omega | (have := bN p.outs x.field; omega)))) ?_))))))))
 refine aB.run II 2 rfl (aB.nil (aC.seq (aC.seq (aC.region (aB.run II 2 rfl (aB.nil (aC.blk (aC.seq (aC.region (aB.run II 2 rfl (aB.nil (aC.cond rfl (fun hc1 => ?_) (fun hc1 => ?_)))))))))))))
 ·refine aC.region (aB.run II 5 rfl (aB.nil (aC.seq (aC.region (aB.run II 3 rfl (aB.c1 rfl (aG (aF rfl) jl rfl (gY (aW p.outs x.field) { (aP p.outs x.field) with f := { (aP p.outs x.field).f with name := x.dest } } (by have := bN p.outs x.field; omega))) ?_))))))
  exact aB.run II 2 rfl (aB.nil (aC.seq (aC.region (aB.run II 2 rfl (aB.nil (aC.ret ⟨.inr rfl, (aE.r1 rfl (.cell fJ rfl rfl rfl rfl .nil)).cast (by rw [mG (p := p) (q := aQ p x) (by rw [pa (by simpa using hc1)]), pa (by simpa using hc1)]; rfl), (by rw [mH (p := p) (q := aQ p x) (by rw [pa (by simpa using hc1)])]; rfl)⟩))))))
 ·refine aC.seq (aC.region (aB.run II 2 rfl (aB.nil (aC.cond rfl (fun hc2 => ?_) (fun hc2 => ?_)))))
  ·refine aC.region (aB.run II 5 rfl (aB.nil (aC.seq (aC.region (aB.run II 3 rfl (aB.c1 rfl (aG (aF rfl) jl rfl (gY (aW p.outs x.field) { (aP p.outs x.field) with f := { (aP p.outs x.field).f with num := x.num } } (by have := bN p.outs x.field; omega))) ?_))))))
   exact aB.run II 2 rfl (aB.nil (aC.seq (aC.region (aB.run II 2 rfl (aB.nil (aC.ret ⟨.inr rfl, (aE.r1 rfl (.cell fJ rfl rfl rfl rfl .nil)).cast (by rw [mG (p := p) (q := aQ p x) (by rw [p9 (by simpa using hc2)]), p9 (by simpa using hc2)]; rfl), (by rw [mH (p := p) (q := aQ p x) (by rw [p9 (by simpa using hc2)])]; rfl)⟩))))))
  ·refine aC.seq (aC.region (aB.run II 5 rfl (aB.c1 rfl (aG (aF rfl) Fs rfl (HJ _ _)) (aB.run II 5 rfl (aB.nil (aC.seq (aC.region (aB.run II 13 rfl (aB.c3 rfl (kK (aF rfl) lS jY rfl rfl hK (mU _) rfl rfl (List.cons_ne_nil _ _) rfl (by rw [List.length_map]; simp only [List.length_cons, List.length_nil]; omega) (by rw [List.length_map]; simp only [List.length_cons, List.length_nil]; omega)) ?_)))))))))
   refine aB.run II 2 rfl (aB.nil (aC.region (aB.run II 5 rfl (aB.nil (aC.seq (aC.region (aB.run II 3 rfl (aB.c1 rfl (aG (aF rfl) jl rfl (gY (aW p.outs x.field) { (aP p.outs x.field) with f := { (aP p.outs x.field).f with ty := x.ty } } (by have := bN p.outs x.field; omega))) ?_))))))))
   exact aB.run II 2 rfl (aB.nil (aC.seq (aC.region (aB.run II 2 rfl (aB.nil (aC.ret ⟨.inr rfl, (aE.r1 rfl (.cell fJ rfl rfl rfl rfl .nil)).cast (by rw [jC (jc (aP p.outs x.field) x) (p := p) (q := aQ p x) (by rw [p8 (by have h1 : x.kind ≠ 1 := (by simpa using hc1); have h2 : x.kind ≠ 2 := (by simpa using hc2); omega)]), p8 (by have h1 : x.kind ≠ 1 := (by simpa using hc1); have h2 : x.kind ≠ 2 := (by simpa using hc2); omega)]; rfl), (by rw [jD (jc (aP p.outs x.field) x) (p := p) (q := aQ p x) (by rw [p8 (by have h1 : x.kind ≠ 1 := (by simpa using hc1); have h2 : x.kind ≠ 2 := (by simpa using hc2); omega)])]; rfl)⟩))))))
theorem zM (p : ak) (o : AV) (x : aS) (K : Hp) (hK : fK K o 13 (p.ops.map fQ.av)) (hl : p.ops.length ≤ 1000) (ho : p.outs.length ≤ 100) (hr : 0 ≤ p.aI ∧ p.aI ≤ 1000) (hk : x.kind = 4 ∨ x.kind = 5) (hg : x.kind = 5 → 0 ≤ bg (aW p.outs x.field) x.also) : cc Tryz.prog 58 [dx p o, x.av, (aP p.outs x.field).av] K (dx (aQ p x) (rB K p (aQ p x) o)) (rC K p (aQ p x) o) := by
 refine cc.aL Tryz.func58 rfl rfl (aF rfl) (aC.seq (aC.region (aB.run II 4 rfl (aB.nil (aC.seq (aC.region (aB.run II 3 rfl (aB.nil (aC.seq (aC.region (aB.run II 4 rfl (aB.c1 rfl (aG (aF rfl) qP rfl (gx _ _ (by first | omega | (have := bN p.outs x.field; omega)))) ?_))))))))))))
 refine aB.run II 2 rfl (aB.nil (aC.seq (aC.seq (aC.region (aB.run II 2 rfl (aB.c1 rfl (db (aF rfl) rfl rfl rfl)  (aB.nil (aC.cond rfl (fun hc1 => ?_) (fun hc1 => ?_)))))))))
 ·refine aC.seq (aC.region (aB.run II 6 rfl (aB.c1 rfl (db (aF rfl) rfl rfl (A2 (by omega) (by omega))) (aB.run II 2 rfl (aB.c3 rfl (kK (aF rfl) lS jY rfl rfl hK (mU _) rfl rfl (List.cons_ne_nil _ _) rfl (by rw [List.length_map]; simp only [List.length_cons, List.length_nil]; omega) (by rw [List.length_map]; simp only [List.length_cons, List.length_nil]; omega)) ?_)))))
  refine aB.run II 2 rfl (aB.nil (aC.seq (aC.region (aB.run II 1 rfl (aB.c1 rfl (db (aF rfl) rfl rfl (A2 (by omega) (by omega))) (aB.run II 2 rfl (aB.nil (aC.seq (aC.drawn mixed rfl (aD.run II 7 rfl (aD.c1 rfl (aG (aF rfl) qQ rfl (mQ _ _ _ _)) (aD.c1 rfl (aG (aF rfl) jl rfl (gY (aW p.outs x.field) (dB x.dest x.num 3 p.aI) (by have := bN p.outs x.field; omega))) ?_))))))))))))
  refine aD.run II 5 rfl (aD.c1 rfl (db (aF rfl) rfl rfl (A2 (by omega) (by omega))) (aD.c1 rfl (aG (aF rfl) qQ rfl (mQ _ _ _ _)) (aD.c1 rfl (aG (aF rfl) jl rfl (gY (ba (aW p.outs x.field) (dB x.dest x.num 3 p.aI)) (dB x.also x.other 3 (p.aI + 1)) (by rw [dj]; have := bN p.outs x.field; omega))) ?_)))
  exact aD.run II 2 rfl (aD.nil (by kernel_rfl) (Kept.now (aC.seq (aC.region (aB.run II 2 rfl (aB.nil (aC.ret ⟨.inr rfl, (aE.r1 rfl (.cell fJ rfl rfl rfl rfl .nil)).cast (by rw [jC (jb (aP p.outs x.field) p.aI) (p := p) (q := aQ p x) (by rw [p7 (by simpa using hc1)]), p7 (by simpa using hc1)]; rfl), (by rw [jD (jb (aP p.outs x.field) p.aI) (p := p) (q := aQ p x) (by rw [p7 (by simpa using hc1)])]; rfl)⟩)))))))
 ·refine aC.skip (aC.seq (aC.drawn mixed rfl (aD.run II 6 rfl (aD.c1 rfl (aG (aF rfl) tB rfl (mP _ _ (by have := bN p.outs x.field; omega))) ?_))))
  refine aD.c1 rfl (aH (aF rfl) c9 rfl rfl (hg (by have : x.kind ≠ 4 := (by simpa using hc1); omega)) (gz (hg (by have : x.kind ≠ 4 := (by simpa using hc1); omega))) rfl) ?_
  refine aD.run II 3 rfl (aD.nil (by kernel_rfl) (Kept.now (aC.seq (aC.region (aB.run II 9 rfl (aB.c3 rfl (kK (aF rfl) lS jY rfl rfl hK (mU _) rfl rfl (List.cons_ne_nil _ _) rfl (by rw [List.length_map]; simp only [List.length_cons, List.length_nil]; omega) (by rw [List.length_map]; simp only [List.length_cons, List.length_nil]; omega)) ?_))))))
  refine aB.run II 2 rfl (aB.nil (aC.seq (aC.region (aB.run II 1 rfl (aB.c1 rfl (db (aF rfl) rfl rfl (A2 (by omega) (by omega))) (aB.run II 2 rfl (aB.nil (aC.seq (aC.drawn mixed rfl (aD.run II 4 rfl (aD.c1 rfl (aG (aF rfl) qP rfl (gx _ _ (by first | omega | (have := bN p.outs x.field; omega)))) ?_)))))))))))
  refine aD.run II 5 rfl (aD.c1 rfl (aG (aF rfl) qQ rfl (mQ _ _ _ _)) (aD.c1 rfl (aG (aF rfl) jl rfl (gY (aW (aW p.outs x.field) x.also) (dB x.dest x.num 4 p.aI) (by have := bN (aW p.outs x.field) x.also; have := bN p.outs x.field; omega))) ?_))
  exact aD.run II 2 rfl (aD.nil (by kernel_rfl) (Kept.now (aC.seq (aC.region (aB.run II 2 rfl (aB.nil (aC.ret ⟨.inr rfl, (aE.r1 rfl (.cell fJ rfl rfl rfl rfl .nil)).cast (by rw [jC (l5 (aP p.outs x.field) (aP (aW p.outs x.field) x.also) p.aI) (p := p) (q := aQ p x) (by rw [pZ (by have : x.kind ≠ 4 := (by simpa using hc1); omega)]), pZ (by have : x.kind ≠ 4 := (by simpa using hc1); omega)]; rfl), (by rw [jD (l5 (aP p.outs x.field) (aP (aW p.outs x.field) x.also) p.aI) (p := p) (q := aQ p x) (by rw [pZ (by have : x.kind ≠ 4 := (by simpa using hc1); omega)])]; rfl)⟩)))))))
/- the document: fields that come into a oneof -/
theorem rX : lk Tryz.prog 9 = some (false, 1) := by kernel_rfl
theorem Aq : A3 Tryz.prog 149 = some [(0, 1), (1, 1), (2, 1), (3, 1), (4, 1), (5, 1), (6, 1), (7, 1), (8, 1), (9, 1), (10, 3)] := by kernel_rfl
theorem JZ : lx Tryz.prog 149 = some [.int .i64 0, .int .i64 0, .int .i64 0, .int .i64 0, .int .i64 0, .int .i64 0, .int .i64 0, .int .u64 0, .int .i64 0, .nsl, .int .u64 0, .str [], .nsl] := by kernel_rfl
structure Mv (K : Hp) (o : AV) (K' : Hp) (o' : AV) (ops : List fQ) : Prop where
 fin : K'.fin
 nx : K.next ≤ K'.next
 aJ : ∀ j, j < K.next → (∀ n e, o ≠ .os j n e) → K'.obj j = K.obj j
 res : fK K' o' 13 (ops.map fQ.av)
 fresh : o' = o ∨ ∃ id n e, o' = .os id n e ∧ K.next ≤ id
theorem Mv.same {K : Hp} {o : AV} {ops : List fQ} (hf : K.fin) (h : fK K o 13 (ops.map fQ.av)) : Mv K o K o ops := ⟨hf, Nat.le_refl _, fun _ _ _ => rfl, h, .inl rfl⟩
theorem xv {K : Hp} (h : K.fin) (cs : List Hc) : (K.new cs).fin := fun i hi => by
 have h1 : K.next + 1 ≤ i := hi
 have e : (K.new cs).obj i = if i = K.next then some cs else K.obj i := rfl
 rw [e, if_neg (by omega), h i (by omega)]
theorem y7 {K : Hp} (h : K.fin) (id : Nat) : (K.del id).fin := fun i hi => by
 have e : (K.del id).obj i = if i = id then none else K.obj i := rfl
 rw [e]
 split
 ·rfl
 ·exact h i hi
theorem x6 {K : Hp} (h : K.fin) {id : Nat} (hi : id < K.next) (cs : List Hc) : (K.set id cs).fin := fun i hl => by
 have h1 : K.next ≤ i := hl
 have e : (K.set id cs).obj i = if i = id then some cs else K.obj i := rfl
 rw [e, if_neg (by omega)]; exact h i h1
theorem q7 {K : Hp} (k : Nat) (cs : List Hc) : (K.bump k cs).fin := fun i hi => by
 have h1 : K.next + k + 1 ≤ i := hi
 have e : (K.bump k cs).obj i = if i = K.next + k then some cs else if i < K.next then K.obj i else none := rfl
 rw [e, if_neg (by omega), if_neg (by omega)]
theorem qb {K : Hp} (h : K.fin) (o : AV) (cs : List Hc) : (jW K o cs).fin := by
 cases o <;> first | exact xv h cs | exact xv (y7 h _) cs
theorem kz {K : Hp} {o : AV} {cs : List Hc} : (jW K o cs).next = K.next + 1 := by cases o <;> rfl
theorem vJ {K : Hp} {o : AV} {cs : List Hc} : (jW K o cs).obj K.next = some cs := by cases o <;> exact Hp.fH _ _
theorem k7 {K : Hp} {o : AV} {cs : List Hc} {j : Nat} (hj : j < K.next) (ho : ∀ n e, o ≠ .os j n e) : (jW K o cs).obj j = K.obj j := by
 cases o
 case os id n e =>
  have hne : j ≠ id := fun e2 => ho n e (by rw [e2])
  show (if j = K.next then some cs else if j = id then none else K.obj j) = K.obj j
  rw [if_neg (by omega), if_neg hne]
 all_goals exact Hp.ko _ _ hj
theorem kT {K : Hp} (hf : K.fin) {o : AV} {e : Nat} {xs : List AV} (h : fK K o e xs) {id n e' : Nat} (ho : o = .os id n e') : id < K.next := by
 rcases h with ⟨rfl, _⟩ | ⟨id', rfl, h2⟩
 ·cases ho
 ·cases ho
  apply Classical.byContradiction
  intro hn
  rw [hf id (by omega)] at h2; cases h2
theorem jP {K K' : Hp} {o : AV} {e : Nat} {xs : List AV} (h : fK K o e xs) (hk : ∀ id n e', o = .os id n e' → K'.obj id = K.obj id) : fK K' o e xs := by
 rcases h with h | ⟨id, h1, h2⟩
 ·exact .inl h
 ·exact .inr ⟨id, h1, by rw [hk id _ _ h1]; exact h2⟩
theorem Mv.app {K : Hp} {o : AV} {ops : List fQ} (hf : K.fin) (a : fQ) : Mv K o (jW K o (bC (ops.map fQ.av ++ [a.av]))) (.os K.next ((ops.map fQ.av).length + 1) 13) (ops ++ [a]) :=
 ⟨qb hf _ _, by rw [kz]; omega, fun j hj ho => k7 hj ho, .inr ⟨K.next, by simp, by rw [vJ, List.map_append]; rfl⟩, .inr ⟨_, _, _, rfl, Nat.le_refl _⟩⟩
def iD (x : aS) (i : Nat) (y : Port) : Port := if (x.names.take i).any (fun s => s == y.f.name) then { y with f := { y.f with one := x.field } } else y
def dF (p : ak) (x : aS) (i : Nat) : List Port := p.outs.map (iD x i)
theorem pY (x : aS) (i : Nat) (y : Port) : (iD x i y).f.name = y.f.name := by unfold iD; split <;> rfl
theorem zi (x : aS) (i : Nat) (y : Port) : (iD x i y).reg = y.reg := by unfold iD; split <;> rfl
theorem qG {α : Type} {q : α → Bool} {g : α → α} (h : ∀ y, q (g y) = q y) : ∀ (l : List α) (k : Nat), bS q (l.map g) k = bS q l k
 | [], _ => rfl
 | a :: l, k => by simp only [List.map_cons, bS, h, qG h l (k + 1)]
theorem fF {p : ak} {x : aS} {i : Nat} {n : aw} : bg (dF p x i) n = bg p.outs n := qG (fun y => by rw [pY]) _ _
theorem fZ {p : ak} {x : aS} {i : Nat} : (dF p x i).length = p.outs.length := by unfold dF; simp
theorem kk {l : List Port} {n : aw} (h : 0 ≤ bg l n) : ∃ (k : Nat) (hk : k < l.length), bg l n = (k : Int) ∧ (l[k]).f.name = n ∧ aP l n = l[k] := by
 rcases ao (fun x : Port => x.f.name == n) l 0 with ⟨q1, q2⟩ | ⟨i, hi, q1, q2, q3⟩
 ·have e : bg l n = -1 := q1
  omega
 ·refine ⟨i, hi, by rw [show bg l n = ((0 + i : Nat) : Int) from q1, Nat.zero_add], by simpa using q3, ?_⟩
  unfold aP; rw [q2]; rfl
theorem nI {p : ak} {x : aS} {i k : Nat} (hk : k < (dF p x i).length) (hk' : k < p.outs.length) : (dF p x i)[k] = iD x i p.outs[k] := by simp [dF]
theorem zh (x : aS) (i : Nat) (y : Port) : ({ iD x i y with f := { (iD x i y).f with one := x.field } } : Port) = { y with f := { y.f with one := x.field } } := by unfold iD; split <;> rfl
theorem Ex {p : ak} {x : aS} : dF p x 0 = p.outs := by
 unfold dF
 have : iD x 0 = id := by funext y; unfold iD; simp
 rw [this, List.map_id]
theorem bP {l : List Port} {n : aw} (h : 0 ≤ bg l n) : bg l n < (l.length : Int) := by
 obtain ⟨k, hk, e, _⟩ := kk h
 omega
theorem zf {p : ak} {x : aS} {i : Nat} {n : aw} (h : 0 ≤ bg p.outs n) : (aP (dF p x i) n).reg = (aP p.outs n).reg := by
 obtain ⟨k, hk, e1, e2, e3⟩ := kk h
 obtain ⟨k', hk', e1', e2', e3'⟩ := kk (l := dF p x i) (by rw [fF]; exact h)
 rw [fF, e1] at e1'
 have : k' = k := by omega
 subst this
 rw [e3, e3']
 rw [nI hk' hk, zi]
theorem wF {p : ak} {x : aS} {i : Nat} (hi : i < x.names.length) (hnd : (p.outs.map fun y => y.f.name).Nodup) (h : 0 ≤ bg p.outs x.names[i]) :
  ((dF p x i).map Port.av).set (bg (dF p x i) x.names[i]).toNat (.agg ((aP (dF p x i) x.names[i]).cells.set 6 (.str x.field))) = (dF p x (i + 1)).map Port.av := by
 obtain ⟨k, hk, e1, e2, e3⟩ := kk (l := dF p x i) (n := x.names[i]) (by rw [fF]; exact h)
 have hk' : k < p.outs.length := by rw [fZ] at hk; exact hk
 rw [e1, e3, Int.toNat_natCast]
 have ea : (.agg ((dF p x i)[k].cells.set 6 (.str x.field)) : AV) = ({ (dF p x i)[k] with f := { (dF p x i)[k].f with one := x.field } } : Port).av := rfl
 rw [ea, ← List.map_set]
 congr 1
 refine List.ext_getElem? fun j => ?_
 have hname : p.outs[k].f.name = x.names[i] := by
  rw [← e2, nI hk hk', pY]
 have htk : x.names.take (i + 1) = x.names.take i ++ [x.names[i]] := by rw [List.take_add_one, List.getElem?_eq_getElem hi]; rfl
 by_cases hj : j = k
 ·subst hj
  rw [List.getElem?_set_self hk]
  rw [nI hk hk', zh]
  unfold dF
  rw [List.getElem?_map, List.getElem?_eq_getElem hk', Option.map_some]
  congr 1
  unfold iD
  rw [htk, List.any_append]
  simp [hname]
 ·rw [List.getElem?_set_ne (fun e => hj e.symm)]
  unfold dF
  rw [List.getElem?_map, List.getElem?_map]
  cases hy : p.outs[j]? with
  | none => rfl
  | some y =>
   simp only [Option.map_some]
   congr 1
   have hne : y.f.name ≠ x.names[i] := fun e => by
    rw [← hname] at e
    have hjl := (List.getElem?_eq_some_iff.1 hy).1
    have h1 : (p.outs.map fun y => y.f.name)[j]? = (p.outs.map fun y => y.f.name)[k]? := by
     rw [List.getElem?_map, List.getElem?_map, hy, List.getElem?_eq_getElem hk']; simp [e]
    exact hj ((List.getElem?_inj (by simpa using hjl) hnd).1 h1)
   unfold iD
   rw [htk, List.any_append]
   have : ([x.names[i]].any fun s => s == y.f.name) = false := by simp; exact fun e => hne e.symm
   rw [this, Bool.or_false]
def mY (p : ak) (x : aS) (i : Nat) : List Int := (x.names.take i).map fun s => (aP p.outs s).reg
theorem wG {p : ak} {x : aS} {i : Nat} (hi : i < x.names.length) : (mY p x i).map jj ++ [AV.int .i64 (aP p.outs x.names[i]).reg] = (mY p x (i + 1)).map jj := by
 unfold mY
 rw [List.take_add_one, List.getElem?_eq_getElem hi, List.map_append, List.map_append]; rfl
theorem rT {p : ak} {x : aS} {i : Nat} : (mY p x i).length ≤ x.names.length := by unfold mY; simp; omega
theorem zg {p : ak} {x : aS} : mY p x x.names.length = x.names.map fun s => (aP p.outs s).reg := by unfold mY; rw [List.take_of_length_le (Nat.le_refl _)]
def xp (p : ak) (x : aS) : fQ := { jx with kind := 6, aI := x.names.map fun s => (aP p.outs s).reg }
theorem Bj {p : ak} {x : aS} (h : x.kind = 8) : aQ p x = { p with ops := p.ops ++ [xp p x], outs := dF p x x.names.length } := by
 unfold aQ dF
 have : iD x x.names.length = fun y : Port => if (x.names.any fun s => s == y.f.name) = true then { y with f := { y.f with one := x.field } } else y := by
  funext y; unfold iD; rw [List.take_of_length_le (Nat.le_refl _)]
 rw [this]
 simp [h, xp]
theorem zq {id n : Nat} {l : List Port} {s : aw} (hn : n = l.length) : [AV.os id n 9, .str s].map (lG id (l.map Port.av)) = [.sl (l.map Port.av), .str s] := by
 subst hn
 have e : (l.map Port.av).take l.length = l.map Port.av := List.take_of_length_le (by simp)
 simp [lG, gO, e]
theorem Ld {v : CV} {rest : List (aM × CV)} {H : Hp} {t el esz : Nat} {b0 b1 b2 b3 b4 b5 b6 b7 b8 c0 c1 c2 : Sv} {a a' u u' : List AV} (h1 : a = a') (h2 : u = u') :
  ((aM.s 6, v) :: (aM.b 5, CV.bx [b0, b1, b2, b3, b4, b5, b6, b7, b8, .ow t a, c0, c1, c2]) :: (aM.t t, CV.tk false el esz a) :: (aM.h, CV.hp (H.bump 1 (bC u))) :: rest) = [(aM.s 6, v), (aM.b 5, CV.bx [b0, b1, b2, b3, b4, b5, b6, b7, b8, .ow t a', c0, c1, c2]), (aM.t t, CV.tk false el esz a'), (aM.h, CV.hp (H.bump 1 (bC u')))] ++ rest := by rw [h1, h2]; rfl
theorem KJ {p : ak} {id n : Nat} {o : AV} (l : List Port) (hn : n = l.length) (ho : ∀ m e, o ≠ .os id m e) : [Sv.v (.str p.name), .v (.sl (p.ins.map Port.av)), .v o, .v (.os id n 9), .v (.int .i64 p.aI), .v (.sl (p.ever.map jj)), .v (.bool p.born)].map (nP id (l.map Port.av)) = [Sv.v (.str p.name), .v (.sl (p.ins.map Port.av)), .v o, .v (.sl (l.map Port.av)), .v (.int .i64 p.aI), .v (.sl (p.ever.map jj)), .v (.bool p.born)] := by
 subst hn
 have e : (l.map Port.av).take l.length = l.map Port.av := List.take_of_length_le (by simp)
 have h : gO id (l.map Port.av) o = o := by
  cases o <;> first | rfl | skip
  rename_i i m e
  show (if i = id ∧ m ≤ (l.map Port.av).length then _ else _) = _
  rw [if_neg (fun h => ho m e (by rw [h.1]))]
 simp only [List.map_cons, List.map_nil, nP]
 rw [h]
 simp [gO, e]
theorem Mv.one {K : Hp} {o : AV} {ops : List fQ} {cs : List Hc} (hf : K.fin) (h : fK K o 13 (ops.map fQ.av)) (a : fQ) : Mv K o ((jW (K.bump 1 cs) o (bC (ops.map fQ.av ++ [a.av]))).del (K.next + 1)) (.os (K.next + 2) ((ops.map fQ.av).length + 1) 13) (ops ++ [a]) := by
 have hlo : ∀ j n e, o = .os j n e → j < K.next := fun j n e ho => kT hf h ho
 have hn : (K.bump 1 cs).next = K.next + 2 := rfl
 refine ⟨y7 (qb (q7 _ _) _ _) _, ?_, fun j hj ho => ?_, .inr ⟨K.next + 2, by simp, ?_⟩, .inr ⟨_, _, _, rfl, by omega⟩⟩
 ·show K.next ≤ (jW _ _ _).next; rw [kz, hn]; omega
 ·rw [Hp.y5, if_neg (by omega), k7 (by rw [hn]; omega) ho, Hp.kZ hj]
 ·rw [Hp.y5, if_neg (by omega)]
  have := @vJ (K.bump 1 cs) o (bC (ops.map fQ.av ++ [a.av]))
  rw [hn] at this
  rw [this, List.map_append]; rfl
theorem w6 {K : Hp} (hf : K.fin) {o : AV} {e : Nat} {xs : List AV} {k : Nat} {cs : List Hc} (h : fK K o e xs) : fK (K.bump k cs) o e xs := jP h fun id n e' ho => Hp.kZ (kT hf h ho)
def DX (K : Hp) (q : ak) (o : AV) (r : AV) (K' : Hp) : Prop := ∃ o', r = dx q o' ∧ Mv K o K' o' q.ops
theorem pO (p : ak) (o : AV) (x : aS) (K : Hp) (hf : K.fin) (hK : fK K o 13 (p.ops.map fQ.av)) (hl : p.ops.length ≤ 1000) (ho : p.outs.length ≤ 100) (hk : x.kind = 1 ∨ x.kind = 2 ∨ x.kind = 3) : oK Tryz.prog 57 [dx p o, x.av, (aP p.outs x.field).av] K (DX K (aQ p x) o) := by
 refine (EV p o x K hK hl ho hk).Ja ⟨_, rfl, ?_⟩
 rcases hk with h | h | h
 ·rw [mG (p := p) (q := aQ p x) (by rw [pa h]), mH (p := p) (q := aQ p x) (by rw [pa h]), show (aQ p x).ops = p.ops by rw [pa h]]
  exact Mv.same hf hK
 ·rw [mG (p := p) (q := aQ p x) (by rw [p9 h]), mH (p := p) (q := aQ p x) (by rw [p9 h]), show (aQ p x).ops = p.ops by rw [p9 h]]
  exact Mv.same hf hK
 ·rw [jC (jc (aP p.outs x.field) x) (p := p) (q := aQ p x) (by rw [p8 h]), jD (jc (aP p.outs x.field) x) (p := p) (q := aQ p x) (by rw [p8 h]), show (aQ p x).ops = p.ops ++ [jc (aP p.outs x.field) x] by rw [p8 h]]
  exact Mv.app hf _
theorem pM (p : ak) (o : AV) (x : aS) (K : Hp) (hf : K.fin) (hK : fK K o 13 (p.ops.map fQ.av)) (hl : p.ops.length ≤ 1000) (ho : p.outs.length ≤ 100) (hr : 0 ≤ p.aI ∧ p.aI ≤ 1000) (hk : x.kind = 4 ∨ x.kind = 5) (hg : x.kind = 5 → 0 ≤ bg (aW p.outs x.field) x.also) : oK Tryz.prog 58 [dx p o, x.av, (aP p.outs x.field).av] K (DX K (aQ p x) o) := by
 refine (zM p o x K hK hl ho hr hk hg).Ja ⟨_, rfl, ?_⟩
 rcases hk with h | h
 ·rw [jC (jb (aP p.outs x.field) p.aI) (p := p) (q := aQ p x) (by rw [p7 h]), jD (jb (aP p.outs x.field) p.aI) (p := p) (q := aQ p x) (by rw [p7 h]), show (aQ p x).ops = p.ops ++ [jb (aP p.outs x.field) p.aI] by rw [p7 h]]
  exact Mv.app hf _
 ·rw [jC (l5 (aP p.outs x.field) (aP (aW p.outs x.field) x.also) p.aI) (p := p) (q := aQ p x) (by rw [pZ h]), jD (l5 (aP p.outs x.field) (aP (aW p.outs x.field) x.also) p.aI) (p := p) (q := aQ p x) (by rw [pZ h]), show (aQ p x).ops = p.ops ++ [l5 (aP p.outs x.field) (aP (aW p.outs x.field) x.also) p.aI] by rw [pZ h]]
  exact Mv.app hf _
theorem BJ (p : ak) (o : AV) (x : aS) (K : Hp) (hf : K.fin) (hK : fK K o 13 (p.ops.map fQ.av)) (hl : p.ops.length ≤ 1000) (ho : p.outs.length ≤ 100) (hn : x.names.length ≤ 1000) (hk : x.kind = 8) (hnd : (p.outs.map fun y => y.f.name).Nodup) (hg : ∀ n ∈ x.names, 0 ≤ bg p.outs n) : oK Tryz.prog 60 [dx p o, x.av] K (DX K (aQ p x) o) := by
 refine oK.aL Tryz.func60 rfl rfl (aF rfl) (aC.seq (aC.region (aB.run II 3 rfl (aB.nil (aC.seq (aC.region (aB.c1 rfl (fm (aF rfl) Aq JZ rfl rfl) (aB.run II 2 rfl (aB.kept (Kept.ph 5 9 170 3 1 rfl rfl rfl rfl (by decide) (Kept.Bq 5 12 rfl rfl (Kept.now (aC.seq (aC.region (aB.c3 rfl (mV («as» := []) (aF rfl) dZ gS rfl rfl rfl (gI rfl) rfl rfl) (aB.run II 2 rfl (aB.c3 rfl (lZ (aF rfl) dZ gS rfl rfl (Hp.fH K (bC [])) (fun _ h => by cases h) rfl rfl (bn Port.cells (fun _ => rfl) _) rfl (by rw [List.length_map]; omega) (by rw [List.length_map]; omega)) ?_)))))))))))))))))
 refine aB.run II 2 rfl (aB.nil (aC.seq (aC.seq (aC.aK (Kept.oD rfl (show _ = K.bump 1 (bC ((dF p x 0).map Port.av)) from (by rw [Hp.m4 hf, Ex]; exact Hp.jT)) (Kept.now ?_))))))
 refine aC.region (aB.run II 1 rfl (aB.nil (aC.blk (aC.aK (Kept.aJ [.s 6, .b 5, .t 170, .h, .s 2, .b 2, .s 3, .b 3, .s 4, .b 4, .s 5] rfl (by decide) (Kept.now (aC.aX (fun (i : Nat) => [(.s 6, .sv (.v (.int .i64 (i : Int)))), (.b 5, .bx [.v (.int .i64 6), .v (.int .i64 0), .v (.int .i64 0), .v (.int .i64 0), .v (.int .i64 0), .v (.int .i64 0), .v (.int .i64 0), .v (.int .u64 0), .v (.int .i64 0), .ow 170 ((mY p x i).map jj), .v (.int .u64 0), .v (.str []), .v (.sl [])]), (.t 170, .tk false 3 1 ((mY p x i).map jj)), (.h, .hp (K.bump 1 (bC ((dF p x i).map Port.av))))]) _ (fun (i : Nat) => i ≤ x.names.length) (fun (i : Nat) => x.names.length - i) 0 rfl (Nat.zero_le _) ?_)))))))
 rintro i hI
 refine aC.seq (aC.seq (aC.region (aB.run II 5 rfl (aB.nil (aC.cond rfl (fun hc1 => ?_) (fun hc1 => ?_))))))
 ·have hi := dD hc1
  refine aC.skip (aC.seq (aC.blk (aC.seq (aC.drawn mixed rfl (aD.run II 5 rfl (aD.c1 rfl (aH (aF rfl) cD rfl rfl (Int.natCast_nonneg _) (cF hi) rfl) (aD.run II 1 rfl (aD.c1 rfl (uT (K.next + 1) ((dF p x i).map Port.av) (aF rfl) tB rfl rfl (by first | exact Hp.dL | exact Hp.fH _ _) (sU _) (zq (by rw [fZ]; simp)) (mP (dF p x i) _ (by rw [fZ]; omega)) rfl) ?_))))))))
  refine aD.run II 1 rfl (aD.nil (by kernel_rfl) (Kept.now (aC.seq (aC.drawn mixed rfl (aD.run II 5 rfl (aD.c1 rfl (bV (aF rfl) c9 rfl rfl (by rw [fF]; exact (hg _ (List.getElem_mem hi))) (by have := bP (l := dF p x i) (n := x.names[i]'hi) (by rw [fF]; exact (hg _ (List.getElem_mem hi))); rw [fZ] at this; rw [List.length_map]; omega)) ?_))))))
  refine aD.run II 1 rfl (aD.c1 rfl (pX (aF rfl) kP rfl rfl (by first | exact Hp.dL | exact Hp.fH _ _) (sU _) rfl (gz (by rw [fF]; exact (hg _ (List.getElem_mem hi)))) rfl) ?_)
  refine aD.run II 1 rfl (aD.c3 rfl (aV (aF rfl) bc rfl rfl rfl rfl rfl (by have := @rT p x i; rw [List.length_map]; simp only [List.length_cons, List.length_nil]; omega) (by have := @rT p x i; rw [List.length_map]; simp only [List.length_cons, List.length_nil]; omega)) ?_)
  refine aD.run II 2 rfl (aD.nil (by kernel_rfl) (Kept.now (aC.region (aB.run II 5 rfl (aB.c1 rfl (bV (aF rfl) c9 rfl rfl (by rw [fF]; exact (hg _ (List.getElem_mem hi))) (by have := bP (l := dF p x i) (n := x.names[i]'hi) (by rw [fF]; exact (hg _ (List.getElem_mem hi))); rw [fZ] at this; rw [List.length_map]; omega)) ?_)))))
  refine aB.run II 2 rfl (aB.c1 rfl (Hv rX rfl rfl (by first | exact Hp.dL | exact Hp.fH _ _) rfl rfl (sU _) rfl (gz (by rw [fF]; exact (hg _ (List.getElem_mem hi)))) (aF rfl)) ?_)
  exact aB.nil (aC.region (aB.run II 3 rfl (aB.kept (Kept.oD rfl Hp.vD (Kept.aY 6 rfl (inc (by omega)) (Kept.aJ [.s 6, .b 5, .t 38, .h, .s 2, .b 2, .s 3, .b 3, .s 4, .b 4, .s 5] rfl (by decide) (Kept.gG 38 170 (by decide) rfl (Kept.now ⟨i + 1, by omega, by omega, Ld (by rw [zf (hg _ (List.getElem_mem hi))]; exact wG hi) (wF hi hnd (hg _ (List.getElem_mem hi)))⟩))))))))
 ·have hi := dE hc1
  refine aC.exit (aC.seq (aC.region (aB.run II 4 rfl (aB.c3 rfl (kK (aF rfl) lS jY rfl rfl (w6 hf hK) (mU _) rfl rfl (List.cons_ne_nil _ _) rfl (by rw [List.length_map]; simp only [List.length_cons, List.length_nil]; omega) (by rw [List.length_map]; simp only [List.length_cons, List.length_nil]; omega)) ?_))))
  refine aB.run II 2 rfl (aB.kept (Kept.I8 2 (K.next + 1) rfl rfl ((k7 (by show K.next + 1 < K.next + 1 + 1; omega) (fun m e ho => by have := kT hf hK ho; omega)).trans Hp.dL) (sU _) (KJ (p := p) (dF p x i) (by rw [fZ]; simp) (fun m e h => by injection h with h1; have : K.next + 2 = K.next + 1 := h1; omega)) (Kept.now ?_)))
  refine aC.seq (aC.region (aB.run II 2 rfl (aB.nil (aC.ret ?_))))
  have hil : i = x.names.length := (by omega)
  subst hil
  exact ⟨.inr rfl, _, _, ⟨_, (by rw [Bj hk]; rfl), (by rw [show (aQ p x).ops = p.ops ++ [xp p x] by rw [Bj hk]]; have e := @zg p x; rw [e]; exact Mv.one hf hK (xp p x))⟩, aE.r1 rfl (.cell fJ rfl rfl rfl rfl .nil), rfl⟩
/- the document: steps that make, or take away, a part -/
theorem eN : ie Tryz.prog 35 = some 7 := by kernel_rfl
theorem l8 : lk Tryz.prog 44 = some (false, 1) := by kernel_rfl
theorem Kept.slnil {s : St} {Q : St → Prop} (k i : Nat) {cs : List AV} (hk : get s (.s k) = some (.sv (.v (.agg cs)))) (hi : cs[i]? = some .nsl) (h : Kept ((.s k, .sv (.v (.agg (cs.set i (.sl []))))) :: s) Q) : Kept s Q := fun E N a w ⟨G, L, hr⟩ => by
 have hv : V G (a.tmps.getD k undef) (.agg cs) := hr.slot k (.v (.agg cs)) hk
 refine h E N a w ⟨G, L, hr.re (y := .v (.agg (cs.set i (.sl [])))) ?_⟩
 show V G _ _
 generalize a.tmps.getD k undef = u at hv
 cases hv
 rename_i vs hl hf hv
 refine .agg vs _ (by simpa using hl) (fun j c e => ?_) (fun j c e => ?_)
 ·rw [List.getElem?_set] at e
  split at e
  ·split at e
   ·cases e; rfl
   ·cases e
  ·exact hf j c e
 ·rw [List.getElem?_set] at e
  split at e
  ·rename_i e2
   subst e2
   split at e
   ·cases e
    have := hv i .nsl hi
    generalize vs.getD i undef = u at this
    cases this
    exact V.slE none 0
   ·cases e
  ·exact hv j c e
def eK (all : List ak) (os : List AV) : List AV := List.zipWith dx all os
theorem fS (all : List ak) (os : List AV) : ∀ e ∈ eK all os, e.cells.length = 7 := fun e he => by
 obtain ⟨i, hi⟩ := List.mem_iff_getElem?.1 he
 unfold eK at hi
 rw [List.getElem?_zipWith] at hi
 split at hi
 ·cases hi; rfl
 ·cases hi
theorem dQ {all : List ak} {os : List AV} (h : os.length = all.length) : (eK all os).length = all.length := by unfold eK; simp [h]
theorem gm {all : List ak} {os : List AV} {i : Nat} {p : ak} {o : AV} (hp : all[i]? = some p) (ho : os[i]? = some o) : (eK all os)[i]? = some (dx p o) := by
 unfold eK; rw [List.getElem?_zipWith, hp, ho]
theorem tU {all : List ak} {os : List AV} {i : Nat} {p : ak} {o : AV} : (eK all os).set i (dx p o) = eK (all.set i p) (os.set i o) := by
 unfold eK
 refine List.ext_getElem? fun j => ?_
 simp only [List.getElem?_set, List.getElem?_zipWith, List.length_zipWith]
 by_cases h : i = j
 ·subst h
  simp only [if_true]
  by_cases h1 : i < all.length
  ·by_cases h2 : i < os.length
   ·rw [if_pos (by omega), if_pos h1, if_pos h2]
   ·rw [if_neg (by omega), if_pos h1, if_neg h2]
  ·rw [if_neg (by omega), if_neg h1]
 ·simp only [h, if_false]
theorem A6 {all : List ak} {os : List AV} {p : ak} {o : AV} (h : os.length = all.length) : eK all os ++ [dx p o] = eK (all ++ [p]) (os ++ [o]) := by
 unfold eK; rw [List.zipWith_append h.symm]; rfl
structure LH (H0 K : Hp) (A : Nat) (os : List AV) (all : List ak) : Prop where
 fin : K.fin
 nx : H0.next ≤ K.next
 old : ∀ i, i < H0.next → K.obj i = H0.obj i
 lo : H0.next ≤ A
 len : os.length = all.length
 row : K.obj A = some (bC (eK all os))
 ops : ∀ (i : Nat) o p, os[i]? = some o → all[i]? = some p → fK K o 13 (p.ops.map fQ.av)
 ids : ∀ (i : Nat) id n e, os[i]? = some (.os id n e) → H0.next ≤ id ∧ id ≠ A
 dist : ∀ (i j : Nat) id n e n' e', os[i]? = some (.os id n e) → os[j]? = some (.os id n' e') → i = j
section
variable {H0 K K' : Hp} {A i : Nat} {os : List AV} {all : List ak} {p q : ak} {o o' : AV} {ops : List fQ}
theorem LH.alt (I : LH H0 K A os all) : A < K.next := by
 apply Classical.byContradiction
 intro hn
 have := I.row
 rw [I.fin A (by omega)] at this; cases this
theorem LH.I3 (I : LH H0 K A os all) {id n e : Nat} (ho : os[i]? = some (.os id n e)) : id < K.next := by
 have hi := (List.getElem?_eq_some_iff.1 ho).1
 have hl := I.len
 exact kT I.fin (I.ops i _ _ ho (List.getElem?_eq_getElem (by omega))) rfl
theorem LH.Az (I : LH H0 K A os all) (ho : os[i]? = some o) (M : Mv K o K' o' ops) : K'.obj A = some (bC (eK all os)) := by
 rw [M.aJ A I.alt fun n e h => (I.ids i A n e (h ▸ ho)).2 rfl, I.row]
theorem Mv.LN (M : Mv K o K' o' ops) {id n e : Nat} (h : o' = .os id n e) : o = .os id n e ∨ K.next ≤ id := by
 rcases M.fresh with h1 | ⟨id2, n2, e2, h1, h2⟩
 ·exact .inl (h1 ▸ h)
 ·rw [h1] at h; cases h; exact .inr h2
theorem LH.Kz (I : LH H0 K A os all) (hp : all[i]? = some p) (ho : os[i]? = some o) (M : Mv K o K' o' q.ops) {B : Nat} {L : Hp} (hBf : L.fin) (hB1 : B = A ∨ K'.next ≤ B) (hLn : K'.next ≤ L.next) (hBr : L.obj B = some (bC (eK (all.set i q) (os.set i o')))) (hLo : ∀ j, j < K'.next → j ≠ B → L.obj j = K'.obj j) : LH H0 L B (os.set i o') (all.set i q) := by
 have hA := I.alt
 have hnx := M.nx
 have hlo := I.lo
 have hB0 : H0.next ≤ B := by have := I.nx; rcases hB1 with h | h <;> omega
 have hget : ∀ (j : Nat) (o2 : AV), (os.set i o')[j]? = some o2 → (j = i ∧ o2 = o') ∨ (j ≠ i ∧ os[j]? = some o2) := fun j o2 h => by
  rw [List.getElem?_set] at h
  split at h
  ·rename_i e
   split at h
   ·cases h; exact .inl ⟨e.symm, rfl⟩
   ·cases h
  ·rename_i e; exact .inr ⟨fun h2 => e h2.symm, h⟩
 have hid : ∀ (j id n e : Nat), (os.set i o')[j]? = some (AV.os id n e) → H0.next ≤ id ∧ id ≠ B ∧ id < K'.next := fun j id n e h => by
  rcases hget j _ h with ⟨rfl, h2⟩ | ⟨hne, h2⟩
  ·have hlt := kT M.fin M.res h2.symm
   rcases M.LN h2.symm with h3 | h3
   ·rw [h3] at ho
    obtain ⟨q1, q2⟩ := I.ids j id n e ho
    have := I.I3 ho
    exact ⟨q1, by rcases hB1 with h | h <;> omega, hlt⟩
   ·have hk : K'.obj A = some (bC (eK all os)) := I.Az ho M
    exact ⟨by have := I.nx; omega, by rcases hB1 with h | h <;> omega, hlt⟩
  ·obtain ⟨q1, q2⟩ := I.ids j id n e h2
   have := I.I3 h2
   exact ⟨q1, by rcases hB1 with h | h <;> omega, by omega⟩
 refine ⟨hBf, by have := I.nx; omega, fun j hj => ?_, hB0, by simp [I.len], hBr, fun j o2 p2 h1 h2 => ?_, fun j id n e h => ⟨(hid j id n e h).1, (hid j id n e h).2.1⟩, fun j k id n e n' e' h1 h2 => ?_⟩
 ·have h1 := I.nx
  rw [hLo j (by omega) (by omega), M.aJ j (by omega) fun n e h => by have := (I.ids i j n e (h ▸ ho)).1; omega]
  exact I.old j hj
 ·have hlift : ∀ (id n e : Nat), o2 = .os id n e → L.obj id = K'.obj id := fun id n e h => by
   rw [h] at h1
   obtain ⟨_, q2, q3⟩ := hid j id n e h1
   exact hLo id q3 q2
  rcases hget j _ h1 with ⟨rfl, rfl⟩ | ⟨hne, h3⟩
  ·rw [List.getElem?_set] at h2
   simp only [if_true] at h2
   split at h2
   ·cases h2; exact jP M.res hlift
   ·cases h2
  ·rw [List.getElem?_set, if_neg (fun h => hne h.symm)] at h2
   refine jP (I.ops j o2 p2 h3 h2) fun id n e h => ?_
   rw [hlift id n e h]
   rw [h] at h3
   exact M.aJ id (I.I3 h3) fun n2 e2 h4 => hne (I.dist j i id n e n2 e2 h3 (h4 ▸ ho))
 ·rcases hget j _ h1 with ⟨rfl, h3⟩ | ⟨hne, h3⟩ <;> rcases hget k _ h2 with ⟨rfl, h4⟩ | ⟨hne2, h4⟩
  ·rfl
  ·rcases M.LN h3.symm with h5 | h5
   ·exact absurd (I.dist k j id n' e' n e h4 (h5 ▸ ho)) hne2
   ·have := I.I3 h4; omega
  ·rcases M.LN h4.symm with h5 | h5
   ·exact absurd (I.dist j k id n e n' e' h3 (h5 ▸ ho)) hne
   ·have := I.I3 h3; omega
  ·exact I.dist j k id n e n' e' h3 h4
theorem LH.put (I : LH H0 K A os all) (hp : all[i]? = some p) (ho : os[i]? = some o) (M : Mv K o K' o' q.ops) : LH H0 (K'.set A (bC ((eK all os).set i (dx q o')))) A (os.set i o') (all.set i q) := by
 have hA : A < K'.next := Nat.lt_of_lt_of_le I.alt M.nx
 refine I.Kz hp ho M (x6 M.fin hA _) (.inl rfl) (Nat.le_refl _) (by rw [tU]; exact Hp.bk) fun j _ hj => ?_
 show (if j = A then _ else K'.obj j) = _
 rw [if_neg hj]
theorem LH.more (I : LH H0 K A os all) {L : Hp} {B : Nat} {w : ak} (hw : w.ops = []) (hBf : L.fin) (hB : K.next ≤ B) (hLn : K.next ≤ L.next) (hBr : L.obj B = some (bC (eK (all ++ [w]) (os ++ [AV.nsl])))) (hLo : ∀ j, j < K.next → j ≠ A → L.obj j = K.obj j) : LH H0 L B (os ++ [.nsl]) (all ++ [w]) := by
 have hnx := I.nx
 have hget : ∀ (j : Nat) (o2 : AV), (os ++ [AV.nsl])[j]? = some o2 → os[j]? = some o2 ∨ (j = os.length ∧ o2 = .nsl) := fun j o2 h => by
  rcases Nat.lt_or_ge j os.length with q | q
  ·rw [List.getElem?_append_left q] at h; exact .inl h
  ·rw [List.getElem?_append_right q] at h
   have h2 := (List.getElem?_eq_some_iff.1 h).1
   simp at h2
   have : j - os.length = 0 := by omega
   rw [this] at h
   cases h
   exact .inr ⟨by omega, rfl⟩
 refine ⟨hBf, by omega, fun j hj => by have := I.lo; rw [hLo j (by omega) (by omega), I.old j hj], by have := I.nx; omega, by simp [I.len], hBr, fun j o2 p2 h1 h2 => ?_, fun j id n e h => ?_, fun j k id n e n' e' h1 h2 => ?_⟩
 ·rcases hget j _ h1 with h | ⟨rfl, rfl⟩
  ·have hj := (List.getElem?_eq_some_iff.1 h).1
   rw [List.getElem?_append_left (by have := I.len; omega)] at h2
   exact jP (I.ops j o2 p2 h h2) fun id n e h3 => (by rw [h3] at h; exact hLo id (I.I3 h) (I.ids j id n e h).2)
  ·rw [I.len, List.getElem?_append_right (Nat.le_refl _), Nat.sub_self] at h2
   cases h2
   exact .inl ⟨rfl, by rw [hw]; rfl⟩
 ·rcases hget j _ h with h | ⟨_, h⟩
  ·have := I.I3 h
   exact ⟨(I.ids j id n e h).1, by omega⟩
  ·cases h
 ·rcases hget j _ h1 with h | ⟨_, h⟩
  ·rcases hget k _ h2 with h' | ⟨_, h'⟩
   ·exact I.dist j k id n e n' e' h h'
   ·cases h'
  ·cases h
end
theorem three {K : Hp} (hf : K.fin) {a b c : List Hc} : ((((K.new a).del K.next).new b).del (K.next + 1)).new c = K.bump 2 c := by
 rw [Hp.m4 hf, show ((K.bump 0 a).del K.next).new b = K.bump 1 b from Hp.jT]
 exact Hp.jT
theorem ym {all : List ak} {os : List AV} (h : os.length = all.length) {i : Nat} (hi : i < all.length) : (eK all os)[i]? = some (dx (all.getD i cr) (os.getD i .nsl)) :=
 gm (by rw [List.getD_eq_getElem?_getD, List.getElem?_eq_getElem hi]; rfl) (by rw [List.getD_eq_getElem?_getD, List.getElem?_eq_getElem (by omega)]; rfl)
theorem z6 {l : List Port} (h : l ≠ []) : (l.map Port.av)[(0 : Int).toNat]? = some (.agg (l.headD hZ).cells) := by
 cases l with
 | nil => exact absurd rfl h
 | cons a l => rfl
theorem LH.Ky {H0 K : Hp} {A i : Nat} {os : List AV} {all : List ak} {p q w : ak} {o o' : AV} (I : LH H0 K A os all) (hp : all[i]? = some p) (ho : os[i]? = some o) {K1 : Hp} (M : Mv K o K1 o' q.ops) (hw : w.ops = []) :
  LH H0 ((K1.bump 2 (bC (eK (all ++ [w]) (os ++ [AV.nsl])))).set (K1.next + 2) (bC ((eK (all ++ [w]) (os ++ [AV.nsl])).set i (dx q o')))) (K1.next + 2) ((os ++ [AV.nsl]).set i o') ((all ++ [w]).set i q) := by
 have hi := (List.getElem?_eq_some_iff.1 hp).1
 have hl := I.len
 have J := I.put hp ho M
 have e1 : (os ++ [AV.nsl]).set i o' = os.set i o' ++ [.nsl] := List.set_append_left _ _ (by omega)
 have e2 : (all ++ [w]).set i q = all.set i q ++ [w] := List.set_append_left _ _ hi
 have hz : (eK (all ++ [w]) (os ++ [AV.nsl])).set i (dx q o') = eK (all.set i q ++ [w]) (os.set i o' ++ [.nsl]) := by rw [tU, e1, e2]
 rw [e1, e2]
 have hn : (K1.bump 2 (bC (eK (all ++ [w]) (os ++ [AV.nsl])))).next = K1.next + 3 := rfl
 refine J.more hw (x6 (q7 _ _) (by rw [hn]; omega) _) (show K1.next ≤ K1.next + 2 by omega) (show K1.next ≤ K1.next + 3 by omega) (by rw [hz]; exact Hp.bk) fun j hj hA => ?_
 have hj' : j < K1.next := hj
 show (if j = K1.next + 2 then _ else (K1.bump 2 _).obj j) = if j = A then _ else K1.obj j
 rw [if_neg (by omega), if_neg hA, Hp.kZ hj']
theorem LH.Kx {H0 K K' : Hp} {A i : Nat} {os : List AV} {all : List ak} {p q : ak} {o o' : AV} {ops : List fQ} (I : LH H0 K A os all) (hp : all[i]? = some p) (ho : os[i]? = some o) (M : Mv K o K' o' ops) (hq : q.ops = ops) : LH H0 (K'.set A (bC ((eK all os).set i (dx q o')))) A (os.set i o') (all.set i q) := by
 subst hq; exact I.put hp ho M
theorem LH.Jh {H0 K : Hp} {A i : Nat} {os : List AV} {all : List ak} {p q w : ak} {o o' : AV} {ops : List fQ} (I : LH H0 K A os all) (hp : all[i]? = some p) (ho : os[i]? = some o) {K1 : Hp} (M : Mv K o K1 o' ops) (hw : w.ops = []) (hq : q.ops = ops) :
  LH H0 ((K1.bump 2 (bC (eK (all ++ [w]) (os ++ [AV.nsl])))).set (K1.next + 2) (bC ((eK (all ++ [w]) (os ++ [AV.nsl])).set i (dx q o')))) (K1.next + 2) ((os ++ [AV.nsl]).set i o') ((all ++ [w]).set i q) := by
 subst hq; exact I.Ky hp ho M hw
def KU (H0 : Hp) (all : List ak) (r : AV) (K' : Hp) : Prop := ∃ A os, r = .os A all.length 7 ∧ LH H0 K' A os all
def uV (f : Port) (n : Int) (k : Nat) : fQ := { jx with kind := 4, a := f.reg, b := n, part := k }
def oQ (f : Port) (n : Int) : fQ := { jx with kind := 5, a := f.reg, b := n, part := f.part }
def Jv (f : Port) (x : aS) : ak := cR { cr with name := x.dest, born := true, aI := 1, ins := [{ f with reg := 0 }], outs := [{ f with reg := 0 }] }
def Jw (x : aS) (n : Int) (k : Nat) : Port := ⟨{ eF with name := x.also, num := x.num, ty := 15, ref := x.dest }, n, k⟩
def GX (p : ak) (x : aS) (all : List ak) : ak := { p with ops := p.ops ++ [uV (aP p.outs x.field) p.aI all.length], aI := p.aI + 1, outs := ba (aW p.outs x.field) (Jw x p.aI all.length) }
def GW (p : ak) (x : aS) (all : List ak) : ak := { p with ops := p.ops ++ [oQ (aP p.outs x.field) p.aI], aI := p.aI + 1, outs := ba (aW p.outs x.field) { ((all.getD (aP p.outs x.field).part.toNat cr).outs.headD hZ) with reg := p.aI } }
theorem DP {all : List ak} {i : Nat} {x : aS} {p : ak} (hp : all[i]? = some p) (h : x.kind = 6) : bZ all i x = (all ++ [Jv (aP p.outs x.field) x]).set i (GX p x all) := by
 have hg : all.getD i cr = p := by rw [List.getD_eq_getElem?_getD, hp]; rfl
 unfold bZ
 dsimp only
 rw [hg, if_pos h]; rfl
theorem DO {all : List ak} {i : Nat} {x : aS} {p : ak} (hp : all[i]? = some p) (h : x.kind = 7) : bZ all i x = all.set i (GW p x all) := by
 have hg : all.getD i cr = p := by rw [List.getD_eq_getElem?_getD, hp]; rfl
 unfold bZ
 dsimp only
 rw [hg, if_neg (by omega), if_pos h]; rfl
theorem DL {all : List ak} {i : Nat} {x : aS} {p : ak} (hp : all[i]? = some p) (h6 : x.kind ≠ 6) (h7 : x.kind ≠ 7) : bZ all i x = all.set i (aQ p x) := by
 have hg : all.getD i cr = p := by rw [List.getD_eq_getElem?_getD, hp]; rfl
 unfold bZ
 dsimp only
 rw [hg, if_neg h6, if_neg h7]
theorem uD (H0 K : Hp) (A : Nat) (os : List AV) (all : List ak) (at_ : Nat) (x : aS) (p : ak) (o : AV) (I : LH H0 K A os all) (hp : all[at_]? = some p) (ho : os[at_]? = some o) (hal : all.length ≤ 100) (hl : p.ops.length ≤ 1000) (hou : p.outs.length ≤ 100) (hr : 0 ≤ p.aI ∧ p.aI ≤ 1000) (hk : x.kind = 6 ∨ x.kind = 7) (h7 : x.kind = 7 → 0 ≤ (aP p.outs x.field).part ∧ (aP p.outs x.field).part < (all.length : Int) ∧ (all.getD (aP p.outs x.field).part.toNat cr).outs ≠ []) : oK Tryz.prog 59 [.os A all.length 7, .int .i64 (at_ : Int), x.av, (aP p.outs x.field).av] K (KU H0 (bZ all at_ x)) := by
 have hat := (List.getElem?_eq_some_iff.1 hp).1
 have hln := I.len
 refine oK.aL Tryz.func59 rfl rfl (aF rfl) (aC.seq (aC.region (aB.run II 3 rfl (aB.nil (aC.seq (aC.region (aB.run II 2 rfl (aB.c1 rfl (bV (aF rfl) eN rfl rfl (Int.natCast_nonneg _) (by omega)) (aB.c1 rfl (ja (aF rfl) fJ rfl rfl I.row (fS _ _) rfl (gm hp ho)) (aB.run II 2 rfl (aB.nil (aC.seq (aC.region (aB.run II 3 rfl (aB.nil (aC.seq (aC.region (aB.run II 1 rfl ?_))))))))))))))))))
 refine aB.c1 rfl (db (aF rfl) rfl rfl (A2 (by omega) (by omega))) (aB.run II 2 rfl (aB.nil (aC.seq (aC.region (aB.run II 4 rfl (aB.c1 rfl (aG (aF rfl) qP rfl (gx _ _ (by omega))) (aB.run II 2 rfl (aB.nil (aC.seq (aC.seq (aC.region (aB.run II 3 rfl (aB.nil (aC.cond rfl (fun hc1 => ?_) (fun hc1 => ?_)))))))))))))))
 ·refine aC.seq (aC.region (aB.run II 3 rfl (aB.nil (aC.seq (aC.region (aB.run II 2 rfl (aB.nil (aC.seq (aC.region (aB.run II 6 rfl (aB.c1 rfl (fm (aF rfl) xZ JY rfl rfl) (aB.aK (Kept.slnil 41 5 rfl rfl (Kept.now (aB.c1 rfl (aG (aF rfl) wh rfl (wA { cr with name := x.dest, born := true, aI := 1, ins := [{ (aP p.outs x.field) with reg := 0 }], outs := [{ (aP p.outs x.field) with reg := 0 }] } (.nsl) (by show 1 ≤ 1000; decide) (by show 0 ≤ 100000; decide))) ?_)))))))))))))))
  refine aB.run II 2 rfl (aB.nil (aC.seq (aC.region (aB.run II 9 rfl (aB.c3 rfl (kK (aF rfl) lS jY rfl rfl (I.ops _ _ _ ho hp) (mU _) rfl rfl (List.cons_ne_nil _ _) rfl (by rw [List.length_map]; simp only [List.length_cons, List.length_nil]; omega) (by rw [List.length_map]; simp only [List.length_cons, List.length_nil]; omega)) ?_)))))
  refine aB.run II 2 rfl (aB.nil (aC.seq (aC.region (aB.run II 5 rfl (aB.c1 rfl (aG (aF rfl) qQ rfl (mQ _ _ _ _)) (aB.run II 2 rfl (aB.nil (aC.seq (aC.region (aB.run II 9 rfl (aB.nil (aC.seq (aC.region (aB.run II 3 rfl (aB.c1 rfl (aG (aF rfl) jl rfl (gY (aW p.outs x.field) (Jw x p.aI all.length) (by have := bN p.outs x.field; omega))) ?_)))))))))))))))
  refine aB.run II 2 rfl (aB.nil (aC.seq (aC.drawn mixed rfl (aD.c3 rfl (mV («as» := []) (aF rfl) pB ly rfl rfl rfl (gI rfl) rfl rfl) (aD.run II 1 rfl (aD.c3 rfl (Ew (aF rfl) pB ly rfl rfl (Hp.fH _ (bC [])) (fun _ h => by cases h) rfl rfl ((Hp.ko _ _ (by rw [kz]; have := I.alt; omega)).trans (I.Az ho (Mv.app I.fin (uV (aP p.outs x.field) p.aI all.length)))) (fS _ _) (dQ hln) rfl (by rw [dQ hln]; omega) (by rw [dQ hln]; omega)) ?_))))))
  refine aD.run II 2 rfl (aD.c3 rfl (lZ (aF rfl) pB ly rfl rfl (Hp.fH _ _) (fS _ _) (by simp) rfl rfl rfl (by rw [dQ hln]; simp only [List.length_cons, List.length_nil]; omega) (by rw [dQ hln]; simp only [List.length_cons, List.length_nil]; omega)) ?_)
  refine aD.run II 1 rfl (aD.nil (by kernel_rfl) (Kept.now (aC.seq (aC.aK (Kept.oD rfl (show _ = (jW K o (bC (p.ops.map fQ.av ++ [(uV (aP p.outs x.field) p.aI all.length).av]))).bump 2 (bC (eK (all ++ [Jv (aP p.outs x.field) x]) (os ++ [.nsl]))) from (three (qb I.fin _ _)).trans (congrArg _ (congrArg bC (A6 hln)))) (Kept.now (aC.region (aB.run II 3 rfl (aB.c1 rfl (bV (aF rfl) eN rfl rfl (Int.natCast_nonneg _) (by rw [dQ hln]; simp only [List.length_cons, List.length_nil]; omega)) ?_)))))))))
  refine aB.c1 rfl (lW fJ rfl rfl Hp.dL rfl (fS _ _) rfl (by rw [dQ (by simp [hln])]; simp; omega) rfl) ?_
  exact aB.nil (aC.seq (aC.region (aB.run II 2 rfl (aB.nil (aC.ret (⟨.inr rfl, _, _, ⟨(jW K o (bC (p.ops.map fQ.av ++ [(uV (aP p.outs x.field) p.aI all.length).av]))).next + 2, (os ++ [AV.nsl]).set at_ (.os K.next ((p.ops.map fQ.av).length + 1) 13), (by rw [DP hp (by simpa using hc1), List.length_set, List.length_append, dQ hln, Nat.zero_add all.length]; rfl), (by rw [DP hp (by simpa using hc1)]; exact I.Jh (q := GX p x all) hp ho (Mv.app I.fin (uV (aP p.outs x.field) p.aI all.length)) rfl rfl)⟩, aE.r1 rfl (.tmp rfl .nil), rfl⟩))))))
 ·refine aC.skip (aC.seq (aC.region (aB.run II 9 rfl (aB.c3 rfl (kK (aF rfl) lS jY rfl rfl (I.ops _ _ _ ho hp) (mU _) rfl rfl (List.cons_ne_nil _ _) rfl (by rw [List.length_map]; simp only [List.length_cons, List.length_nil]; omega) (by rw [List.length_map]; simp only [List.length_cons, List.length_nil]; omega)) ?_))))
  refine aB.run II 2 rfl (aB.nil (aC.seq (aC.region (aB.run II 3 rfl (aB.c1 rfl (bV (aF rfl) eN rfl rfl (h7 (by have : x.kind ≠ 6 := (by simpa using hc1); omega)).1 (h7 (by have : x.kind ≠ 6 := (by simpa using hc1); omega)).2.1) ?_)))))
  refine aB.run II 1 rfl (aB.c1 rfl (pX (aF rfl) l8 rfl rfl (I.Az ho (Mv.app I.fin (oQ (aP p.outs x.field) p.aI))) (fS _ _) rfl (ym hln (by have := (h7 (by have : x.kind ≠ 6 := (by simpa using hc1); omega)).2.1; have := (h7 (by have : x.kind ≠ 6 := (by simpa using hc1); omega)).1; omega)) rfl) ?_)
  refine aB.c1 rfl (aH (aF rfl) c9 rfl rfl (by decide) (z6 (h7 (by have : x.kind ≠ 6 := (by simpa using hc1); omega)).2.2) rfl) ?_
  refine aB.run II 3 rfl (aB.nil (aC.seq (aC.region (aB.run II 3 rfl (aB.nil (aC.seq (aC.region (aB.run II 3 rfl (aB.c1 rfl (aG (aF rfl) jl rfl (gY (aW p.outs x.field) { (all.getD (aP p.outs x.field).part.toNat cr).outs.headD hZ with reg := p.aI } (by have := bN p.outs x.field; omega))) ?_)))))))))
  refine aB.run II 2 rfl (aB.nil (aC.seq (aC.region (aB.run II 3 rfl (aB.c1 rfl (bV (aF rfl) eN rfl rfl (Int.natCast_nonneg _) (by omega)) (aB.c1 rfl (lW fJ rfl rfl (I.Az ho (Mv.app I.fin (oQ (aP p.outs x.field) p.aI))) rfl (fS _ _) rfl (by rw [dQ hln]; exact hat) rfl) ?_))))))
  exact aB.nil (aC.seq (aC.region (aB.run II 2 rfl (aB.nil (aC.ret (⟨.inr rfl, _, _, ⟨A, os.set at_ (.os K.next ((p.ops.map fQ.av).length + 1) 13), (by rw [DO hp (by have : x.kind ≠ 6 := (by simpa using hc1); omega), List.length_set]), (by rw [DO hp (by have : x.kind ≠ 6 := (by simpa using hc1); omega)]; exact I.Kx (q := GW p x all) hp ho (Mv.app I.fin (oQ (aP p.outs x.field) p.aI)) rfl)⟩, aE.r1 rfl (.tmp rfl .nil), rfl⟩))))))
/- the document: a step of the parts -/
theorem wg : aa Tryz.prog 57 = true := by kernel_rfl
theorem Cb : aa Tryz.prog 58 = true := by kernel_rfl
theorem Ca : aa Tryz.prog 59 = true := by kernel_rfl
theorem Iu : aa Tryz.prog 60 = true := by kernel_rfl
def xo (x : aS) (n : Int) : fQ := { jx with kind := 7, a := n, dv := x.dv }
theorem Bi {p : ak} {x : aS} (h : x.kind = 9) : aQ p x = { p with ops := p.ops ++ [xo x p.aI], aI := p.aI + 1, outs := ba p.outs (dB x.field x.num x.ty p.aI) } := by unfold aQ; simp [h, xo]
theorem wH {p : ak} {x : aS} (h : x.kind = 10) : aQ p x = { p with outs := aW p.outs x.field } := by unfold aQ; simp [h]
theorem EF (H0 K : Hp) (A : Nat) (os : List AV) (all : List ak) (at_ : Nat) (x : aS) (p : ak) (o : AV) (I : LH H0 K A os all) (hp : all[at_]? = some p) (ho : os[at_]? = some o) (hal : all.length ≤ 100) (hl : p.ops.length ≤ 1000) (hou : p.outs.length ≤ 100) (hr : 0 ≤ p.aI ∧ p.aI ≤ 1000) (hk : 1 ≤ x.kind ∧ x.kind ≤ 10) (hn : x.names.length ≤ 1000) (h5 : x.kind = 5 → 0 ≤ bg (aW p.outs x.field) x.also) (h7 : x.kind = 7 → 0 ≤ (aP p.outs x.field).part ∧ (aP p.outs x.field).part < (all.length : Int) ∧ (all.getD (aP p.outs x.field).part.toNat cr).outs ≠ []) (h8 : x.kind = 8 → (p.outs.map fun y => y.f.name).Nodup ∧ ∀ n ∈ x.names, 0 ≤ bg p.outs n) : oK Tryz.prog 40 [.os A all.length 7, .int .i64 (at_ : Int), x.av] K (KU H0 (bZ all at_ x)) := by
 have hat := (List.getElem?_eq_some_iff.1 hp).1
 have hln := I.len
 refine oK.aL Tryz.func40 rfl rfl (aF rfl) (aC.seq (aC.region (aB.run II 2 rfl (aB.nil (aC.seq (aC.region (aB.run II 2 rfl (aB.c1 rfl (bV (aF rfl) eN rfl rfl (Int.natCast_nonneg _) (by omega)) (aB.c1 rfl (ja (aF rfl) fJ rfl rfl I.row (fS _ _) rfl (gm hp ho)) (aB.run II 2 rfl (aB.nil (aC.seq (aC.region (aB.run II 3 rfl (aB.nil (aC.cI [.h, .s 0, .s 1, .s 5, .b 5, .s 7, .b 7] (fun (_ : Unit) => [(.s 8, .sv (.lp 8 0)), (.b 8, .bx [.v (.str (aP p.outs x.field).f.name), .v (.int .i64 (aP p.outs x.field).f.num), .v (.int .i64 (aP p.outs x.field).f.ty), .v (.str (aP p.outs x.field).f.ref), .v (.bool (aP p.outs x.field).f.rep), .v (.bool (aP p.outs x.field).f.loose), .v (.str (aP p.outs x.field).f.one), .v (.int .i64 (aP p.outs x.field).reg), .v (.int .i64 (aP p.outs x.field).part)])]) (fun (_ : Unit) => True) rfl ?_ ?_))))))))))))))))
 ·refine aC.seq (aC.region (aB.run II 4 rfl (aB.c1 rfl (aG (aF rfl) tB rfl (mP _ _ (by omega))) (aB.run II 1 rfl (aB.nil (aC.seq (aC.region (aB.run II 2 rfl (aB.nil (aC.cond rfl (fun hc1 => ?_) (fun hc1 => ?_)))))))))))
  ·exact aC.region (aB.run II 3 rfl (aB.c1 rfl (aH (aF rfl) c9 rfl rfl (of_decide_eq_true hc1) (gz (of_decide_eq_true hc1)) rfl) (aB.run II 2 rfl (aB.kept (Kept.aJ [.s 8, .b 8, .h, .s 0, .s 1, .s 5, .b 5, .s 7, .b 7] rfl (by decide) (Kept.now ⟨(), trivial, rfl⟩))))))
  ·exact aC.aK (Kept.aJ [.s 8, .b 8, .h, .s 0, .s 1, .s 5, .b 5, .s 7, .b 7] rfl (by decide) (Kept.now (aC.skip ⟨(), trivial, by rw [z7 (of_decide_eq_false hc1)]; rfl⟩)))
 ·rintro _ hF6
  refine aC.cI [.s 0, .s 1] (fun ((o1, K1) : AV × Hp) => [(.s 7, .sv (.lp 7 0)), (.b 7, .bx [.v (.str (aQ p x).name), .v (.sl ((aQ p x).ins.map Port.av)), .v o1, .v (.sl ((aQ p x).outs.map Port.av)), .v (.int .i64 (aQ p x).aI), .v (.sl ((aQ p x).ever.map jj)), .v (.bool (aQ p x).born)]), (.h, .hp K1)]) (fun ((o1, K1) : AV × Hp) => Mv K o K1 o1 (aQ p x).ops ∧ x.kind ≠ 6 ∧ x.kind ≠ 7) rfl ?_ ?_
  ·refine aC.seq (aC.region (aB.run II 2 rfl (aB.nil (aC.blk (aC.seq (aC.seq (aC.region (aB.run II 2 rfl (aB.nil (aC.cond rfl (fun hc2 => ?_) (fun hc2 => ?_)))))))))))
   ·refine aC.skip (aC.az rfl hc2 (aC.region (aB.run II 3 rfl (aB.mo (aF rfl) wg rfl rfl (pO p o x K I.fin (I.ops _ _ _ ho hp) hl hou (.inl (by simpa using hc2))) (fun r1 K1 hP1 => ?_)))))
    obtain ⟨o1, rfl, hM⟩ := hP1
    exact aB.run II 1 rfl (aB.kept (Kept.aJ [.s 7, .b 7, .h, .s 0, .s 1] rfl (by decide) (Kept.now (⟨(o1, _), ⟨hM, by have : x.kind = 1 := (by simpa using hc2); omega, by have : x.kind = 1 := (by simpa using hc2); omega⟩, rfl⟩))))
   ·refine aC.seq (aC.region (aB.run II 2 rfl (aB.nil (aC.cond rfl (fun hc3 => ?_) (fun hc3 => ?_)))))
    ·refine aC.skip (aC.az rfl hc3 (aC.region (aB.run II 3 rfl (aB.mo (aF rfl) wg rfl rfl (pO p o x K I.fin (I.ops _ _ _ ho hp) hl hou (.inr (.inl (by simpa using hc3)))) (fun r2 K2 hP2 => ?_)))))
     obtain ⟨o1, rfl, hM⟩ := hP2
     exact aB.run II 1 rfl (aB.kept (Kept.aJ [.s 7, .b 7, .h, .s 0, .s 1] rfl (by decide) (Kept.now (⟨(o1, _), ⟨hM, by have : x.kind = 2 := (by simpa using hc3); omega, by have : x.kind = 2 := (by simpa using hc3); omega⟩, rfl⟩))))
    ·refine aC.region (aB.run II 2 rfl (aB.nil (aC.cond rfl (fun hc4 => ?_) (fun hc4 => ?_))))
     ·refine aC.region (aB.run II 3 rfl (aB.mo (aF rfl) wg rfl rfl (pO p o x K I.fin (I.ops _ _ _ ho hp) hl hou (.inr (.inr (by simpa using hc4)))) (fun r3 K3 hP3 => ?_)))
      obtain ⟨o1, rfl, hM⟩ := hP3
      exact aB.run II 1 rfl (aB.kept (Kept.aJ [.s 7, .b 7, .h, .s 0, .s 1] rfl (by decide) (Kept.now (⟨(o1, _), ⟨hM, by have : x.kind = 3 := (by simpa using hc4); omega, by have : x.kind = 3 := (by simpa using hc4); omega⟩, rfl⟩))))
     ·refine aC.seq (aC.seq (aC.region (aB.run II 2 rfl (aB.nil (aC.cond rfl (fun hc5 => ?_) (fun hc5 => ?_))))))
      ·refine aC.skip (aC.az rfl hc5 (aC.region (aB.run II 3 rfl (aB.mo (aF rfl) Cb rfl rfl (pM p o x K I.fin (I.ops _ _ _ ho hp) hl hou hr (.inl (by simpa using hc5)) h5) (fun r4 K4 hP4 => ?_)))))
       obtain ⟨o1, rfl, hM⟩ := hP4
       exact aB.run II 1 rfl (aB.kept (Kept.aJ [.s 7, .b 7, .h, .s 0, .s 1] rfl (by decide) (Kept.now (⟨(o1, _), ⟨hM, by have : x.kind = 4 := (by simpa using hc5); omega, by have : x.kind = 4 := (by simpa using hc5); omega⟩, rfl⟩))))
      ·refine aC.region (aB.run II 2 rfl (aB.nil (aC.cond rfl (fun hc6 => ?_) (fun hc6 => ?_))))
       ·refine aC.region (aB.run II 3 rfl (aB.mo (aF rfl) Cb rfl rfl (pM p o x K I.fin (I.ops _ _ _ ho hp) hl hou hr (.inr (by simpa using hc6)) h5) (fun r5 K5 hP5 => ?_)))
        obtain ⟨o1, rfl, hM⟩ := hP5
        exact aB.run II 1 rfl (aB.kept (Kept.aJ [.s 7, .b 7, .h, .s 0, .s 1] rfl (by decide) (Kept.now (⟨(o1, _), ⟨hM, by have : x.kind = 5 := (by simpa using hc6); omega, by have : x.kind = 5 := (by simpa using hc6); omega⟩, rfl⟩))))
       ·refine aC.seq (aC.seq (aC.region (aB.run II 2 rfl (aB.nil (aC.cond rfl (fun hc7 => ?_) (fun hc7 => ?_))))))
        ·refine aC.skip (aC.az rfl hc7 (aC.seq (aC.region (aB.run II 4 rfl (aB.mo (aF rfl) Ca rfl rfl (uD H0 K A os all at_ x p o I hp ho hal hl hou hr (.inl (by simpa using hc7)) h7) (fun r6 K6 hP6 => ?_))))))
         obtain ⟨A1, za, rfl, hL⟩ := hP6
         exact aB.run II 1 rfl (aB.nil (aC.ret (⟨.inr rfl, _, _, ⟨A1, za, rfl, hL⟩, aE.r1 rfl (.tmp rfl .nil), rfl⟩)))
        ·refine aC.region (aB.run II 2 rfl (aB.nil (aC.cond rfl (fun hc8 => ?_) (fun hc8 => ?_))))
         ·refine aC.seq (aC.region (aB.run II 4 rfl (aB.mo (aF rfl) Ca rfl rfl (uD H0 K A os all at_ x p o I hp ho hal hl hou hr (.inr (by simpa using hc8)) h7) (fun r7 K7 hP7 => ?_))))
          obtain ⟨A1, za, rfl, hL⟩ := hP7
          exact aB.run II 1 rfl (aB.nil (aC.ret (⟨.inr rfl, _, _, ⟨A1, za, rfl, hL⟩, aE.r1 rfl (.tmp rfl .nil), rfl⟩)))
         ·refine aC.seq (aC.region (aB.run II 2 rfl (aB.nil (aC.cond rfl (fun hc9 => ?_) (fun hc9 => ?_)))))
          ·refine aC.region (aB.run II 2 rfl (aB.mo (aF rfl) Iu rfl rfl (BJ p o x K I.fin (I.ops _ _ _ ho hp) hl hou hn (by simpa using hc9) (h8 (by simpa using hc9)).1 (h8 (by simpa using hc9)).2) (fun r8 K8 hP8 => ?_)))
           obtain ⟨o1, rfl, hM⟩ := hP8
           exact aB.run II 1 rfl (aB.kept (Kept.aJ [.s 7, .b 7, .h, .s 0, .s 1] rfl (by decide) (Kept.now (⟨(o1, _), ⟨hM, by have : x.kind = 8 := (by simpa using hc9); omega, by have : x.kind = 8 := (by simpa using hc9); omega⟩, rfl⟩))))
          ·refine aC.seq (aC.region (aB.c1 rfl (db (aF rfl) rfl rfl rfl)  (aB.run II 1 rfl (aB.nil (aC.cond rfl (fun hc10 => ?_) (fun hc10 => ?_))))))
           ·refine aC.seq (aC.region (aB.run II 3 rfl (aB.nil (aC.seq (aC.region (aB.run II 7 rfl (aB.c3 rfl (kK (aF rfl) lS jY rfl rfl (I.ops _ _ _ ho hp) (mU _) rfl rfl (List.cons_ne_nil _ _) rfl (by rw [List.length_map]; simp only [List.length_cons, List.length_nil]; omega) (by rw [List.length_map]; simp only [List.length_cons, List.length_nil]; omega)) ?_)))))))
            refine aB.run II 2 rfl (aB.nil (aC.seq (aC.region (aB.run II 1 rfl (aB.c1 rfl (db (aF rfl) rfl rfl (A2 (by omega) (by omega))) (aB.run II 2 rfl (aB.nil (aC.drawn mixed rfl (aD.run II 9 rfl (aD.c1 rfl (aG (aF rfl) qQ rfl (mQ _ _ _ _)) (aD.c1 rfl (aG (aF rfl) jl rfl (gY p.outs (dB x.field x.num x.ty p.aI) (by omega))) (aD.run II 2 rfl (aD.nil (by kernel_rfl) (Kept.aJ [.s 7, .b 7, .h, .s 0, .s 1] rfl (by decide) (Kept.now ?_)))))))))))))))
            exact ⟨(.os K.next ((p.ops.map fQ.av).length + 1) 13, jW K o (bC (p.ops.map fQ.av ++ [(xo x p.aI).av]))), ⟨by rw [Bi (by simpa using hc10)]; exact Mv.app I.fin (xo x p.aI), by have : x.kind = 9 := (by simpa using hc10); omega, by have : x.kind = 9 := (by simpa using hc10); omega⟩, by rw [Bi (by simpa using hc10)]; rfl⟩
           ·exact aC.region (aB.run II 4 rfl (aB.c1 rfl (aG (aF rfl) qP rfl (gx _ _ (by omega))) (aB.run II 2 rfl (aB.kept (Kept.aJ [.s 7, .b 7, .h, .s 0, .s 1] rfl (by decide) (Kept.now (⟨(o, K), ⟨by rw [wH (show x.kind = 10 by have a1 : x.kind ≠ 1 := (by simpa using hc2); have a2 : x.kind ≠ 2 := (by simpa using hc3); have a3 : x.kind ≠ 3 := (by simpa using hc4); have a4 : x.kind ≠ 4 := (by simpa using hc5); have a5 : x.kind ≠ 5 := (by simpa using hc6); have a6 : x.kind ≠ 6 := (by simpa using hc7); have a7 : x.kind ≠ 7 := (by simpa using hc8); have a8 : x.kind ≠ 8 := (by simpa using hc9); have a9 : x.kind ≠ 9 := (by simpa using hc10); omega)]; exact Mv.same I.fin (show fK K o 13 (p.ops.map fQ.av) from I.ops _ _ _ ho hp), by have := (show x.kind = 10 by have a1 : x.kind ≠ 1 := (by simpa using hc2); have a2 : x.kind ≠ 2 := (by simpa using hc3); have a3 : x.kind ≠ 3 := (by simpa using hc4); have a4 : x.kind ≠ 4 := (by simpa using hc5); have a5 : x.kind ≠ 5 := (by simpa using hc6); have a6 : x.kind ≠ 6 := (by simpa using hc7); have a7 : x.kind ≠ 7 := (by simpa using hc8); have a8 : x.kind ≠ 8 := (by simpa using hc9); have a9 : x.kind ≠ 9 := (by simpa using hc10); omega); omega, by have := (show x.kind = 10 by have a1 : x.kind ≠ 1 := (by simpa using hc2); have a2 : x.kind ≠ 2 := (by simpa using hc3); have a3 : x.kind ≠ 3 := (by simpa using hc4); have a4 : x.kind ≠ 4 := (by simpa using hc5); have a5 : x.kind ≠ 5 := (by simpa using hc6); have a6 : x.kind ≠ 6 := (by simpa using hc7); have a7 : x.kind ≠ 7 := (by simpa using hc8); have a8 : x.kind ≠ 8 := (by simpa using hc9); have a9 : x.kind ≠ 9 := (by simpa using hc10); omega); omega⟩, by rw [wH (show x.kind = 10 by have a1 : x.kind ≠ 1 := (by simpa using hc2); have a2 : x.kind ≠ 2 := (by simpa using hc3); have a3 : x.kind ≠ 3 := (by simpa using hc4); have a4 : x.kind ≠ 4 := (by simpa using hc5); have a5 : x.kind ≠ 5 := (by simpa using hc6); have a6 : x.kind ≠ 6 := (by simpa using hc7); have a7 : x.kind ≠ 7 := (by simpa using hc8); have a8 : x.kind ≠ 8 := (by simpa using hc9); have a9 : x.kind ≠ 9 := (by simpa using hc10); omega)]; rfl⟩)))))))
  ·rintro ⟨o1, K1⟩ hF25
   refine aC.seq (aC.region (aB.run II 3 rfl (aB.c1 rfl (bV (aF rfl) eN rfl rfl (Int.natCast_nonneg _) (by omega)) (aB.c1 rfl (lW fJ rfl rfl (I.Az ho hF25.1) rfl (fS _ _) rfl (by rw [dQ hln]; exact hat) rfl) ?_))))
   exact aB.nil (aC.seq (aC.region (aB.run II 2 rfl (aB.nil (aC.ret (⟨.inr rfl, _, _, ⟨A, os.set at_ o1, (by rw [DL hp hF25.2.1 hF25.2.2, List.length_set]), (by rw [DL hp hF25.2.1 hF25.2.2]; exact I.put (q := aQ p x) hp ho hF25.1)⟩, aE.r1 rfl (.tmp rfl .nil), rfl⟩))))))
open Go Go.RowKit
/- Plain laws: a step of a part is the step of its message. No condition. -/
structure bz (names : List aw) (aI : Int) (l : List Port) : Prop where
 reg : ∀ x ∈ l, 0 ≤ x.reg ∧ x.reg < aI
 dist : (l.map (·.reg)).Nodup
 part : ∀ x ∈ l, (x.f.ty = 15 → ∃ j : Nat, x.part = (j : Int) ∧ names[j]? = some x.f.ref) ∧ (x.f.ty ≠ 15 → x.part = -1)
theorem Fit.bW {names : List aw} {p : ak} {m : aT} (h : Fit names p m) : bz names p.aI p.outs := ⟨h.reg, h.dist, h.part⟩
theorem bz.fit {names : List aw} {p : ak} {m : aT} (h : bz names p.aI p.outs) (hr : 0 ≤ p.aI) (ho : p.outs.map (·.f) = m.fields) : Fit names p m := ⟨hr, ho, h.reg, h.dist, h.part⟩
section
variable {names : List aw} {aI : Int} {l : List Port}
theorem bz.mono {regs' : Int} (h : bz names aI l) (hr : aI ≤ regs') : bz names regs' l := ⟨fun x hx => by have := h.reg x hx; omega, h.dist, h.part⟩
theorem bz.fB (h : bz names aI l) (n : aw) : bz names aI (aW l n) := by
 have hs : ∀ x ∈ aW l n, x ∈ l := fun x hx => (List.mem_filter.1 hx).1
 exact ⟨fun x hx => h.reg x (hs x hx), (List.Sublist.map _ List.filter_sublist).nodup h.dist, fun x hx => h.part x (hs x hx)⟩
theorem bz.with (h : bz names aI l) {x : Port} (h1 : 0 ≤ x.reg ∧ x.reg < aI) (h2 : x.reg ∉ l.map (·.reg)) (h3 : (x.f.ty = 15 → ∃ j : Nat, x.part = (j : Int) ∧ names[j]? = some x.f.ref) ∧ (x.f.ty ≠ 15 → x.part = -1)) : bz names aI (ba l x) := by
 refine ⟨fun y hy => ?_, ?_, fun y hy => ?_⟩
 ·rcases qx hy with rfl | hy
  ·exact h1
  ·exact h.reg y hy
 ·rw [((vW l x).map _).nodup_iff]
  exact List.nodup_cons.2 ⟨h2, h.dist⟩
 ·rcases qx hy with rfl | hy
  ·exact h3
  ·exact h.part y hy
theorem bz.new (h : bz names aI l) {n : Int} (hn : aI ≤ n) : n ∉ l.map (·.reg) := by
 intro hx
 obtain ⟨y, hy, e⟩ := List.mem_map.1 hx
 have := h.reg y hy
 omega
theorem bz.back (h : bz names aI l) (hu : (l.map (fun x => x.f.name)).Nodup) {f : Port} (hf : f ∈ l) : f.reg ∉ (aW l f.f.name).map (·.reg) := by
 intro hx
 obtain ⟨y, hy, e⟩ := List.mem_map.1 hx
 obtain ⟨hy1, hy2⟩ := List.mem_filter.1 hy
 obtain ⟨i, hi⟩ := List.mem_iff_getElem?.1 hy1
 obtain ⟨j, hj⟩ := List.mem_iff_getElem?.1 hf
 have hi' := (List.getElem?_eq_some_iff.1 hi)
 have hj' := (List.getElem?_eq_some_iff.1 hj)
 obtain ⟨hil, rfl⟩ := hi'
 obtain ⟨hjl, rfl⟩ := hj'
 have hp : l.Pairwise fun a b => a.reg ≠ b.reg := List.pairwise_map.1 h.dist
 by_cases hij : i = j
 ·subst hij; simp at hy2
 ·rcases Nat.lt_or_gt_of_ne hij with q | q
  ·exact List.pairwise_iff_getElem.1 hp i j hil hjl q e
  ·exact List.pairwise_iff_getElem.1 hp j i hjl hil q e.symm
end
/-! ### the fields -/
theorem gU (l : List ag) : bE l [] = l := by
 unfold bE
 exact List.filter_eq_self.2 fun a _ => by simp
theorem fA (l : List ag) (n : aw) : bE l [n] = l.filter fun f => !(f.name == n) := by
 unfold bE
 congr 1
 funext f
 simp
theorem rz (l : List ag) (n k : aw) : bE l [n, k] = (l.filter fun f => !(f.name == n)).filter fun f => !(f.name == k) := by
 unfold bE
 rw [List.filter_filter]
 congr 1
 funext f
 simp [Bool.and_comm]
theorem fy {l base : List ag} {x : ag} (hb : cy (·.num) base) (hp : l.Perm (x :: base)) (hs : cy (·.num) (bL (fun y x : ag => decide (y.num > x.num)) l)) :
  bL (fun y x : ag => decide (y.num > x.num)) l = c6 (fun y : ag => decide (y.num > x.num)) x base := by
 have hn : l.Pairwise fun a b => a.num ≠ b.num := ((fx _ l).pairwise_iff (fun h e => h e.symm)).1 hs.ne
 have hn2 : (x :: base).Pairwise fun a b => a.num ≠ b.num := (hp.pairwise_iff (fun h e => h e.symm)).1 hn
 have hx := (List.pairwise_cons.1 hn2).1
 have hr : cy (·.num) (c6 (fun y : ag => decide (y.num > x.num)) x base) := hb.ins (k := fun f : ag => f.num) fun y hy e => hx y hy e.symm
 exact Dt hr (hp.trans (eD _ x base).symm)
theorem CN {l base : List ag} {x y : ag} (hb : cy (·.num) base) (hp : l.Perm (y :: x :: base)) (hs : cy (·.num) (bL (fun y x : ag => decide (y.num > x.num)) l)) :
  cy (·.num) (c6 (fun y : ag => decide (y.num > x.num)) x base) := by
 have hn : l.Pairwise fun a b => a.num ≠ b.num := ((fx _ l).pairwise_iff (fun h e => h e.symm)).1 hs.ne
 have hn2 : (y :: x :: base).Pairwise fun a b => a.num ≠ b.num := (hp.pairwise_iff (fun h e => h e.symm)).1 hn
 have hx := (List.pairwise_cons.1 (List.pairwise_cons.1 hn2).2).1
 exact hb.ins (k := fun f : ag => f.num) fun y hy e => hx y hy e.symm
theorem wy {x : aS} (h1 : x.kind ≠ 1) (h3 : x.kind ≠ 3) (h8 : x.kind ≠ 8) (f : ag) : x.changed f = f := by
 unfold aS.changed
 rw [if_neg h8]
 rw [if_neg h1, if_neg h3]
 split <;> rfl
theorem cz {x : aS} (h1 : x.kind ≠ 1) (h3 : x.kind ≠ 3) (h8 : x.kind ≠ 8) (l : List ag) : l.map x.changed = l := by
 conv => rhs; rw [← List.map_id l]
 exact List.map_congr_left fun f _ => wy h1 h3 h8 f
theorem oB {x : aS} (h8 : x.kind ≠ 8) {f : ag} (h : f.name ≠ x.field) : x.changed f = f := by
 unfold aS.changed
 rw [if_neg h8, if_neg h]
/- Plain laws: a step of a part is the step of its message: those that leave the other parts alone. No condition. -/
def aS.dr (s : aN) (m : aT) (x : aS) : List ag := (bE m.fields x.goes).map x.changed ++ x.comes s (m.aR x.field)
def I5 : ag → ag → Bool := fun y x => decide (y.num > x.num)
theorem Ao {names : List aw} {s t : aN} {x : aS} {m : aT} {at_ : Nat} (A : cJ s x t m at_) {p : ak} (hF : Fit names p m) (h6 : x.kind ≠ 6) (h7 : x.kind ≠ 7) (hs : cy (·.num) (bL I5 (x.dr s m))) :
  (aQ p x).outs.map (·.f) = bL I5 (x.dr s m) ∧ bz names (aQ p x).aI (aQ p x).outs ∧ p.aI ≤ (aQ p x).aI := by
 have hm : m ∈ s.msgs := List.mem_of_getElem? A.eq
 have hfn := A.fP.fn m hm
 have hfr := A.fP.fr m hm
 have hnames : (p.outs.map (fun y => y.f.name)).Nodup := by
  have : p.outs.map (fun y => y.f.name) = (p.outs.map (·.f)).map (·.name) := by rw [List.map_map]; rfl
  rw [this, hF.outs]; exact hfn
 have hk : 1 ≤ x.kind ∧ x.kind ≤ 10 := by
  have := A.rt
  simp only [aS.right, Bool.and_eq_true, decide_eq_true_eq] at this
  obtain ⟨⟨⟨⟨⟨⟨⟨⟨⟨⟨q1, q2⟩, _⟩, _⟩, _⟩, _⟩, _⟩, _⟩, _⟩, _⟩, _⟩ := this
  exact ⟨q1, q2⟩
 have hport : m.eU x.field = true → aP p.outs x.field ∈ p.outs ∧ (aP p.outs x.field).f = m.aR x.field ∧ (aP p.outs x.field).f.name = x.field := fun h => by
  have hh := fL h
  exact fY hF.outs ⟨_, hh.1, hh.2⟩
 have hback : m.eU x.field = true → (aP p.outs x.field).reg ∉ (aW p.outs x.field).map (·.reg) := fun h => by
  obtain ⟨q1, q2, q3⟩ := hport h
  have := hF.bW.back hnames q1
  rwa [q3] at this
 have h0 := hF.rn
 have : x.kind = 1 ∨ x.kind = 2 ∨ x.kind = 3 ∨ x.kind = 4 ∨ x.kind = 5 ∨ x.kind = 8 ∨ x.kind = 9 ∨ x.kind = 10 := by omega
 rcases this with h | h | h | h | h | h | h | h
 ·have hhas : m.eU x.field = true := by have := A.has; simpa [aS.bu, h] using this
  obtain ⟨q1, q2, q3⟩ := hport hhas
  have r1 := hF.reg _ q1
  have r2 := hF.part _ q1
  obtain ⟨f1, f2⟩ := fL hhas
  have ef : x.dr s m = m.fields.map x.changed := by simp [aS.dr, aS.goes, aS.comes, h, gU]
  have ec : x.changed (m.aR x.field) = { m.aR x.field with name := x.dest } := by simp [aS.changed, h, f2]
  have hp := yB (·.name) hfn f1 (g := x.changed) fun y _ hy => oB (by omega) (by rw [f2] at hy; exact hy)
  rw [ec, f2, ← ef] at hp
  refine ⟨?_, ?_, by simp [aQ, h] <;> omega⟩
  ·simp only [aQ, h, if_true]
   rw [eC, cl, hF.outs, q2]
   exact (fy (hfr.filter _) hp hs).symm
  ·simp only [aQ, h, if_true]
   exact (hF.bW.fB x.field).with r1 (hback hhas) r2
 ·have hhas : m.eU x.field = true := by have := A.has; simpa [aS.bu, h] using this
  obtain ⟨q1, q2, q3⟩ := hport hhas
  have r1 := hF.reg _ q1
  have r2 := hF.part _ q1
  have ef : x.dr s m = (m.fields.filter fun f => !(f.name == x.field)) ++ [{ m.aR x.field with num := x.num }] := by
   simp only [aS.dr, aS.goes, aS.comes, h]
   simp only [show ¬ (2 : Int) = 1 by decide, if_true, true_or, fA]
   rw [cz (by omega) (by omega) (by omega)]
  have hp : (x.dr s m).Perm ({ m.aR x.field with num := x.num } :: m.fields.filter fun f => !(f.name == x.field)) := by rw [ef]; exact List.perm_append_comm
  refine ⟨?_, ?_, by simp [aQ, h] <;> omega⟩
  ·simp only [aQ, h, show ¬ (2 : Int) = 1 by decide, if_false, if_true]
   rw [eC, cl, hF.outs, q2]
   exact (fy (hfr.filter _) hp hs).symm
  ·simp only [aQ, h, show ¬ (2 : Int) = 1 by decide, if_false, if_true]
   exact (hF.bW.fB x.field).with r1 (hback hhas) r2
 ·have hhas : m.eU x.field = true := by have := A.has; simpa [aS.bu, h] using this
  obtain ⟨q1, q2, q3⟩ := hport hhas
  have r1 := hF.reg _ q1
  have r2 := hF.part _ q1
  obtain ⟨f1, f2⟩ := fL hhas
  have hty : (m.aR x.field).ty ≠ 15 ∧ x.ty ≠ 15 := by
   have ha := A.ask
   have ht := A.rt
   simp only [aS.asked, h, if_true, Bool.and_eq_true, decide_eq_true_eq] at ha
   simp only [aS.right, Bool.and_eq_true, aS.typed, h, if_true] at ht
   have hw : cK x.ty = true := ht.1.1.2
   simp only [cK, Bool.or_eq_true, Bool.and_eq_true, decide_eq_true_eq] at hw
   omega
  have ef : x.dr s m = m.fields.map x.changed := by simp [aS.dr, aS.goes, aS.comes, h, gU]
  have ec : x.changed (m.aR x.field) = { m.aR x.field with ty := x.ty } := by simp [aS.changed, h, f2]
  have hp := yB (·.name) hfn f1 (g := x.changed) fun y _ hy => oB (by omega) (by rw [f2] at hy; exact hy)
  rw [ec, f2, ← ef] at hp
  have hpt := (hF.part _ q1).2 (by rw [q2]; exact hty.1)
  refine ⟨?_, ?_, by simp [aQ, h] <;> omega⟩
  ·simp only [aQ, h, show ¬ (3 : Int) = 1 by decide, show ¬ (3 : Int) = 2 by decide, if_false, if_true]
   rw [eC, cl, hF.outs, q2]
   exact (fy (hfr.filter _) hp hs).symm
  ·simp only [aQ, h, show ¬ (3 : Int) = 1 by decide, show ¬ (3 : Int) = 2 by decide, if_false, if_true]
   exact (hF.bW.fB x.field).with r1 (hback hhas) ⟨fun e => absurd e hty.2, fun _ => hpt⟩
 ·have hhas : m.eU x.field = true := by have := A.has; simpa [aS.bu, h] using this
  obtain ⟨q1, q2, q3⟩ := hport hhas
  have r1 := hF.reg _ q1
  have r2 := hF.part _ q1
  have ef : x.dr s m = (m.fields.filter fun f => !(f.name == x.field)) ++ [{ eF with name := x.dest, num := x.num, ty := 3 }, { eF with name := x.also, num := x.other, ty := 3 }] := by
   simp only [aS.dr, aS.goes, aS.comes, h]
   simp only [show ¬ (4 : Int) = 2 by decide, if_false, if_true, true_or, or_true, fA]
   rw [cz (by omega) (by omega) (by omega)]
  have hp : (x.dr s m).Perm ({ eF with name := x.also, num := x.other, ty := 3 } :: { eF with name := x.dest, num := x.num, ty := 3 } :: m.fields.filter fun f => !(f.name == x.field)) := by
   rw [ef]
   exact List.perm_append_comm.trans (List.Perm.swap _ _ _)
  have hr := CN (hfr.filter _) hp hs
  have hp2 := hp.trans ((eD (fun y : ag => decide (y.num > x.num)) { eF with name := x.dest, num := x.num, ty := 3 } (m.fields.filter fun f => !(f.name == x.field))).symm.cons { eF with name := x.also, num := x.other, ty := 3 })
  refine ⟨?_, ?_, by simp [aQ, h] <;> omega⟩
  ·simp only [aQ, h, show ¬ (4 : Int) = 1 by decide, show ¬ (4 : Int) = 2 by decide, show ¬ (4 : Int) = 3 by decide, if_false, if_true]
   rw [eC, eC, cl, hF.outs]
   exact (fy hr hp2 hs).symm
  ·simp only [aQ, h, show ¬ (4 : Int) = 1 by decide, show ¬ (4 : Int) = 2 by decide, show ¬ (4 : Int) = 3 by decide, if_false, if_true]
   have hw := hF.bW.fB x.field
   have g1 : bz names (p.aI + 1) (ba (aW p.outs x.field) (dB x.dest x.num 3 p.aI)) := (hw.mono (by omega)).with ⟨h0, by show p.aI < p.aI + 1; omega⟩ (hw.new (Int.le_refl _)) ⟨fun e => absurd (show (3 : Int) = 15 from e) (by decide), fun _ => rfl⟩
   exact (g1.mono (by omega)).with ⟨by show 0 ≤ p.aI + 1; omega, by show p.aI + 1 < p.aI + 2; omega⟩ (g1.new (Int.le_refl _)) ⟨fun e => absurd (show (3 : Int) = 15 from e) (by decide), fun _ => rfl⟩
 ·have hhas : m.eU x.field = true ∧ m.eU x.also = true := by have := A.has; simpa [aS.bu, h] using this
  obtain ⟨q1, q2, q3⟩ := hport hhas.1
  have ef : x.dr s m = ((m.fields.filter fun f => !(f.name == x.field)).filter fun f => !(f.name == x.also)) ++ [{ eF with name := x.dest, num := x.num, ty := 4 }] := by
   simp only [aS.dr, aS.goes, aS.comes, h]
   simp only [show ¬ (5 : Int) = 2 by decide, show ¬ (5 : Int) = 4 by decide, show ¬ (5 : Int) = 6 by decide, show ¬ (5 : Int) = 7 by decide, show ¬ (5 : Int) = 10 by decide, or_false, false_or, if_false, if_true, rz]
   rw [cz (by omega) (by omega) (by omega)]
  have hp : (x.dr s m).Perm ({ eF with name := x.dest, num := x.num, ty := 4 } :: ((m.fields.filter fun f => !(f.name == x.field)).filter fun f => !(f.name == x.also))) := by rw [ef]; exact List.perm_append_comm
  refine ⟨?_, ?_, by simp [aQ, h] <;> omega⟩
  ·simp only [aQ, h, show ¬ (5 : Int) = 1 by decide, show ¬ (5 : Int) = 2 by decide, show ¬ (5 : Int) = 3 by decide, show ¬ (5 : Int) = 4 by decide, if_false, if_true]
   rw [eC, cl, cl, hF.outs]
   exact (fy ((hfr.filter _).filter _) hp hs).symm
  ·simp only [aQ, h, show ¬ (5 : Int) = 1 by decide, show ¬ (5 : Int) = 2 by decide, show ¬ (5 : Int) = 3 by decide, show ¬ (5 : Int) = 4 by decide, if_false, if_true]
   have hw := (hF.bW.fB x.field).fB x.also
   exact (hw.mono (by omega)).with ⟨h0, by show p.aI < p.aI + 1; omega⟩ (hw.new (Int.le_refl _)) ⟨fun e => absurd (show (4 : Int) = 15 from e) (by decide), fun _ => rfl⟩
 ·have ef : x.dr s m = m.fields.map x.changed := by simp [aS.dr, aS.goes, aS.comes, h, gU]
  have hnum : ∀ f, (x.changed f).num = f.num ∧ (x.changed f).ty = f.ty ∧ (x.changed f).ref = f.ref := fun f => by
   unfold aS.changed
   rw [if_pos h]
   split <;> exact ⟨rfl, rfl, rfl⟩
  have eo : (aQ p x).outs = p.outs.map fun y => { y with f := x.changed y.f } := by
   simp only [aQ, h, show ¬ (8 : Int) = 1 by decide, show ¬ (8 : Int) = 2 by decide, show ¬ (8 : Int) = 3 by decide, show ¬ (8 : Int) = 4 by decide, show ¬ (8 : Int) = 5 by decide, if_false, if_true]
   refine List.map_congr_left fun y _ => ?_
   unfold aS.changed
   rw [if_pos h]
   split <;> rfl
  have er : (aQ p x).aI = p.aI := by
   simp only [aQ, h, show ¬ (8 : Int) = 1 by decide, show ¬ (8 : Int) = 2 by decide, show ¬ (8 : Int) = 3 by decide, show ¬ (8 : Int) = 4 by decide, show ¬ (8 : Int) = 5 by decide, if_false, if_true]
  have hr : cy (·.num) (m.fields.map x.changed) := List.pairwise_map.2 (hfr.imp fun {a b} hab => by
   show (x.changed a).num < (x.changed b).num
   rw [(hnum a).1, (hnum b).1]; exact hab)
  refine ⟨?_, ?_, by rw [er]; omega⟩
  ·rw [eo, ef]
   have e2 : (p.outs.map fun y => { y with f := x.changed y.f }).map (·.f) = m.fields.map x.changed := by
    rw [← hF.outs, List.map_map, List.map_map]; rfl
   rw [e2]
   exact (ki (k := fun f : ag => f.num) hr).symm
  ·rw [eo, er]
   refine ⟨fun y hy => ?_, ?_, fun y hy => ?_⟩
   ·obtain ⟨z, hz, rfl⟩ := List.mem_map.1 hy
    exact hF.reg z hz
   ·rw [List.map_map]; exact hF.dist
   ·obtain ⟨z, hz, rfl⟩ := List.mem_map.1 hy
    have := hF.part z hz
    show ((x.changed z.f).ty = 15 → _) ∧ ((x.changed z.f).ty ≠ 15 → _)
    rw [(hnum z.f).2.1, (hnum z.f).2.2]
    exact this
 ·have ef : x.dr s m = m.fields ++ [{ eF with name := x.field, num := x.num, ty := x.ty }] := by
   simp only [aS.dr, aS.goes, aS.comes, h]
   simp only [show ¬ (9 : Int) = 2 by decide, show ¬ (9 : Int) = 4 by decide, show ¬ (9 : Int) = 5 by decide, show ¬ (9 : Int) = 6 by decide, show ¬ (9 : Int) = 7 by decide, show ¬ (9 : Int) = 10 by decide, or_false, if_false, if_true, gU]
   rw [cz (by omega) (by omega) (by omega)]
  have hp : (x.dr s m).Perm ({ eF with name := x.field, num := x.num, ty := x.ty } :: m.fields) := by rw [ef]; exact List.perm_append_comm
  have hty : x.ty ≠ 15 := by
   have ht := A.rt
   simp only [aS.right, Bool.and_eq_true, aS.typed, h, show ¬ (9 : Int) = 3 by decide, if_false, if_true] at ht
   have hw := ht.1.1.2
   intro e
   rw [e] at hw
   exact absurd hw (by decide)
  refine ⟨?_, ?_, by simp [aQ, h] <;> omega⟩
  ·simp only [aQ, h, show ¬ (9 : Int) = 1 by decide, show ¬ (9 : Int) = 2 by decide, show ¬ (9 : Int) = 3 by decide, show ¬ (9 : Int) = 4 by decide, show ¬ (9 : Int) = 5 by decide, show ¬ (9 : Int) = 8 by decide, if_false, if_true]
   rw [eC, hF.outs]
   exact (fy hfr hp hs).symm
  ·simp only [aQ, h, show ¬ (9 : Int) = 1 by decide, show ¬ (9 : Int) = 2 by decide, show ¬ (9 : Int) = 3 by decide, show ¬ (9 : Int) = 4 by decide, show ¬ (9 : Int) = 5 by decide, show ¬ (9 : Int) = 8 by decide, if_false, if_true]
   exact (hF.bW.mono (by omega)).with ⟨h0, by show p.aI < p.aI + 1; omega⟩ (hF.bW.new (Int.le_refl _)) ⟨fun e => absurd e hty, fun _ => rfl⟩
 ·have ef : x.dr s m = m.fields.filter fun f => !(f.name == x.field) := by
   simp only [aS.dr, aS.goes, aS.comes, h]
   simp only [show ¬ (10 : Int) = 2 by decide, show ¬ (10 : Int) = 4 by decide, show ¬ (10 : Int) = 5 by decide, show ¬ (10 : Int) = 6 by decide, show ¬ (10 : Int) = 7 by decide, show ¬ (10 : Int) = 9 by decide, or_true, if_false, if_true, fA, List.append_nil]
   rw [cz (by omega) (by omega) (by omega)]
  refine ⟨?_, ?_, by simp [aQ, h] <;> omega⟩
  ·simp only [aQ, h, show ¬ (10 : Int) = 1 by decide, show ¬ (10 : Int) = 2 by decide, show ¬ (10 : Int) = 3 by decide, show ¬ (10 : Int) = 4 by decide, show ¬ (10 : Int) = 5 by decide, show ¬ (10 : Int) = 8 by decide, show ¬ (10 : Int) = 9 by decide, if_false]
   rw [cl, hF.outs, ef]
   exact (ki (k := fun f : ag => f.num) (hfr.filter _)).symm
  ·simp only [aQ, h, show ¬ (10 : Int) = 1 by decide, show ¬ (10 : Int) = 2 by decide, show ¬ (10 : Int) = 3 by decide, show ¬ (10 : Int) = 4 by decide, show ¬ (10 : Int) = 5 by decide, show ¬ (10 : Int) = 8 by decide, show ¬ (10 : Int) = 9 by decide, if_false]
   exact hF.bW.fB x.field
/- Plain laws: the parts are the messages behind a step too: steps that make no message, and take none away. No condition. -/
theorem jN {names : List aw} {s : aw} {k : Nat} (hk : names[k]? = some s) (hu : ∀ j, names[j]? = some s → j = k) : eM names s = k := by
 obtain ⟨hlt, hs⟩ := List.getElem?_eq_some_iff.1 hk
 have hr : names.length - 1 - k < names.reverse.length := by rw [List.length_reverse]; omega
 have hfi : names.reverse.findIdx (· == s) = names.length - 1 - k := by
  rw [List.findIdx_eq hr]
  refine ⟨?_, fun j hj => ?_⟩
  ·rw [List.getElem_reverse]
   have : names.length - 1 - (names.length - 1 - k) = k := by omega
   simp only [this, hs, beq_self_eq_true]
  ·rw [List.getElem_reverse]
   have hlt2 : names.length - 1 - j < names.length := by omega
   have hne : names[names.length - 1 - j] ≠ s := fun e => by
    have := hu (names.length - 1 - j) (by rw [List.getElem?_eq_getElem hlt2, e])
    omega
   simp [hne]
 unfold eM
 rw [hfi]; omega
theorem jR {names : List aw} {p : ak} {m : aT} (h : Fit names p m) : Fit names (cR p) m := ⟨h.rn, h.outs, h.reg, h.dist, h.part⟩
section
variable {s t : aN} {x : aS} {m : aT} {at_ : Nat}
theorem gl (hs : s.jd) {i j : Nat} {a b : aT} (hi : s.msgs[i]? = some a) (hj : s.msgs[j]? = some b) (e : a.name = b.name) : i = j := by
 have hn := (List.nodup_append.1 hs.nd).2.1
 obtain ⟨h1, rfl⟩ := List.getElem?_eq_some_iff.1 hi
 obtain ⟨h2, rfl⟩ := List.getElem?_eq_some_iff.1 hj
 have hp : s.msgs.Pairwise fun a b => a.name ≠ b.name := List.pairwise_map.1 hn
 rcases Nat.lt_trichotomy i j with q | q | q
 ·exact absurd e (List.pairwise_iff_getElem.1 hp i j h1 h2 q)
 ·exact q
 ·exact absurd e.symm (List.pairwise_iff_getElem.1 hp j i h2 h1 q)
def kL (s : aN) (m : aT) (x : aS) : aT := { m with fields := x.dr s m }
theorem mem_set {l : List aT} {i : Nat} {a y : aT} (h : y ∈ l.set i a) : (y = a ∧ i < l.length) ∨ ∃ j, j ≠ i ∧ l[j]? = some y := by
 obtain ⟨j, hj⟩ := List.mem_iff_getElem?.1 h
 rw [List.getElem?_set] at hj
 split at hj
 ·rename_i e
  split at hj
  ·rename_i hl; cases hj; exact .inl ⟨rfl, by omega⟩
  ·cases hj
 ·rename_i e; exact .inr ⟨j, fun q => e q.symm, hj⟩
theorem cJ.plain (A : cJ s x t m at_) (h6 : x.kind ≠ 6) (h7 : x.kind ≠ 7) : t = (⟨s.enums, s.msgs.set at_ (kL s m x)⟩ : aN).sorted := by
 have := A.out
 rw [wL h6 h7] at this
 exact this
theorem cJ.mem (A : cJ s x t m at_) (h6 : x.kind ≠ 6) (h7 : x.kind ≠ 7) {y : aT} : y ∈ t.msgs ↔ y = (kL s m x).sort ∨ ∃ j, j ≠ at_ ∧ s.msgs[j]? = some y := by
 have hp : t.msgs.Perm ((s.msgs.set at_ (kL s m x)).map aT.sort) := by rw [A.plain h6 h7]; exact kC _
 rw [hp.mem_iff]
 constructor
 ·intro h
  obtain ⟨z, hz, rfl⟩ := List.mem_map.1 h
  rcases mem_set hz with ⟨rfl, _⟩ | ⟨j, hj, e⟩
  ·exact .inl rfl
  ·have hm := List.mem_of_getElem? e
   refine .inr ⟨j, hj, ?_⟩
   rw [aT.j4 (A.fP.fr z hm) (A.fP.br z hm)]; exact e
 ·rintro (rfl | ⟨j, hj, e⟩)
  ·exact List.mem_map_of_mem (List.mem_iff_getElem?.2 ⟨at_, List.getElem?_set_self A.lt⟩)
  ·have hm := List.mem_of_getElem? e
   refine List.mem_map.2 ⟨y, (List.mem_iff_getElem?.2 ⟨j, ?_⟩), aT.j4 (A.fP.fr y hm) (A.fP.br y hm)⟩
   rw [List.getElem?_set_ne (fun q => hj q.symm)]; exact e
theorem Inv.plain {w : gR} (I : Inv s w) (A : cJ s x t m at_) (h6 : x.kind ≠ 6) (h7 : x.kind ≠ 7) : Inv t (w.step x) := by
 have hm : m ∈ s.msgs := List.mem_of_getElem? A.eq
 obtain ⟨k, p, k1, k2, hF⟩ := I.fwd m hm
 have hne : m.name ≠ [] := gb (A.fP.nm m hm)
 have hk : k < w.all.length := (List.getElem?_eq_some_iff.1 k2).1
 have hix : eM w.names x.msg = k := jN (by rw [← A.nm]; exact k1) fun j hj => I.uniq j k _ hj (by rw [← A.nm]; exact k1) (by rw [← A.nm]; exact hne)
 have hgd : w.all.getD k cr = p := by rw [List.getD_eq_getElem?_getD, k2]; rfl
 have hst : w.step x = ⟨w.all.set k (cR (aQ p x)), w.names⟩ := by
  unfold gR.step
  simp only [hix, h6, h7, if_false, bZ, hgd]
  congr 1
  rw [List.getD_eq_getElem?_getD, List.getElem?_set_self hk]
  simp
 have hnew : (kL s m x).sort ∈ t.msgs := (A.mem h6 h7).2 (.inl rfl)
 have hrise : cy (·.num) (bL I5 (x.dr s m)) := A.Bl.fr _ hnew
 obtain ⟨s1, s2, s3⟩ := Ao A hF h6 h7 hrise
 rw [hst]
 refine ⟨by simp [I.len], A.Bl, ?_, I.uniq, fun i n hi hn => ?_, fun y hy => ?_⟩
 ·have hr := I.root
  show w.names.head? = _
  rw [hr, A.plain h6 h7]
  cases e : s.msgs with
  | nil => have := A.lt; rw [e] at this; simp at this
  | cons a l =>
   have hh : ((a :: l).set at_ (kL s m x)).head? = some (if at_ = 0 then kL s m x else a) := by
    cases at_ with
    | zero => rfl
    | succ i => rfl
   have := kD (s := ⟨s.enums, (a :: l).set at_ (kL s m x)⟩) hh
   rw [this]
   simp only [List.head?_cons, Option.map_some, Option.some.injEq]
   split
   ·rename_i h0
    have := A.eq
    rw [h0, e] at this
    simp at this
    rw [this]; rfl
   ·rfl
 ·obtain ⟨y, hy, e⟩ := I.back i n hi hn
  obtain ⟨j, hj⟩ := List.mem_iff_getElem?.1 hy
  by_cases hja : j = at_
  ·subst hja
   rw [A.eq] at hj; cases hj
   exact ⟨_, hnew, e⟩
  ·exact ⟨y, (A.mem h6 h7).2 (.inr ⟨j, hja, hj⟩), e⟩
 ·rcases (A.mem h6 h7).1 hy with rfl | ⟨j, hj, e⟩
  ·refine ⟨k, _, k1, List.getElem?_set_self hk, jR (s2.fit (by have := hF.rn; omega) s1)⟩
  ·obtain ⟨k', p', q1, q2, q3⟩ := I.fwd y (List.mem_of_getElem? e)
   refine ⟨k', p', q1, ?_, q3⟩
   rw [List.getElem?_set_ne, q2]
   intro hkk
   subst hkk
   rw [k1] at q1
   exact hj (gl A.fP e A.eq (by injection q1 with q1; exact q1.symm))
end
/- Plain laws: the parts are the messages behind a step that wraps, too. No condition. -/
theorem bz.names {names names' : List aw} {aI : Int} {l : List Port} (h : bz names aI l) (hn : ∀ x ∈ l, ∀ j : Nat, x.f.ty = 15 → names[j]? = some x.f.ref → names'[j]? = some x.f.ref) : bz names' aI l :=
 ⟨h.reg, h.dist, fun x hx => ⟨fun e => by obtain ⟨j, h1, h2⟩ := (h.part x hx).1 e; exact ⟨j, h1, hn x hx j e h2⟩, (h.part x hx).2⟩⟩
theorem Fit.names {names names' : List aw} {p : ak} {m : aT} (h : Fit names p m) (hn : ∀ f ∈ m.fields, ∀ j : Nat, f.ty = 15 → names[j]? = some f.ref → names'[j]? = some f.ref) : Fit names' p m :=
 (h.bW.names fun x hx j e h1 => hn x.f (by rw [← h.outs]; exact List.mem_map_of_mem hx) j e h1).fit h.rn h.outs
section
variable {s t : aN} {x : aS} {m : aT} {at_ : Nat}
def nb (m : aT) (x : aS) : aT := { jz with name := x.dest, fields := [m.aR x.field] }
theorem vU : (nb m x).sort = nb m x := by
 refine aT.j4 ?_ ?_
 ·exact List.pairwise_singleton _ _
 ·exact List.Pairwise.nil
theorem cJ.wrap (A : cJ s x t m at_) (h6 : x.kind = 6) : t = (⟨s.enums, s.msgs.set at_ (kL s m x) ++ [nb m x]⟩ : aN).sorted := by
 have := A.out
 rw [zm h6] at this
 have e : s.msgs.getD at_ jz = m := by rw [List.getD_eq_getElem?_getD, A.eq]; rfl
 rw [e] at this
 exact this
theorem cJ.FK (A : cJ s x t m at_) (h6 : x.kind = 6) {y : aT} : y ∈ t.msgs ↔ y = (kL s m x).sort ∨ (∃ j, j ≠ at_ ∧ s.msgs[j]? = some y) ∨ y = nb m x := by
 have hp : t.msgs.Perm ((s.msgs.set at_ (kL s m x) ++ [nb m x]).map aT.sort) := by rw [A.wrap h6]; exact kC _
 rw [hp.mem_iff, List.map_append, List.mem_append]
 simp only [List.map_cons, List.map_nil, List.mem_singleton, vU]
 constructor
 ·rintro (h | h)
  ·obtain ⟨z, hz, rfl⟩ := List.mem_map.1 h
   rcases mem_set hz with ⟨rfl, _⟩ | ⟨j, hj, e⟩
   ·exact .inl rfl
   ·have hm := List.mem_of_getElem? e
    refine .inr (.inl ⟨j, hj, ?_⟩)
    rw [aT.j4 (A.fP.fr z hm) (A.fP.br z hm)]; exact e
  ·exact .inr (.inr h)
 ·rintro (rfl | ⟨j, hj, e⟩ | h)
  ·exact .inl (List.mem_map_of_mem (List.mem_iff_getElem?.2 ⟨at_, List.getElem?_set_self A.lt⟩))
  ·have hm := List.mem_of_getElem? e
   refine .inl (List.mem_map.2 ⟨y, (List.mem_iff_getElem?.2 ⟨j, ?_⟩), aT.j4 (A.fP.fr y hm) (A.fP.br y hm)⟩)
   rw [List.getElem?_set_ne (fun q => hj q.symm)]; exact e
  ·exact .inr h
theorem cJ.fresh (A : cJ s x t m at_) (h6 : x.kind = 6) : ∀ y ∈ s.msgs, y.name ≠ x.dest := by
 have ht := A.th
 simp only [aS.there, h6, Bool.or_eq_false_iff, Bool.and_eq_false_iff, decide_eq_false_iff_not] at ht
 have hlt : ¬ 0 ≤ s.bJ x.dest := by
  rcases ht.1.2 with q | q
  ·exact absurd trivial q
  ·exact q.2
 intro y hy e
 rcases ao (fun m : aT => m.name == x.dest) s.msgs 0 with ⟨h1, h2⟩ | ⟨i, hi, h1, h2⟩
 ·have := List.find?_eq_none.1 h2 y hy
  simp [e] at this
 ·apply hlt
  show 0 ≤ bS (fun m : aT => m.name == x.dest) s.msgs 0
  rw [h1]; omega
theorem Inv.wrap {w : gR} (I : Inv s w) (A : cJ s x t m at_) (h6 : x.kind = 6) : Inv t (w.step x) := by
 have hm : m ∈ s.msgs := List.mem_of_getElem? A.eq
 obtain ⟨k, p, k1, k2, hF⟩ := I.fwd m hm
 have hne : m.name ≠ [] := gb (A.fP.nm m hm)
 have hk : k < w.all.length := (List.getElem?_eq_some_iff.1 k2).1
 have hix : eM w.names x.msg = k := jN (by rw [← A.nm]; exact k1) fun j hj => I.uniq j k _ hj (by rw [← A.nm]; exact k1) (by rw [← A.nm]; exact hne)
 have hgd : w.all.getD k cr = p := by rw [List.getD_eq_getElem?_getD, k2]; rfl
 have hhas : m.eU x.field = true := by have := A.has; simpa [aS.bu, h6] using this
 have hh := fL hhas
 obtain ⟨q1, q2, q3⟩ := fY hF.outs ⟨_, hh.1, hh.2⟩
 have q2 : (aP p.outs x.field).f = m.aR x.field := q2
 have hfr := A.fP.fr m hm
 have hfn := A.fP.fn m hm
 let g : Port := ⟨{ eF with name := x.also, num := x.num, ty := 15, ref := x.dest }, p.aI, w.all.length⟩
 let p' : ak := { p with ops := p.ops ++ [{ jx with kind := 4, a := (aP p.outs x.field).reg, b := p.aI, part := w.all.length }], aI := p.aI + 1, outs := ba (aW p.outs x.field) g }
 let wp : ak := cR { cr with name := x.dest, born := true, aI := 1, ins := [{ aP p.outs x.field with reg := 0 }], outs := [{ aP p.outs x.field with reg := 0 }] }
 have hst : w.step x = ⟨(w.all ++ [wp]).set k (cR p'), w.names ++ [x.dest]⟩ := by
  unfold gR.step
  have h7 : ¬ x.kind = 7 := by omega
  simp only [hix, h7, h6, if_true, if_false, bZ, hgd, show ¬ (6 : Int) = 7 by decide]
  congr 1
  have hl : k < (w.all ++ [wp]).length := by simp; omega
  rw [List.getD_eq_getElem?_getD, List.getElem?_set_self hl]
  simp only [Option.getD_some, List.set_set]
  rfl
 have hnew : (kL s m x).sort ∈ t.msgs := (A.FK h6).2 (.inl rfl)
 have hrise : cy (·.num) (bL I5 (x.dr s m)) := A.Bl.fr _ hnew
 have hext : ∀ (j : Nat) n, w.names[j]? = some n → (w.names ++ [x.dest])[j]? = some n := fun j n h => by
  rw [List.getElem?_append_left (List.getElem?_eq_some_iff.1 h).1]; exact h
 have hold : ∀ (j : Nat) n, w.names[j]? = some n → n ≠ [] → n ≠ x.dest := fun j n h hn e => by
  obtain ⟨y, hy, e2⟩ := I.back j n h hn
  exact A.fresh h6 y hy (e2.trans e)
 have ef : x.dr s m = (m.fields.filter fun f => !(f.name == x.field)) ++ [g.f] := by
  simp only [aS.dr, aS.goes, aS.comes, h6]
  simp only [show ¬ (6 : Int) = 2 by decide, show ¬ (6 : Int) = 4 by decide, show ¬ (6 : Int) = 5 by decide, if_false, if_true, true_or, or_true, fA]
  rw [cz (by omega) (by omega) (by omega)]
 have hp : (x.dr s m).Perm (g.f :: m.fields.filter fun f => !(f.name == x.field)) := by rw [ef]; exact List.perm_append_comm
 have hlast : (w.names ++ [x.dest])[w.all.length]? = some x.dest := by rw [← I.len]; simp
 have hpo : bz (w.names ++ [x.dest]) (p.aI + 1) (ba (aW p.outs x.field) g) := by
  have hw := (hF.bW.fB x.field).names (names' := w.names ++ [x.dest]) fun y hy j e h1 => hext j _ h1
  exact (hw.mono (by omega)).with ⟨hF.rn, by show p.aI < p.aI + 1; omega⟩ ((hF.bW.fB x.field).new (Int.le_refl _)) ⟨fun _ => ⟨w.all.length, rfl, hlast⟩, fun e => absurd rfl e⟩
 have hout : (ba (aW p.outs x.field) g).map (·.f) = bL I5 (x.dr s m) := by
  rw [eC, cl, hF.outs]
  exact (fy (hfr.filter _) hp hrise).symm
 rw [hst]
 refine ⟨by simp [I.len], A.Bl, ?_, fun i j n hi hj hn => ?_, fun i n hi hn => ?_, fun y hy => ?_⟩
 ·have hr := I.root
  have hne0 : w.names.head? = (w.names ++ [x.dest]).head? := by
   cases e : w.names with
   | nil => rw [e] at k1; simp at k1
   | cons a l => rfl
  show (w.names ++ [x.dest]).head? = _
  rw [← hne0, hr, A.wrap h6]
  cases e : s.msgs with
  | nil => have := A.lt; rw [e] at this; simp at this
  | cons a l =>
   have hh2 : ((a :: l).set at_ (kL s m x) ++ [nb m x]).head? = some (if at_ = 0 then kL s m x else a) := by
    cases at_ with
    | zero => rfl
    | succ i => rfl
   have := kD (s := ⟨s.enums, (a :: l).set at_ (kL s m x) ++ [nb m x]⟩) hh2
   rw [this]
   simp only [List.head?_cons, Option.map_some, Option.some.injEq]
   split
   ·rename_i h0
    have := A.eq
    rw [h0, e] at this
    simp at this
    rw [this]; rfl
   ·rfl
 ·have key : ∀ (i : Nat), (w.names ++ [x.dest])[i]? = some n → (w.names[i]? = some n) ∨ (i = w.names.length ∧ n = x.dest) := fun i h => by
   by_cases hl : i < w.names.length
   ·rw [List.getElem?_append_left hl] at h; exact .inl h
   ·rw [List.getElem?_append_right (by omega)] at h
    have : i - w.names.length = 0 := by
     have := (List.getElem?_eq_some_iff.1 h).1
     simp at this; omega
    rw [this] at h
    simp at h
    exact .inr ⟨by omega, h.symm⟩
  rcases key i hi with a | ⟨a, b⟩ <;> rcases key j hj with c | ⟨c, d⟩
  ·exact I.uniq i j n a c hn
  ·exact absurd d (hold i n a hn)
  ·exact absurd b (hold j n c hn)
  ·omega
 ·by_cases hl : i < w.names.length
  ·have hi' : w.names[i]? = some n := by
    have : (w.names ++ [x.dest])[i]? = some n := hi
    rwa [List.getElem?_append_left hl] at this
   obtain ⟨y, hy, e⟩ := I.back i n hi' hn
   obtain ⟨j, hj⟩ := List.mem_iff_getElem?.1 hy
   by_cases hja : j = at_
   ·subst hja
    rw [A.eq] at hj; cases hj
    exact ⟨_, hnew, e⟩
   ·exact ⟨y, (A.FK h6).2 (.inr (.inl ⟨j, hja, hj⟩)), e⟩
  ·have h : (w.names ++ [x.dest])[i]? = some n := hi
   rw [List.getElem?_append_right (by omega)] at h
   have h0 : i - w.names.length = 0 := by
    have := (List.getElem?_eq_some_iff.1 h).1
    simp at this; omega
   rw [h0] at h
   simp at h
   exact ⟨nb m x, (A.FK h6).2 (.inr (.inr rfl)), h⟩
 ·rcases (A.FK h6).1 hy with rfl | ⟨j, hj, e⟩ | rfl
  ·refine ⟨k, _, hext k _ k1, List.getElem?_set_self (by simp; omega), jR (p := p') (hpo.fit (p := p') (by show 0 ≤ p.aI + 1; have := hF.rn; omega) hout)⟩
  ·obtain ⟨k', p2, r1, r2, r3⟩ := I.fwd y (List.mem_of_getElem? e)
   refine ⟨k', p2, hext k' _ r1, ?_, r3.names fun f _ j _ h1 => hext j _ h1⟩
   have hk' := (List.getElem?_eq_some_iff.1 r2).1
   rw [List.getElem?_set_ne, List.getElem?_append_left hk', r2]
   intro hkk
   subst hkk
   rw [k1] at r1
   exact hj (gl A.fP e A.eq (by injection r1 with r1; exact r1.symm))
  ·refine ⟨w.all.length, wp, hlast, ?_, ?_⟩
   ·rw [List.getElem?_set_ne (by omega)]; simp
   ·refine jR ⟨(show (0 : Int) ≤ 1 by decide), ?_, fun z hz => ?_, by simp, fun z hz => ?_⟩
    ·show [(aP p.outs x.field).f] = [m.aR x.field]
     rw [q2]
    ·simp at hz; subst hz; exact ⟨Int.le_refl _, by show (0 : Int) < 1; decide⟩
    ·simp at hz; subst hz
     have := hF.part _ q1
     refine ⟨fun e => ?_, this.2⟩
     obtain ⟨j, h1, h2⟩ := this.1 e
     exact ⟨j, h1, hext j _ h2⟩
end
/- Plain laws: the parts are the messages behind a step that unwraps, too; behind all steps. No condition. -/
theorem sI : ∀ (l : List Nat) (i : Nat) (h : i < l.length), l[i] ≤ l.sum
 | a :: l, 0, _ => by simp
 | a :: l, i + 1, h => by
  have := sI l i (by simpa using h)
  simp; omega
theorem sH : ∀ (l : List Nat) (i j : Nat) (hi : i < l.length) (hj : j < l.length), i < j → l[i] + l[j] ≤ l.sum
 | a :: l, 0, j + 1, _, hj, _ => by
  have := sI l j (by simpa using hj)
  simp; omega
 | a :: l, i + 1, j + 1, hi, hj, h => by
  have := sH l i j (by simpa using hi) (by simpa using hj) (by omega)
  simp; omega
theorem AO {l : List ag} {p : ag → Bool} {f g : ag} (hf : f ∈ l) (hg : g ∈ l) (pf : p f = true) (pg : p g = true) (hne : f ≠ g) : 2 ≤ l.countP p := by
 rw [List.countP_eq_length_filter]
 have h1 : f ∈ l.filter p := List.mem_filter.2 ⟨hf, pf⟩
 have h2 : g ∈ l.filter p := List.mem_filter.2 ⟨hg, pg⟩
 cases e : l.filter p with
 | nil => rw [e] at h1; cases h1
 | cons a r =>
  cases r with
  | nil =>
   rw [e] at h1 h2
   simp at h1 h2
   exact absurd (h1.trans h2.symm) hne
  | cons b r => simp
theorem oh {s : aN} {ref : aw} (h : s.yq ref = 1) {i : Nat} {m : aT} (hi : s.msgs[i]? = some m) {f : ag} (hf : f ∈ m.fields) (ht : f.ty = 15) (hr : f.ref = ref) {j : Nat} {y : aT} (hj : s.msgs[j]? = some y) {g : ag} (hg : g ∈ y.fields) (gt : g.ty = 15) (gr : g.ref = ref) : j = i ∧ g = f := by
 let p : ag → Bool := fun f => decide (f.ty = 15) && f.ref == ref
 have pf : p f = true := by simp [p, ht, hr]
 have pg : p g = true := by simp [p, gt, gr]
 have hpos : ∀ (m : aT) (f : ag), f ∈ m.fields → p f = true → 1 ≤ m.fields.countP p := fun m f hf hp => List.countP_pos_iff.2 ⟨f, hf, hp⟩
 have hs : (s.msgs.map fun m => m.fields.countP p).sum = 1 := h
 obtain ⟨hi1, rfl⟩ := List.getElem?_eq_some_iff.1 hi
 obtain ⟨hj1, rfl⟩ := List.getElem?_eq_some_iff.1 hj
 have c1 := hpos _ f hf pf
 have c2 := hpos _ g hg pg
 have hij : j = i := by
  apply Classical.byContradiction
  intro hne
  rcases Nat.lt_or_gt_of_ne hne with q | q
  ·have := sH (s.msgs.map fun m => m.fields.countP p) j i (by simpa using hj1) (by simpa using hi1) q
   simp only [List.getElem_map] at this
   omega
  ·have := sH (s.msgs.map fun m => m.fields.countP p) i j (by simpa using hi1) (by simpa using hj1) q
   simp only [List.getElem_map] at this
   omega
 refine ⟨hij, ?_⟩
 subst hij
 apply Classical.byContradiction
 intro hne
 have h2 := AO (p := p) hg hf pg pf hne
 have := sI (s.msgs.map fun m => m.fields.countP p) j (by simpa using hj1)
 simp only [List.getElem_map] at this
 omega
section
variable {s t : aN} {x : aS} {m : aT} {at_ : Nat}
theorem l6 (h7 : x.kind = 7) {r : aT} {ref : aw} {y : aT} (hl : at_ < s.msgs.length) : y ∈ x.msgs s at_ r ref ↔ y = r ∨ ∃ j, j ≠ at_ ∧ s.msgs[j]? = some y ∧ y.name ≠ ref := by
 unfold aS.msgs
 simp only [h7, show ¬ (7 : Int) = 6 by decide, if_false, List.append_nil, true_and]
 rw [List.mem_filterMap]
 constructor
 ·rintro ⟨⟨a, i⟩, h1, h2⟩
  have h1 := List.mem_zipIdx_iff_getElem?.1 h1
  simp only at h1 h2
  split at h2
  ·cases h2; exact .inl rfl
  ·rename_i hne
   split at h2
   ·cases h2
   ·rename_i hn
    cases h2
    exact .inr ⟨i, hne, h1, hn⟩
 ·rintro (rfl | ⟨j, h1, h2, h3⟩)
  ·exact ⟨(s.msgs[at_], at_), List.mem_zipIdx_iff_getElem?.2 (List.getElem?_eq_getElem hl), by simp⟩
  ·exact ⟨(y, j), List.mem_zipIdx_iff_getElem?.2 h2, by simp [h1, h3]⟩
theorem uc (h7 : x.kind = 7) {r : aT} {ref : aw} {a : aT} {l : List aT} (e : s.msgs = a :: l) (hn : a.name ≠ ref) : (x.msgs s at_ r ref).head? = some (if at_ = 0 then r else a) := by
 unfold aS.msgs
 simp only [h7, show ¬ (7 : Int) = 6 by decide, if_false, List.append_nil, true_and, e, List.zipIdx_cons, List.filterMap_cons]
 by_cases h0 : at_ = 0
 ·subst h0; simp
 ·have : ¬ 0 = at_ := fun q => h0 q.symm
  simp [this, hn, h0]
structure KW (s : aN) (m : aT) (f : ag) (m2 : aT) (g : ag) (j2 : Nat) : Prop where
 ty : f.ty = 15
 at2 : s.msgs[j2]? = some m2
 pos : 1 ≤ j2
 nm : m2.name = f.ref
 ne : f.ref ≠ m.name
 use : s.yq f.ref = 1
 one : m2.fields = [g]
 find : s.eS f.ref = some m2
theorem cJ.boxed (A : cJ s x t m at_) (h7 : x.kind = 7) : ∃ m2 g j2, KW s m (m.aR x.field) m2 g j2 := by
 have ha := A.ask
 simp only [aS.asked, h7, show ¬ (7 : Int) = 3 by decide, show ¬ (7 : Int) = 4 by decide, show ¬ (7 : Int) = 5 by decide, show ¬ (7 : Int) = 6 by decide, show ¬ (7 : Int) = 10 by decide, if_false, if_true] at ha
 simp only [aN.boxed, Bool.and_eq_true, decide_eq_true_eq, Bool.not_eq_true', beq_eq_false_iff_ne] at ha
 obtain ⟨⟨⟨⟨⟨h1, h2⟩, h3⟩, h4⟩, h5⟩, h6⟩ := ha
 rcases ao (fun m' : aT => m'.name == (m.aR x.field).ref) s.msgs 0 with ⟨q1, q2⟩ | ⟨i, hi, q1, q2, q3⟩
 ·have : s.bJ (m.aR x.field).ref = -1 := q1
  rw [this] at h3; omega
 ·have hix : s.bJ (m.aR x.field).ref = ((0 + i : Nat) : Int) := q1
  rw [hix] at h3
  have hat : s.eS (m.aR x.field).ref = some s.msgs[i] := q2
  rw [hat] at h6
  simp only [Option.map_some] at h6
  cases e : s.msgs[i].fields with
  | nil => rw [e] at h6; cases h6
  | cons g r =>
   cases r with
   | nil => exact ⟨s.msgs[i], g, i, h1, List.getElem?_eq_getElem hi, by omega, by simpa using q3, h4, h5, e, hat⟩
   | cons b r => rw [e] at h6; cases h6
theorem Inv.Gi {w : gR} (I : Inv s w) (A : cJ s x t m at_) (h7 : x.kind = 7) : Inv t (w.step x) := by
 have hm : m ∈ s.msgs := List.mem_of_getElem? A.eq
 obtain ⟨k, p, k1, k2, hF⟩ := I.fwd m hm
 have hne : m.name ≠ [] := gb (A.fP.nm m hm)
 have hk : k < w.all.length := (List.getElem?_eq_some_iff.1 k2).1
 have hix : eM w.names x.msg = k := jN (by rw [← A.nm]; exact k1) fun j hj => I.uniq j k _ hj (by rw [← A.nm]; exact k1) (by rw [← A.nm]; exact hne)
 have hgd : w.all.getD k cr = p := by rw [List.getD_eq_getElem?_getD, k2]; rfl
 have hhas : m.eU x.field = true := by have := A.has; simpa [aS.bu, h7] using this
 have hh := fL hhas
 obtain ⟨q1, q2, q3⟩ := fY hF.outs ⟨_, hh.1, hh.2⟩
 have q2 : (aP p.outs x.field).f = m.aR x.field := q2
 obtain ⟨m2, g, j2, B⟩ := A.boxed h7
 have hfr := A.fP.fr m hm
 have hm2 : m2 ∈ s.msgs := List.mem_of_getElem? B.at2
 have hn2 : m2.name ≠ [] := gb (A.fP.nm m2 hm2)
 obtain ⟨k', p2, r1, r2, F2⟩ := I.fwd m2 hm2
 obtain ⟨j, hj1, hj2⟩ := (hF.part _ q1).1 (by rw [q2]; exact B.ty)
 rw [q2] at hj2
 have hjk : k' = j := I.uniq k' j _ r1 (by rw [B.nm]; exact hj2) hn2
 subst hjk
 have hpart : (aP p.outs x.field).part.toNat = k' := by rw [hj1]; simp
 have hg2 : w.all.getD k' cr = p2 := by rw [List.getD_eq_getElem?_getD, r2]; rfl
 obtain ⟨G, hG, hGf⟩ : ∃ G, p2.outs = [G] ∧ G.f = g := by
  have := F2.outs
  rw [B.one] at this
  cases e : p2.outs with
  | nil => rw [e] at this; cases this
  | cons a r =>
   rw [e] at this
   simp at this
   exact ⟨a, by rw [this.2], this.1⟩
 let g' : Port := { G with reg := p.aI }
 let p' : ak := { p with ops := p.ops ++ [{ jx with kind := 5, a := (aP p.outs x.field).reg, b := p.aI, part := (aP p.outs x.field).part }], aI := p.aI + 1, outs := ba (aW p.outs x.field) g' }
 have hst : w.step x = ⟨w.all.set k (cR p'), w.names.set k' []⟩ := by
  unfold gR.step
  simp only [hix, h7, if_true, if_false, bZ, hgd, hpart, hg2, hG, show ¬ (7 : Int) = 6 by decide]
  congr 1
  rw [List.getD_eq_getElem?_getD, List.getElem?_set_self hk]
  simp only [Option.getD_some, List.set_set]
  rfl
 have hout := A.out
 have hmem : ∀ y, y ∈ t.msgs ↔ y = (kL s m x).sort ∨ ∃ j, j ≠ at_ ∧ s.msgs[j]? = some y ∧ y.name ≠ (m.aR x.field).ref := by
  intro y
  have hp : t.msgs.Perm ((x.msgs s at_ (kL s m x) (m.aR x.field).ref).map aT.sort) := by rw [hout]; exact kC _
  rw [hp.mem_iff, List.mem_map]
  constructor
  ·rintro ⟨z, hz, rfl⟩
   rcases (l6 h7 A.lt).1 hz with rfl | ⟨i, a1, a2, a3⟩
   ·exact .inl rfl
   ·have hz2 := List.mem_of_getElem? a2
    refine .inr ⟨i, a1, ?_, a3⟩
    rw [aT.j4 (A.fP.fr z hz2) (A.fP.br z hz2)]; exact a2
  ·rintro (rfl | ⟨i, a1, a2, a3⟩)
   ·exact ⟨_, (l6 h7 A.lt).2 (.inl rfl), rfl⟩
   ·have hz2 := List.mem_of_getElem? a2
    exact ⟨y, (l6 h7 A.lt).2 (.inr ⟨i, a1, a2, a3⟩), aT.j4 (A.fP.fr y hz2) (A.fP.br y hz2)⟩
 have hnew : (kL s m x).sort ∈ t.msgs := (hmem _).2 (.inl rfl)
 have hrise : cy (·.num) (bL I5 (x.dr s m)) := A.Bl.fr _ hnew
 have hset : ∀ (i : Nat) n, w.names[i]? = some n → i ≠ k' → (w.names.set k' [])[i]? = some n := fun i n h hi => by rw [List.getElem?_set_ne (fun q => hi q.symm)]; exact h
 have hun : ∀ (i : Nat) n, (w.names.set k' [])[i]? = some n → n ≠ [] → i ≠ k' ∧ w.names[i]? = some n := fun i n h hn => by
  rw [List.getElem?_set] at h
  split at h
  ·split at h
   ·cases h; exact absurd rfl hn
   ·cases h
  ·rename_i e; exact ⟨fun q => e q.symm, h⟩
 have hkk : k ≠ k' := fun e => by
  rw [e, hj2] at k1
  injection k1 with k1
  exact B.ne k1
 have ef : x.dr s m = (m.fields.filter fun f => !(f.name == x.field)) ++ [g] := by
  simp only [aS.dr, aS.goes, aS.comes, h7]
  simp only [show ¬ (7 : Int) = 2 by decide, show ¬ (7 : Int) = 4 by decide, show ¬ (7 : Int) = 5 by decide, show ¬ (7 : Int) = 6 by decide, if_false, if_true, true_or, or_true, fA, B.find, Option.getD_some, B.one, List.headD_cons]
  rw [cz (by omega) (by omega) (by omega)]
 have hp : (x.dr s m).Perm (g :: m.fields.filter fun f => !(f.name == x.field)) := by rw [ef]; exact List.perm_append_comm
 have hpo : bz (w.names.set k' []) (p.aI + 1) (ba (aW p.outs x.field) g') := by
  have hw := (hF.bW.fB x.field).names (names' := w.names.set k' []) fun y hy i e h1 => hset i _ h1 fun hi => by
   subst hi
   rw [hj2] at h1
   injection h1 with h1
   obtain ⟨hy1, hy2⟩ := List.mem_filter.1 hy
   have := (oh B.use A.eq hh.1 B.ty rfl A.eq (g := y.f) (by rw [← hF.outs]; exact List.mem_map_of_mem hy1) e h1.symm).2
   rw [this, hh.2] at hy2
   simp at hy2
  refine (hw.mono (by omega)).with ⟨hF.rn, by show p.aI < p.aI + 1; omega⟩ ((hF.bW.fB x.field).new (Int.le_refl _)) ?_
  have hGp := F2.part G (by rw [hG]; simp)
  refine ⟨fun e => ?_, hGp.2⟩
  obtain ⟨i, a1, a2⟩ := hGp.1 e
  refine ⟨i, a1, hset i _ a2 fun hi => ?_⟩
  subst hi
  rw [hj2] at a2
  injection a2 with a2
  have := (oh B.use A.eq hh.1 B.ty rfl B.at2 (g := G.f) (by rw [B.one, hGf]; simp) e a2.symm).1
  have h3 := B.at2
  rw [this, A.eq] at h3
  cases h3
  exact B.ne B.nm.symm
 have houts : (ba (aW p.outs x.field) g').map (·.f) = bL I5 (x.dr s m) := by
  rw [eC, cl, hF.outs]
  have : g'.f = g := hGf
  rw [this]
  exact (fy (hfr.filter _) hp hrise).symm
 rw [hst]
 refine ⟨by simp [I.len], A.Bl, ?_, fun i i2 n hi hj hn => ?_, fun i n hi hn => ?_, fun y hy => ?_⟩
 ·show (w.names.set k' []).head? = _
  cases e : s.msgs with
  | nil => have := A.lt; rw [e] at this; simp at this
  | cons a l =>
   have hr := I.root
   rw [e] at hr
   simp only [List.head?_cons, Option.map_some] at hr
   have ha0 : s.msgs[0]? = some a := by rw [e]; rfl
   have hna : a.name ≠ (m.aR x.field).ref := fun q => by
    have := gl A.fP ha0 B.at2 (q.trans B.nm.symm)
    have := B.pos
    omega
   have hk0 : k' ≠ 0 := fun q => by
    rw [q, ← List.head?_eq_getElem?, hr] at hj2
    injection hj2 with hj2
    exact hna hj2
   have h1 : (w.names.set k' []).head? = some a.name := by
    rw [← hr]
    cases w.names with
    | nil => rfl
    | cons b r =>
     obtain ⟨i, rfl⟩ : ∃ i, k' = i + 1 := ⟨k' - 1, by omega⟩
     rfl
   rw [h1, hout, kD (uc h7 e hna)]
   simp only [Option.map_some, Option.some.injEq]
   split
   ·rename_i h0
    have := A.eq
    rw [h0, e] at this
    simp at this
    rw [this]; rfl
   ·rfl
 ·exact I.uniq i i2 n (hun i n hi hn).2 (hun i2 n hj hn).2 hn
 ·obtain ⟨a1, a2⟩ := hun i n hi hn
  obtain ⟨y, hy, e⟩ := I.back i n a2 hn
  obtain ⟨i2, hi2⟩ := List.mem_iff_getElem?.1 hy
  by_cases hja : i2 = at_
  ·subst hja
   rw [A.eq] at hi2; cases hi2
   exact ⟨_, hnew, e⟩
  ·refine ⟨y, (hmem y).2 (.inr ⟨i2, hja, hi2, fun q => ?_⟩), e⟩
   rw [← e, q] at a2
   exact a1 (I.uniq i k' _ a2 hj2 (by rw [← q, e]; exact hn))
 ·rcases (hmem y).1 hy with rfl | ⟨i2, b1, b2, b3⟩
  ·exact ⟨k, _, hset k _ k1 hkk, List.getElem?_set_self hk, jR (p := p') (hpo.fit (p := p') (by show 0 ≤ p.aI + 1; have := hF.rn; omega) houts)⟩
  ·obtain ⟨k3, p3, c1, c2, c3⟩ := I.fwd y (List.mem_of_getElem? b2)
   refine ⟨k3, p3, hset k3 _ c1 fun q => ?_, ?_, c3.names fun f hf i e h1 => hset i _ h1 fun q => ?_⟩
   ·rw [q, hj2] at c1
    injection c1 with c1
    exact b3 c1.symm
   ·rw [List.getElem?_set_ne, c2]
    intro q
    subst q
    rw [k1] at c1
    injection c1 with c1
    exact b1 (gl A.fP b2 A.eq c1.symm)
   ·rw [q, hj2] at h1
    injection h1 with h1
    exact b1 (oh B.use A.eq hh.1 B.ty rfl b2 hf e h1.symm).1
end
/- Plain laws: behind all steps of a migration the parts are the messages of its last schema; ahead of them, of its first one. No condition. -/
theorem vt {x : aS} (h : x.right = true) : 1 ≤ x.kind ∧ x.kind ≤ 10 := by
 simp only [aS.right, Bool.and_eq_true, decide_eq_true_eq] at h
 obtain ⟨⟨⟨⟨⟨⟨⟨⟨⟨⟨q1, q2⟩, _⟩, _⟩, _⟩, _⟩, _⟩, _⟩, _⟩, _⟩, _⟩ := h
 exact ⟨q1, q2⟩
theorem Inv.step {s t : aN} {x : aS} {w : gR} (I : Inv s w) (h : s.apply x = .ok t) : Inv t (w.step x) := by
 obtain ⟨m, at_, A⟩ := jn h
 by_cases h6 : x.kind = 6
 ·exact I.wrap A h6
 ·by_cases h7 : x.kind = 7
  ·exact I.Gi A h7
  ·exact I.plain A h6 h7
def jg (s : aN) : gR := ⟨bm s, s.msgs.map (·.name)⟩
theorem nC (s : aN) : ∀ (l : List ag) (n : Nat), ((l.zipIdx n).map fun (f, k) => j8 s f k).map (·.f) = l
 | [], n => rfl
 | f :: l, n => by
  simp only [List.zipIdx_cons, List.map_cons]
  congr 1
  exact nC s l (n + 1)
theorem lU (s : aN) : ∀ (l : List ag) (n : Nat), ((l.zipIdx n).map fun (f, k) => j8 s f k).map (·.reg) = (List.range' n l.length).map fun (k : Nat) => (k : Int)
 | [], n => rfl
 | f :: l, n => by
  simp only [List.zipIdx_cons, List.map_cons, List.length_cons, List.range'_succ]
  congr 1
  exact lU s l (n + 1)
theorem jI {s : aN} {m : aT} {y : Port} (h : y ∈ bU s m) : ∃ (k : Nat), k < m.fields.length ∧ y.reg = (k : Int) ∧ y.f ∈ m.fields ∧ y.part = (if y.f.ty = 15 then s.bJ y.f.ref else -1) := by
 unfold bU at h
 obtain ⟨⟨f, k⟩, h1, rfl⟩ := List.mem_map.1 h
 have h2 := List.mem_zipIdx_iff_getElem?.1 h1
 simp only at h2
 exact ⟨k, (List.getElem?_eq_some_iff.1 h2).1, rfl, List.mem_of_getElem? h2, rfl⟩
theorem Inv.begin {s : aN} (hs : s.jd) : Inv s (jg s) := by
 have hget : ∀ (i : Nat) n, (s.msgs.map (·.name))[i]? = some n → ∃ m, s.msgs[i]? = some m ∧ m.name = n := fun i n h => by
  rw [List.getElem?_map] at h
  cases e : s.msgs[i]? with
  | none => rw [e] at h; cases h
  | some m => rw [e] at h; simp at h; exact ⟨m, rfl, h⟩
 refine ⟨by simp [jg, bm], hs, by simp [jg], fun i j n hi hj hn => ?_, fun i n hi hn => ?_, fun m hm => ?_⟩
 ·obtain ⟨a, ha, ea⟩ := hget i n hi
  obtain ⟨b, hb, eb⟩ := hget j n hj
  exact gl hs ha hb (ea.trans eb.symm)
 ·obtain ⟨a, ha, ea⟩ := hget i n hi
  exact ⟨a, List.mem_of_getElem? ha, ea⟩
 ·obtain ⟨k, hk⟩ := List.mem_iff_getElem?.1 hm
  refine ⟨k, cR { cr with name := m.name, ins := bU s m, outs := bU s m, aI := m.fields.length }, by simp [jg, hk], by simp [jg, bm, hk], jR ⟨by show (0 : Int) ≤ (m.fields.length : Int); omega, nC s m.fields 0, fun y hy => ?_, ?_, fun y hy => ?_⟩⟩
  ·obtain ⟨k, h1, h2, _⟩ := jI hy
   refine ⟨by omega, ?_⟩
   show y.reg < (m.fields.length : Int)
   omega
  ·show ((bU s m).map (·.reg)).Nodup
   unfold bU
   rw [lU]
   exact List.Pairwise.map _ (fun a b hab => by omega) List.nodup_range'
  ·obtain ⟨k, h1, h2, h3, h4⟩ := jI hy
   refine ⟨fun e => ?_, fun e => by rw [h4, if_neg e]⟩
   rw [if_pos e] at h4
   have hr := (hs.refs m hm y.f h3).2 e
   obtain ⟨i, hi, e1, e2⟩ := ks (fun m : aT => m.name == y.f.ref) s.msgs (by show ¬ s.bJ y.f.ref < 0; omega)
   refine ⟨i, by rw [h4]; exact e1, ?_⟩
   show (s.msgs.map (·.name))[i]? = _
   rw [List.getElem?_map, List.getElem?_eq_getElem hi]
   simp only [Option.map_some, Option.some.injEq]
   simpa using e2
theorem rm : ∀ {l : List aS} {s : aN} {acc L : List aN} {w : gR}, Inv s w → acc.getLast? = some s → aN.eA l s acc = .ok L → L.length = acc.length + l.length ∧ ∃ t, L.getLast? = some t ∧ Inv t (l.foldl gR.step w)
 | [], s, acc, L, w, I, ha, h => by
  cases h
  exact ⟨by simp, s, ha, I⟩
 | x :: l, s, acc, L, w, I, ha, h => by
  unfold aN.eA at h
  cases e : s.apply x with
  | error k => rw [e] at h; cases h
  | ok t =>
   rw [e] at h
   obtain ⟨h1, h2⟩ := rm (acc := acc ++ [t]) (I.step e) (by simp) h
   refine ⟨by rw [h1]; simp; omega, h2⟩
theorem GH {s : aN} {l : List aS} {L : List aN} (h : s.all l = .ok L) : L.length = l.length + 1 ∧ ∃ t, L[l.length]? = some t ∧ Inv t (l.foldl gR.step (jg s)) := by
 unfold aN.all at h
 split at h
 ·cases h
 rename_i h1
 split at h
 ·cases h
 have hs := aN.ga (by simpa using h1)
 obtain ⟨h2, t, h3, h4⟩ := rm (Inv.begin hs) (by simp) h
 simp at h2
 refine ⟨by omega, t, ?_, h4⟩
 rw [List.getLast?_eq_getElem?] at h3
 have : L.length - 1 = l.length := by omega
 rwa [this] at h3
/-! ### ahead of the steps -/
structure kc (s : aN) (w : gR) : Prop where
 ins : ∀ (k : Nat) m, s.msgs[k]? = some m → ∃ p, w.all[k]? = some p ∧ p.ins = bU s m ∧ (m.fields.length : Int) ≤ p.aI
/- Plain laws: what the steps of a migration want of the parts; how large these are. No condition. -/
structure ak.bd (n : Nat) (p : ak) : Prop where
 ops : p.ops.length ≤ n
 outs : p.outs.length ≤ 10 + 2 * n
 rn : 0 ≤ p.aI
 aI : p.aI ≤ 10 + 2 * (n : Int)
 ever : p.ever.length ≤ 100 * (n + 1)
structure ak.bs (n : Nat) (p : ak) : Prop where
 ops : p.ops.length ≤ n + 1
 outs : p.outs.length ≤ 10 + 2 * (n + 1)
 rn : 0 ≤ p.aI
 aI : p.aI ≤ 10 + 2 * ((n : Int) + 1)
 ever : p.ever.length ≤ 100 * (n + 1)
theorem ak.bd.bs {n : Nat} {p : ak} (h : p.bd n) : p.bs n := ⟨by have := h.ops; omega, by have := h.outs; omega, h.rn, by have := h.aI; omega, h.ever⟩
theorem ak.bs.bd {n : Nat} {p : ak} (h : p.bs n) (hn : n ≤ 16) : (cR p).bd (n + 1) := by
 have e : (cR p).ever = uj p p.outs.length := by unfold uj; rw [List.take_of_length_le (Nat.le_refl _)]; rfl
 refine ⟨h.ops, h.outs, h.rn, by have := h.aI; show p.aI ≤ _; omega, ?_⟩
 rw [e]
 have h1 := o5 p p.outs.length
 have h2 := h.ever
 have h3 := h.outs
 omega
theorem ak.bs.up {n : Nat} {p : ak} (h : p.bs n) (hn : n ≤ 16) : p.bd (n + 1) := ⟨h.ops, h.outs, h.rn, by have := h.aI; omega, by have := h.ever; omega⟩
theorem IL {n : Nat} {p : ak} {x : aS} (h : p.bd n) (hk : 1 ≤ x.kind ∧ x.kind ≤ 10) (h6 : x.kind ≠ 6) (h7 : x.kind ≠ 7) : (aQ p x).bs n := by
 have h1 := h.ops
 have h2 := h.outs
 have h3 := h.rn
 have h4 := h.aI
 have h5 := h.ever
 have w1 := bN p.outs x.field
 have w2 := bN (aW p.outs x.field) x.also
 rcases show x.kind = 1 ∨ x.kind = 2 ∨ x.kind = 3 ∨ x.kind = 4 ∨ x.kind = 5 ∨ x.kind = 8 ∨ x.kind = 9 ∨ x.kind = 10 by omega with e | e | e | e | e | e | e | e
 ·rw [pa e]; exact ⟨by show p.ops.length ≤ _; omega, by show (ba _ _).length ≤ _; rw [dj]; omega, h3, by show p.aI ≤ _; omega, h5⟩
 ·rw [p9 e]; exact ⟨by show p.ops.length ≤ _; omega, by show (ba _ _).length ≤ _; rw [dj]; omega, h3, by show p.aI ≤ _; omega, h5⟩
 ·rw [p8 e]; exact ⟨by show (p.ops ++ [_]).length ≤ _; simp; omega, by show (ba _ _).length ≤ _; rw [dj]; omega, h3, by show p.aI ≤ _; omega, h5⟩
 ·rw [p7 e]; exact ⟨by show (p.ops ++ [_]).length ≤ _; simp; omega, by show (ba (ba _ _) _).length ≤ _; rw [dj, dj]; omega, by show 0 ≤ p.aI + 2; omega, by show p.aI + 2 ≤ _; omega, h5⟩
 ·rw [pZ e]; exact ⟨by show (p.ops ++ [_]).length ≤ _; simp; omega, by show (ba _ _).length ≤ _; rw [dj]; omega, by show 0 ≤ p.aI + 1; omega, by show p.aI + 1 ≤ _; omega, h5⟩
 ·rw [Bj e]; exact ⟨by show (p.ops ++ [_]).length ≤ _; simp; omega, by show (dF p x _).length ≤ _; rw [fZ]; omega, h3, by show p.aI ≤ _; omega, h5⟩
 ·rw [Bi e]; exact ⟨by show (p.ops ++ [_]).length ≤ _; simp; omega, by show (ba _ _).length ≤ _; rw [dj]; omega, by show 0 ≤ p.aI + 1; omega, by show p.aI + 1 ≤ _; omega, h5⟩
 ·rw [wH e]; exact ⟨by show p.ops.length ≤ _; omega, by show (aW _ _).length ≤ _; omega, h3, by show p.aI ≤ _; omega, h5⟩
theorem m5 {α : Type} {l : List α} {i : Nat} {a y : α} (h : y ∈ l.set i a) : y = a ∨ y ∈ l := by
 rcases List.mem_or_eq_of_mem_set h with h | h
 ·exact .inr h
 ·exact .inl h
theorem xH {n : Nat} {all : List ak} {i : Nat} {p : ak} {x : aS} (hb : ∀ q ∈ all, q.bd n) (hp : all[i]? = some p) (hk : 1 ≤ x.kind ∧ x.kind ≤ 10) : (∀ q ∈ bZ all i x, q.bs n) ∧ (bZ all i x).length ≤ all.length + 1 ∧ all.length ≤ (bZ all i x).length := by
 have h := hb p (List.mem_of_getElem? hp)
 have h1 := h.ops
 have h2 := h.outs
 have h3 := h.rn
 have h4 := h.aI
 have h5 := h.ever
 have w1 := bN p.outs x.field
 by_cases e6 : x.kind = 6
 ·rw [DP hp e6]
  refine ⟨fun q hq => ?_, by simp, by simp⟩
  rcases m5 hq with rfl | hq
  ·exact ⟨by show (p.ops ++ [_]).length ≤ _; simp; omega, by show (ba _ _).length ≤ _; rw [dj]; omega, by show 0 ≤ p.aI + 1; omega, by show p.aI + 1 ≤ _; omega, h5⟩
  ·rcases List.mem_append.1 hq with hq | hq
   ·exact (hb q hq).bs
   ·have hq := List.mem_singleton.1 hq
    subst hq
    refine ⟨by show 0 ≤ _; omega, by show 1 ≤ _; omega, by show (0 : Int) ≤ 1; decide, by show (1 : Int) ≤ _; omega, ?_⟩
    have := o5 { cr with name := x.dest, born := true, aI := 1, ins := [{ (aP p.outs x.field) with reg := 0 }], outs := [{ (aP p.outs x.field) with reg := 0 }] } 1
    have h9 : (uj { cr with name := x.dest, born := true, aI := 1, ins := [{ (aP p.outs x.field) with reg := 0 }], outs := [{ (aP p.outs x.field) with reg := 0 }] } 1).length ≤ 0 + 1 := this
    show (uj { cr with name := x.dest, born := true, aI := 1, ins := [{ (aP p.outs x.field) with reg := 0 }], outs := [{ (aP p.outs x.field) with reg := 0 }] } 1).length ≤ _
    omega
 ·by_cases e7 : x.kind = 7
  ·rw [DO hp e7]
   refine ⟨fun q hq => ?_, by simp, by simp⟩
   rcases m5 hq with rfl | hq
   ·exact ⟨by show (p.ops ++ [_]).length ≤ _; simp; omega, by show (ba _ _).length ≤ _; rw [dj]; omega, by show 0 ≤ p.aI + 1; omega, by show p.aI + 1 ≤ _; omega, h5⟩
   ·exact (hb q hq).bs
  ·rw [DL hp e6 e7]
   refine ⟨fun q hq => ?_, by simp, by simp⟩
   rcases m5 hq with rfl | hq
   ·exact IL h hk e6 e7
   ·exact (hb q hq).bs
theorem nD {l : List Port} {n : aw} (h : ∃ y ∈ l, y.f.name = n) : 0 ≤ bg l n := by
 obtain ⟨y, hy, hn⟩ := h
 rcases ao (fun x : Port => x.f.name == n) l 0 with ⟨q1, q2⟩ | ⟨i, hi, q1, q2, q3⟩
 ·have := List.find?_eq_none.1 q2 y hy
  simp [hn] at this
 ·have e : bg l n = ((0 + i : Nat) : Int) := q1
  omega
structure rr (w : gR) (x : aS) (k : Nat) (p : ak) : Prop where
 nm : w.names[k]? = some x.msg
 un : ∀ j, w.names[j]? = some x.msg → j = k
 ix : eM w.names x.msg = k
 pt : w.all[k]? = some p
 kd : 1 ≤ x.kind ∧ x.kind ≤ 10
 h5 : x.kind = 5 → 0 ≤ bg (aW p.outs x.field) x.also
 h7 : x.kind = 7 → 0 ≤ bg p.outs x.field ∧ 0 ≤ (aP p.outs x.field).part ∧ (aP p.outs x.field).part < (w.all.length : Int) ∧ (w.all.getD (aP p.outs x.field).part.toNat cr).outs ≠ []
 h8 : x.kind = 8 → (p.outs.map fun y => y.f.name).Nodup ∧ ∀ n ∈ x.names, 0 ≤ bg p.outs n
theorem A9 {s t : aN} {w : gR} {x : aS} {m : aT} {at_ : Nat} (I : Inv s w) (A : cJ s x t m at_) : ∃ k p, rr w x k p := by
 have hm : m ∈ s.msgs := List.mem_of_getElem? A.eq
 obtain ⟨k, p, k1, k2, k3⟩ := I.fwd m hm
 have hne : m.name ≠ [] := gb (A.fP.nm m hm)
 have hu : ∀ j, w.names[j]? = some x.msg → j = k := fun j hj => I.uniq j k _ hj (by rw [← A.nm]; exact k1) (by rw [← A.nm]; exact hne)
 have k1' : w.names[k]? = some x.msg := by rw [← A.nm]; exact k1
 have hex : ∀ n, m.eU n = true → ∃ y ∈ p.outs, y.f.name = n := fun n hn => by
  obtain ⟨q1, q2⟩ := fL hn
  obtain ⟨r1, _, r3⟩ := fY k3.outs ⟨_, q1, q2⟩
  exact ⟨_, r1, r3⟩
 refine ⟨k, p, k1', hu, jN k1' hu, k2, vt A.rt, fun h => ?_, fun h => ?_, fun h => ⟨?_, fun n hn => ?_⟩⟩
 ·have hneed := A.has
  have hask := A.ask
  unfold aS.bu at hneed
  rw [h] at hneed
  unfold aS.asked at hask
  rw [h] at hask
  have h1 : m.eU x.also = true := by simp at hneed; exact hneed.2
  have h2 : x.field ≠ x.also := by simp at hask; exact hask.1.1.1.1
  obtain ⟨y, hy, hn⟩ := hex _ h1
  exact nD ⟨y, List.mem_filter.2 ⟨hy, by simp [hn]; exact fun e => h2 e.symm⟩, hn⟩
 ·have hneed := A.has
  unfold aS.bu at hneed
  rw [h] at hneed
  have h1 : m.eU x.field = true := by simp at hneed; exact hneed
  obtain ⟨q1, q2⟩ := fL h1
  obtain ⟨r1, r2, r3⟩ := fY k3.outs ⟨_, q1, q2⟩
  obtain ⟨m2, g, j2, B⟩ := A.boxed h
  have hty : (aP p.outs x.field).f.ty = 15 := by rw [r2]; exact B.ty
  obtain ⟨j, e1, e2⟩ := (k3.part _ r1).1 hty
  have hm2 : m2 ∈ s.msgs := List.mem_of_getElem? B.at2
  obtain ⟨k', p', l1, l2, l3⟩ := I.fwd m2 hm2
  have href : (aP p.outs x.field).f.ref = m2.name := by rw [r2]; exact B.nm.symm
  have hjk : j = k' := I.uniq j k' m2.name (by rw [← href]; exact e2) l1 (gb (A.fP.nm m2 hm2))
  subst hjk
  have hjl : j < w.all.length := (List.getElem?_eq_some_iff.1 l2).1
  refine ⟨nD ⟨_, r1, r3⟩, by omega, by omega, ?_⟩
  rw [e1, Int.toNat_natCast, List.getD_eq_getElem?_getD, l2]
  intro h0
  have h0' : p'.outs = [] := h0
  have := l3.outs
  rw [h0', B.one] at this
  cases this
 ·have : (p.outs.map fun y => y.f.name) = m.fields.map (·.name) := by rw [← k3.outs, List.map_map]; rfl
  rw [this]; exact A.fP.fn m hm
 ·have hneed := A.has
  unfold aS.bu at hneed
  rw [if_pos h] at hneed
  exact nD (hex n (List.all_eq_true.1 hneed n hn))
/- The program logic: parts that lie in objects become a value. No condition. -/
theorem Kept.bind {s : St} {Q R : St → Prop} (h : Kept s Q) (k : ∀ s', Q s' → Kept s' R) : Kept s R := fun E N a w hf => let ⟨s', h1, h2⟩ := h E N a w hf; k s' h2 E N a w h1
theorem Kept.IQ {s : St} {Q : St → Prop} (A j : Nat) {H : Hp} {cs : List Hc} (hH : get s .h = some (.hp H)) (hA : H.obj A = some cs) (hj : cs[j]? = some (.v .nsl)) (h : Kept ((.h, .hp (H.set A (cs.set j (.v (.sl []))))) :: s) Q) : Kept s Q := fun E N a w ⟨G, L, hr⟩ => by
 obtain ⟨H0, gH, hok, hmay⟩ := hr.heap
 rw [hH] at gH; cases gH
 obtain ⟨blkA, arr, el, a1, a2, a3, a4, a5⟩ := hok.obj A cs hA
 have hv : V G (arr.getD j undef) .nsl := (a4 j _ hj).2
 have hlt : j < cs.length := (List.getElem?_eq_some_iff.1 hj).1
 refine h E N a w ⟨G, L, hr.mB (w' := w) (arr' := arr) hH hA a1 a2 rfl rfl rfl rfl (fun _ _ => rfl) a2 ⟨rfl, by simpa using a3.1⟩ (fun i x e => ?_) (fun i el esz zs e => ?_)⟩
 ·by_cases hi : i = j
  ·subst hi
   rw [List.getElem?_set_self hlt] at e; cases e
   refine ⟨rfl, ?_⟩
   generalize arr.getD i undef = u at hv
   cases hv
   exact V.slE none 0
  ·rw [List.getElem?_set_ne (by omega)] at e
   exact a4 i x e
 ·by_cases hi : i = j
  ·subst hi
   rw [List.getElem?_set_self hlt] at e; cases e
  ·rw [List.getElem?_set_ne (by omega)] at e
   exact ⟨e, rfl⟩
def po (all : List ak) (os : List AV) (n : Nat) : List AV := (all.take n).map ak.av ++ (eK all os).drop n
theorem Bw (all : List ak) (os : List AV) (n : Nat) : ∀ e ∈ po all os n, e.cells.length = 7 := fun e he => by
 rcases List.mem_append.1 he with h | h
 ·obtain ⟨p, _, rfl⟩ := List.mem_map.1 h; rfl
 ·exact fS all os e (List.mem_of_mem_drop h)
theorem u4 {all : List ak} {os : List AV} {n : Nat} {p : ak} {o : AV} (hp : all[n]? = some p) (ho : os[n]? = some o) : (po all os n)[n]? = some (dx p o) := by
 have hn := (List.getElem?_eq_some_iff.1 hp).1
 have h1 : ((all.take n).map ak.av).length = n := by simp; omega
 unfold po
 rw [List.getElem?_append_right (by omega), h1, Nat.sub_self, List.getElem?_drop, Nat.add_zero]
 exact gm hp ho
theorem Bv {all : List ak} {os : List AV} {n : Nat} {p : ak} (hl : os.length = all.length) (hp : all[n]? = some p) : (po all os n).set n p.av = po all os (n + 1) := by
 have hn := (List.getElem?_eq_some_iff.1 hp).1
 have h1 : ((all.take n).map ak.av).length = n := by simp; omega
 have hz : n < (eK all os).length := by rw [dQ hl]; exact hn
 unfold po
 rw [List.set_append_right _ _ (by omega), h1, Nat.sub_self, List.drop_eq_getElem_cons hz, List.set_cons_zero, List.take_add_one, hp]
 simp
structure LF (H0 K : Hp) (A : Nat) (os : List AV) (all : List ak) (n : Nat) : Prop where
 nx : H0.next ≤ K.next
 old : ∀ i, i < H0.next → K.obj i = H0.obj i
 lo : H0.next ≤ A
 len : os.length = all.length
 row : K.obj A = some (bC (po all os n))
 ops : ∀ (i : Nat) o p, n ≤ i → os[i]? = some o → all[i]? = some p → fK K o 13 (p.ops.map fQ.av)
 ids : ∀ (i : Nat) id n e, os[i]? = some (.os id n e) → H0.next ≤ id ∧ id ≠ A
 dist : ∀ (i j : Nat) id n e n' e', os[i]? = some (.os id n e) → os[j]? = some (.os id n' e') → i = j
theorem LH.lf {H0 K : Hp} {A : Nat} {os : List AV} {all : List ak} (I : LH H0 K A os all) : LF H0 K A os all 0 := ⟨I.nx, I.old, I.lo, I.len, I.row, fun i o p _ h1 h2 => I.ops i o p h1 h2, I.ids, I.dist⟩
theorem LR {s : St} {H0 K : Hp} {A : Nat} {os : List AV} {all : List ak} {n : Nat} (hH : get s .h = some (.hp K)) (I : LF H0 K A os all n) (hn : n < all.length) :
  Kept s fun s' => (∀ c, c ≠ .h → get s' c = get s c) ∧ ∃ K', get s' .h = some (.hp K') ∧ LF H0 K' A os all (n + 1) := by
 have hl := I.len
 obtain ⟨p, hp⟩ : ∃ p, all[n]? = some p := ⟨_, List.getElem?_eq_getElem hn⟩
 obtain ⟨o, ho⟩ : ∃ o, os[n]? = some o := ⟨_, List.getElem?_eq_getElem (by omega)⟩
 have hc : (bC (po all os n))[n * 7 + 2]? = some (.v o) := by
  rw [kG (Bw all os n) (u4 hp ho) (by decide)]; rfl
 have hset : (bC (po all os n)).set (n * 7 + 2) (.v (.sl (p.ops.map fQ.av))) = bC (po all os (n + 1)) := by
  rw [x5 (Bw all os n) (u4 hp ho) (by decide)]
  exact congrArg bC (Bv hl hp)
 rcases I.ops n o p (Nat.le_refl _) ho hp with ⟨e1, e2⟩ | ⟨id, e1, e2⟩
 ·subst e1
  rw [e2] at hset
  refine Kept.IQ A (n * 7 + 2) hH I.row hc (Kept.now ⟨fun c hc => by simp [get, Ne.symm hc], _, rfl, ?_⟩)
  refine ⟨I.nx, fun i hi => ?_, I.lo, hl, by rw [hset]; exact Hp.bk, fun i o2 p2 h1 h2 h3 => ?_, I.ids, I.dist⟩
  ·show (if i = A then _ else K.obj i) = _
   rw [if_neg (by have := I.lo; omega)]; exact I.old i hi
  ·refine jP (I.ops i o2 p2 (by omega) h2 h3) fun id n e h => ?_
   show (if id = A then _ else K.obj id) = _
   rw [if_neg (by rw [h] at h2; exact (I.ids i id n e h2).2)]
 ·subst e1
  have hne : A ≠ id := fun e => (I.ids n id _ _ ho).2 e.symm
  refine Kept.KG A (n * 7 + 2) (ys := p.ops.map fQ.av) hH I.row hc e2 hne (mU _) (by rw [List.take_of_length_le]; rw [dA (mU _)]; exact Nat.le_refl _) (Nat.le_refl _) (Kept.now ⟨fun c hc => by simp [get, Ne.symm hc], _, rfl, ?_⟩)
  rw [List.take_of_length_le (Nat.le_refl _), hset]
  refine ⟨I.nx, fun i hi => ?_, I.lo, hl, Hp.bk, fun i o2 p2 h1 h2 h3 => ?_, I.ids, I.dist⟩
  ·show (if i = A then _ else if i = id then none else K.obj i) = _
   have := (I.ids n id _ _ ho).1
   rw [if_neg (by have := I.lo; omega), if_neg (by omega)]; exact I.old i hi
  ·refine jP (I.ops i o2 p2 (by omega) h2 h3) fun id2 n2 e h => ?_
   rw [h] at h2
   show (if id2 = A then _ else if id2 = id then none else K.obj id2) = _
   rw [if_neg (I.ids i id2 n2 e h2).2, if_neg (fun e3 => by
    subst e3
    have := I.dist i n id2 _ _ _ _ h2 ho
    omega)]
theorem KL {H0 : Hp} {A : Nat} {os : List AV} {all : List ak} : ∀ (k n : Nat) {s : St} {K : Hp} (_ : get s .h = some (.hp K)) (_ : LF H0 K A os all n) (_ : n + k = all.length),
  Kept s fun s' => (∀ c, c ≠ .h → get s' c = get s c) ∧ ∃ K', get s' .h = some (.hp K') ∧ LF H0 K' A os all all.length
 | 0, n, s, K, hH, I, hk => by
  have : n = all.length := by omega
  subst this
  exact Kept.now ⟨fun _ _ => rfl, K, hH, I⟩
 | k + 1, n, s, K, hH, I, hk => (LR hH I (by omega)).bind fun s' ⟨h1, K', h2, I'⟩ => (KL k (n + 1) h2 I' (by omega)).bind fun s2 ⟨h3, K2, h4, I2⟩ => Kept.now ⟨fun c hc => (h3 c hc).trans (h1 c hc), K2, h4, I2⟩
theorem Kept.CW {s : St} {Q : St → Prop} (b : Nat) {H0 K : Hp} {A : Nat} {os : List AV} {all : List ak} (I : LH H0 K A os all) (hH : get s .h = some (.hp K)) (hk : get s (.b b) = some (.bx [.v (.os A all.length 7)]))
  (h : ∀ s' K', (∀ c, c ≠ .h → c ≠ .b b → get s' c = get s c) → get s' (.b b) = some (.bx [.v (.sl (all.map ak.av))]) → get s' .h = some (.hp K') → H0.next ≤ K'.next → (∀ i, i < H0.next → K'.obj i = H0.obj i) → Q s') : Kept s Q := by
 refine (KL all.length 0 hH I.lf (by omega)).bind fun s' ⟨h1, K', h2, I'⟩ => ?_
 have bj : K'.obj A = some (bC (all.map ak.av)) := by
  have := I'.row
  rw [this]
  unfold po
  rw [List.take_of_length_le (Nat.le_refl _), List.drop_eq_nil_of_le (by rw [dQ I.len]; exact Nat.le_refl _), List.append_nil]
 refine Kept.I8 b A (ys := all.map ak.av) (cs := [.v (.os A all.length 7)]) (ds := [.v (.sl (all.map ak.av))]) (esz := 7) (by rw [h1 _ (by simp)]; exact hk) h2 bj (fun e he => by obtain ⟨p, _, rfl⟩ := List.mem_map.1 he; rfl) (by
  have e : (all.map ak.av).take all.length = all.map ak.av := List.take_of_length_le (by simp)
  simp [nP, gO, e]) (Kept.now (h _ (K'.del A) (fun c hc1 hc2 => ?_) ?_ ?_ I'.nx fun i hi => ?_))
 ·simp [get, Ne.symm hc1, Ne.symm hc2]; exact h1 c hc1
 ·simp [get]
 ·simp [get]
 ·show (if i = A then none else K'.obj i) = _
  rw [if_neg (by have := I'.lo; omega)]; exact I'.old i hi
theorem LH.begin {H : Hp} {s : aN} : LH H (H.bump s.msgs.length (bC ((bm s).map jr))) (H.next + s.msgs.length) (List.replicate s.msgs.length .nsl) (bm s) := by
 have hlen : (bm s).length = s.msgs.length := by unfold bm; simp
 have hget : ∀ (i : Nat) (o : AV), (List.replicate s.msgs.length AV.nsl)[i]? = some o → o = AV.nsl := fun i o h => List.eq_of_mem_replicate (n := s.msgs.length) (List.mem_of_getElem? h)
 have hz : eK (bm s) (List.replicate s.msgs.length .nsl) = (bm s).map jr := by
  unfold eK
  refine List.ext_getElem? fun i => ?_
  rw [List.getElem?_zipWith, List.getElem?_map]
  by_cases hi : i < s.msgs.length
  ·rw [List.getElem?_eq_getElem (show i < (bm s).length by omega), List.getElem?_replicate, if_pos hi]; rfl
  ·rw [List.getElem?_eq_none (show (bm s).length ≤ i by omega)]; rfl
 refine ⟨q7 _ _, show H.next ≤ H.next + _ + 1 by omega, fun i hi => Hp.kZ hi, by omega, by simp [hlen], by rw [hz]; exact Hp.dL, fun i o p h1 h2 => ?_, fun i id n e h => ?_, fun i j id n e n' e' h1 h2 => ?_⟩
 ·have hm := List.mem_of_getElem? h2
  obtain ⟨m, _, rfl⟩ := List.mem_map.1 (show p ∈ s.msgs.map fun m => cR { cr with name := m.name, ins := bU s m, outs := bU s m, aI := m.fields.length } from hm)
  exact .inl ⟨hget i o h1, rfl⟩
 ·have := hget i _ h; cases this
 ·have := hget i _ h1; cases this
end Go.Proofs.YtlijgcifhhcfaaaGreatDoor.X
