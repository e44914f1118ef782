/- a program that is made shorter: its parts lie in an object, their operations and ports in others. No condition. -/
import Derived.Test.YtgmdapgedlachaaGreatDoorZFH
import Derived.Test.YtgmdapgedlachaaGreatDoorZFJ
import Derived.Test.YtgmdapgedlachaaGreatDoorZFD
import Derived.Test.YtgmdapgedlachaaGreatDoorZFI
set_option linter.unusedVariables false
set_option linter.unusedSimpArgs false
set_option linter.unusedSectionVars false
set_option maxRecDepth 100000
namespace Go.Proofs.YtgmdapgedlachaaGreatDoor.X
open Go Go.RowKit Go.Proofs
def iH (p : aQ) (o : AV × AV) : AV := .agg [.str p.name, .sl (p.ins.map Port.av), o.1, o.2, .int .i64 p.aE, .sl (p.fB.map eJ), .bool p.born]
def iB (all : List aQ) (os : List (AV × AV)) : List AV := List.zipWith iH all os
theorem eC (all : List aQ) (os : List (AV × AV)) : ∀ e ∈ iB all os, e.cells.length = 7 := fun e he => by
 obtain ⟨i, hi⟩ := List.mem_iff_getElem?.1 he
 unfold iB at hi
 rw [List.getElem?_zipWith] at hi
 split at hi
 ·cases hi; rfl
 ·cases hi
theorem ni {all : List aQ} {os : List (AV × AV)} (h : os.length = all.length) : (iB all os).length = all.length := by unfold iB; simp [h]
theorem nj {all : List aQ} {os : List (AV × AV)} {i : Nat} {p : aQ} {o : AV × AV} (hp : all[i]? = some p) (ho : os[i]? = some o) : (iB all os)[i]? = some (iH p o) := by
 unfold iB; rw [List.getElem?_zipWith, hp, ho]
theorem wS {all : List aQ} {os : List (AV × AV)} {i : Nat} {p : aQ} {o : AV × AV} : (iB all os).set i (iH p o) = iB (all.set i p) (os.set i o) := by
 unfold iB
 refine List.ext_getElem? fun j => ?_
 simp only [List.getElem?_set, List.getElem?_zipWith, List.length_zipWith]
 by_cases h : i = j
 ·subst h
  simp only [if_true]
  by_cases h1 : i < all.length
  ·by_cases h2 : i < os.length
   ·rw [if_pos (by omega), if_pos h1, if_pos h2]
   ·rw [if_neg (by omega), if_pos h1, if_neg h2]
  ·rw [if_neg (by omega), if_neg h1]
 ·simp only [h, if_false]
def cP : AV → Option Nat | .os id _ _ => some id | _ => none
def isRow (K : Hp) (o : AV) (e : Nat) (xs : List AV) : Prop := (o = .sl [] ∧ xs = []) ∨ di K o e xs
structure FZ (S : Nat → Prop) (H0 K : Hp) (A : Nat) (os : List (AV × AV)) (all : List aQ) : Prop where
 fin : K.fin
 sN : ∀ i, S i → i < K.next
 old : ∀ i, S i → K.obj i = H0.obj i
 lo : ¬ S A
 len : os.length = all.length
 row : K.obj A = some (aZ (iB all os))
 ops : ∀ (i : Nat) o p, os[i]? = some o → all[i]? = some p → isRow K o.1 13 (p.ops.map al.av) ∧ isRow K o.2 9 (p.outs.map Port.av)
 ids : ∀ (i : Nat) o id, os[i]? = some o → (cP o.1 = some id ∨ cP o.2 = some id) → ¬ S id ∧ id ≠ A
 own : ∀ (i : Nat) o id, os[i]? = some o → cP o.1 = some id → cP o.2 = some id → False
 dist : ∀ (i j : Nat) o o' id, os[i]? = some o → os[j]? = some o' → (cP o.1 = some id ∨ cP o.2 = some id) → (cP o'.1 = some id ∨ cP o'.2 = some id) → i = j
theorem uZ {o : AV} {id : Nat} (h : cP o = some id) : ∃ n e, o = .os id n e := by cases o <;> first | (cases h; exact ⟨_, _, rfl⟩) | cases h
theorem xm {K : Hp} (hf : K.fin) {o : AV} {e : Nat} {xs : List AV} (h : di K o e xs) {id : Nat} (ho : cP o = some id) : id < K.next := by
 obtain ⟨n, e', h2⟩ := uZ ho
 exact kg hf h h2
theorem Fy {K K' : Hp} {o : AV} {e : Nat} {xs : List AV} (h : di K o e xs) (hk : ∀ id, cP o = some id → K'.obj id = K.obj id) : di K' o e xs := jX h fun id n e' ho => hk id (by rw [ho]; rfl)
theorem vT {K : Hp} (hf : K.fin) {o : AV} {e : Nat} {xs : List AV} (h : isRow K o e xs) {id : Nat} (ho : cP o = some id) : id < K.next := by
 rcases h with ⟨rfl, _⟩ | h
 ·cases ho
 ·exact xm hf h ho
theorem dX {K K' : Hp} {o : AV} {e : Nat} {xs : List AV} (h : isRow K o e xs) (hk : ∀ id, cP o = some id → K'.obj id = K.obj id) : isRow K' o e xs := by
 rcases h with h | h
 ·exact .inl h
 ·exact .inr (Fy h hk)
section
variable {S : Nat → Prop} {H0 K K' : Hp} {A i : Nat} {os : List (AV × AV)} {all : List aQ} {p q : aQ} {o o' : AV × AV}
theorem FZ.alt (I : FZ S H0 K A os all) : A < K.next := by
 apply Classical.byContradiction
 intro hn
 have := I.row
 rw [I.fin A (by omega)] at this; cases this
theorem FZ.vv (I : FZ S H0 K A os all) {id : Nat} (ho : os[i]? = some o) (h : cP o.1 = some id ∨ cP o.2 = some id) : id < K.next := by
 have hi := (List.getElem?_eq_some_iff.1 ho).1
 have hl := I.len
 obtain ⟨h1, h2⟩ := I.ops i _ _ ho (List.getElem?_eq_getElem (by omega))
 rcases h with h | h
 ·exact vT I.fin h1 h
 ·exact vT I.fin h2 h
theorem FZ.more (I : FZ S H0 K A os all) (hf : K'.fin) (hn : K.next ≤ K'.next) (hk : ∀ j, j < K.next → K'.obj j = K.obj j) : FZ S H0 K' A os all :=
 ⟨hf, fun j h => Nat.lt_of_lt_of_le (I.sN j h) hn, fun j h => by rw [hk j (I.sN j h)]; exact I.old j h, I.lo, I.len, by rw [hk A I.alt]; exact I.row,
  fun j o p h1 h2 => ⟨dX (I.ops j o p h1 h2).1 fun id h => hk id (I.vv h1 (.inl h)), dX (I.ops j o p h1 h2).2 fun id h => hk id (I.vv h1 (.inr h))⟩, I.ids, I.own, I.dist⟩
theorem FZ.az (I : FZ S H0 K A os all) {T : Nat → Prop} (hT : ∀ j, T j → j < K.next) (hA : ¬ T A) (hi : ∀ (i : Nat) o id, os[i]? = some o → (cP o.1 = some id ∨ cP o.2 = some id) → ¬ T id) : FZ T K K A os all :=
 ⟨I.fin, hT, fun _ _ => rfl, hA, I.len, I.row, I.ops, fun i o id h1 h2 => ⟨hi i o id h1 h2, (I.ids i o id h1 h2).2⟩, I.own, I.dist⟩
theorem FZ.put (I : FZ S H0 K A os all) (hp : all[i]? = some p) (ho : os[i]? = some o) (hf : K'.fin) (hn : K.next ≤ K'.next) (hk : ∀ j, j < K.next → j ≠ A → cP o.1 ≠ some j → cP o.2 ≠ some j → K'.obj j = K.obj j)
  (hA : K'.obj A = some (aZ (iB (all.set i q) (os.set i o')))) (h1 : isRow K' o'.1 13 (q.ops.map al.av)) (h2 : isRow K' o'.2 9 (q.outs.map Port.av))
  (f1 : o'.1 = o.1 ∨ ∀ id, cP o'.1 = some id → K.next ≤ id) (f2 : o'.2 = o.2 ∨ ∀ id, cP o'.2 = some id → K.next ≤ id) (hd : ∀ id, cP o'.1 = some id → cP o'.2 = some id → False) : FZ S H0 K' A (os.set i o') (all.set i q) := by
 have hAl := I.alt
 have hget : ∀ (j : Nat) (o2 : AV × AV), (os.set i o')[j]? = some o2 → (j = i ∧ o2 = o') ∨ (j ≠ i ∧ os[j]? = some o2) := fun j o2 h => by
  rw [List.getElem?_set] at h
  split at h
  ·rename_i e
   split at h
   ·cases h; exact .inl ⟨e.symm, rfl⟩
   ·cases h
  ·rename_i e; exact .inr ⟨fun h2 => e h2.symm, h⟩
 have hnew : ∀ id, (cP o'.1 = some id ∨ cP o'.2 = some id) → (cP o.1 = some id ∨ cP o.2 = some id) ∨ K.next ≤ id := fun id h => by
  rcases h with h | h
  ·rcases f1 with f | f
   ·exact .inl (.inl (f ▸ h))
   ·exact .inr (f id h)
  ·rcases f2 with f | f
   ·exact .inl (.inr (f ▸ h))
   ·exact .inr (f id h)
 have hold : ∀ (j : Nat) (o2 : AV × AV), j ≠ i → os[j]? = some o2 → ∀ id, (cP o2.1 = some id ∨ cP o2.2 = some id) → K'.obj id = K.obj id := fun j o2 hj h id hid => by
  have q1 := I.vv h hid
  refine hk id q1 (I.ids j o2 id h hid).2 (fun e => ?_) fun e => ?_
  ·exact hj (I.dist j i o2 o id h ho hid (.inl e))
  ·exact hj (I.dist j i o2 o id h ho hid (.inr e))
 refine ⟨hf, fun j hj => Nat.lt_of_lt_of_le (I.sN j hj) hn, fun j hj => ?_, I.lo, by simp [I.len], hA, fun j o2 p2 g1 g2 => ?_, fun j o2 id g1 g2 => ?_, fun j o2 id g1 g2 g3 => ?_, fun j k o2 o3 id g1 g2 g3 g4 => ?_⟩
 ·rw [hk j (I.sN j hj) (fun e => I.lo (e ▸ hj)) (fun e => (I.ids i o j ho (.inl e)).1 hj) (fun e => (I.ids i o j ho (.inr e)).1 hj)]
  exact I.old j hj
 ·rcases hget j _ g1 with ⟨rfl, rfl⟩ | ⟨hne, h3⟩
  ·rw [List.getElem?_set] at g2
   simp only [if_true] at g2
   split at g2
   ·cases g2; exact ⟨h1, h2⟩
   ·cases g2
  ·rw [List.getElem?_set, if_neg (fun h => hne h.symm)] at g2
   obtain ⟨a1, a2⟩ := I.ops j o2 p2 h3 g2
   exact ⟨dX a1 fun id h => hold j o2 hne h3 id (.inl h), dX a2 fun id h => hold j o2 hne h3 id (.inr h)⟩
 ·rcases hget j _ g1 with ⟨rfl, rfl⟩ | ⟨hne, h3⟩
  ·rcases hnew id g2 with h | h
   ·exact I.ids j o id ho h
   ·exact ⟨fun e => by have := I.sN id e; omega, by omega⟩
  ·exact I.ids j o2 id h3 g2
 ·rcases hget j _ g1 with ⟨rfl, rfl⟩ | ⟨hne, h3⟩
  ·exact hd id g2 g3
  ·exact I.own j o2 id h3 g2 g3
 ·rcases hget j _ g1 with ⟨rfl, rfl⟩ | ⟨hne, h3⟩ <;> rcases hget k _ g2 with ⟨rfl, rfl⟩ | ⟨hne2, h4⟩
  ·rfl
  ·rcases hnew id g3 with h | h
   ·exact I.dist _ _ _ _ id ho h4 h g4
   ·have := I.vv h4 g4; omega
  ·rcases hnew id g4 with h | h
   ·exact I.dist _ _ _ _ id h3 ho g3 h
   ·have := I.vv h3 g3; omega
  ·exact I.dist j k o2 o3 id h3 h4 g3 g4
end
theorem Pk : gj Tryz.prog 192 = true := by kernel_rfl
theorem Pj : gj Tryz.prog 193 = true := by kernel_rfl
theorem Ph : gj Tryz.prog 194 = true := by kernel_rfl
theorem Pg : gj Tryz.prog 195 = true := by kernel_rfl
theorem Pf : gj Tryz.prog 196 = true := by kernel_rfl
theorem eV : lk Tryz.prog 199 = some (true, 2) := by kernel_rfl
def Hi (a : Int × Nat) : List AV := [.int .i64 a.1, .int .u64 (a.2 : Int)]
def qb (a : Int × Nat) : AV := .agg (Hi a)
theorem DT : Tryz.prog.eqGuardType Tryz.prog.depth 199 = false := by kernel_rfl
theorem DS (a b : Int × Nat) (w : World) : (binOp .eql 199 (.agg #[.int .i64 a.1, .int .u64 (a.2 : Int)]) (.agg #[.int .i64 b.1, .int .u64 (b.2 : Int)])).run Tryz.prog w = .ok (.bool (a == b)) w := by
 obtain ⟨a0, a1⟩ := a
 obtain ⟨b0, b1⟩ := b
 go_simp
 by_cases h0 : a0 = b0
 ·by_cases h1 : a1 = b1
  ·simp [h0, h1, Int.natCast_inj]
  ·simp [h0, h1, Int.natCast_inj]
 ·simp [h0, Int.natCast_inj]
theorem Gz {G : Gh} {v : Value} {a : Int × Nat} (h : V G v (qb a)) : v = (.agg #[.int .i64 a.1, .int .u64 (a.2 : Int)]) := by
 unfold qb Hi at h
 cases h with
 | agg vs cs hl hf hv =>
  obtain ⟨l⟩ := vs
  match l, hl with
  | [x0, x1], _ =>
   have h0 : V G x0 (.int .i64 a.1) := hv 0 _ rfl
   cases h0
   have h1 : V G x1 (.int .u64 (a.2 : Int)) := hv 1 _ rfl
   cases h1
   rfl
theorem Cc {N : Nat} {s : St} {d : Nat} {ty : TypeId} {pos : String} {af : Array Edge} {g : Option (Nat × Bool)} {t2 : TypeId} {x y : Operand} {u v : AV} (a b : Int × Nat) (hN : d < N) (hx : cV x s = some u) (hy : cV y s = some v) (hu : u = qb a) (hv : v = qb b) :
  aW Tryz.prog N ⟨some d, .binOp .eql 199 x y t2, ty, pos, af, g⟩ s (rd x ++ rd y) [(.s d, .sv (.v (.bool (a == b))))] := by
 subst hu hv
 exact aW.val rfl hN fun E G L c w tt hr hR => by
  refine ⟨.bool (a == b), ?_, .bool _⟩
  have h1 := Gz (aT hr hR.left hx)
  have h2 := Gz (aT hr hR.right hy)
  have hgd := run_eqGuard_agg (P := Tryz.prog) w .eql 199 x y #[.int .i64 a.1, .int .u64 (a.2 : Int)] #[.int .i64 b.1, .int .u64 (b.2 : Int)] DT
  simp only [execOp, Sem.run_bind, h1, h2, hgd, Result.andThen_ok, DS, Sem.run_pure]
theorem JP (a b : Int × Nat) : AV.agg [.int .i64 (if b.1 > a.1 then b.1 else a.1), .int .u64 (if (b.2 : Int) < (a.2 : Int) then (b.2 : Int) else (a.2 : Int))] = qb (sZ a b) := by
 unfold qb Hi sZ
 congr 2
 ·congr 1; simp only []; omega
 ·congr 2; simp only []; omega
theorem sG : Pure Tryz.prog 195 [.int .i64 64] (qb (-9223372036854775808, 9223372036854775807)) := by
 exact Pure.ah Tryz.func195 rfl rfl (aH rfl) fun H => (aK.go II mixed (⟨rfl, (⟨by kernel_rfl, ⟨.inr rfl, (aM.r1 rfl (.cell eV rfl rfl rfl rfl .nil)).cast rfl, rfl⟩⟩)⟩))
theorem sH : Pure Tryz.prog 195 [.int .i64 32] (qb (-2147483648, 2147483647)) := by
 exact Pure.ah Tryz.func195 rfl rfl (aH rfl) fun H => (aK.go II mixed (⟨rfl, (⟨by kernel_rfl, ⟨.inr rfl, (aM.r1 rfl (.cell eV rfl rfl rfl rfl .nil)).cast rfl, rfl⟩⟩)⟩))
theorem uW : Pure Tryz.prog 196 [.int .i64 64] (qb (0, 18446744073709551615)) := by
 exact Pure.ah Tryz.func196 rfl rfl (aH rfl) fun H => (aK.go II mixed ⟨.inr rfl, (aM.r1 rfl (.cell eV rfl rfl rfl rfl .nil)).cast rfl, rfl⟩)
theorem uX : Pure Tryz.prog 196 [.int .i64 32] (qb (0, 4294967295)) := by
 exact Pure.ah Tryz.func196 rfl rfl (aH rfl) fun H => (aK.go II mixed ⟨.inr rfl, (aM.r1 rfl (.cell eV rfl rfl rfl rfl .nil)).cast rfl, rfl⟩)
theorem Ld (t : Int) : Pure Tryz.prog 161 [.int .i64 t] (.tup [qb (dq t), .bool (c8 t)]) := by
 refine Pure.ah Tryz.func161 rfl rfl (aH rfl) fun H => ?_
 refine aK.go II mixed ?_
 refine aB.d1 rfl (aX (aH rfl) Pk rfl (Ap _)) ?_
 refine aC (fun hc1 => ?_) (fun hc1 => ?_)
 ·refine aB.d1 rfl (aX (aH rfl) Pj rfl (sF _)) ?_
  refine aC (fun hc2 => ?_) (fun hc2 => ?_)
  ·exact ⟨.inr rfl, (aM.r2 rfl (.cell eV rfl rfl rfl rfl (.tmp rfl .nil))).cast (by simp_all [dq, qb, Hi]), rfl⟩
  ·refine aB.d1 rfl (aX (aH rfl) Ph rfl (vZ _)) ?_
   refine aC (fun hc3 => ?_) (fun hc3 => ?_)
   ·refine aB.d1 rfl (aX (aH rfl) Pg rfl (by first | exact sG | exact sH)) ?_
    exact ⟨.inr rfl, (aM.r2 rfl (.cell eV rfl rfl rfl rfl (.tmp rfl .nil))).cast (by simp_all [dq, qb, Hi]), rfl⟩
   ·refine aB.d1 rfl (aX (aH rfl) Pf rfl (by first | exact uW | exact uX)) ?_
    exact ⟨.inr rfl, (aM.r2 rfl (.cell eV rfl rfl rfl rfl (.tmp rfl .nil))).cast (by simp_all [dq, qb, Hi]), rfl⟩
 ·refine aB.d1 rfl (aX (aH rfl) Pj rfl (sF _)) ?_
  refine aC (fun hc4 => ?_) (fun hc4 => ?_)
  ·exact ⟨.inr rfl, (aM.r2 rfl (.cell eV rfl rfl rfl rfl (.tmp rfl .nil))).cast (by simp_all [dq, qb, Hi]), rfl⟩
  ·refine aB.d1 rfl (aX (aH rfl) Ph rfl (vZ _)) ?_
   refine aC (fun hc5 => ?_) (fun hc5 => ?_)
   ·refine aB.d1 rfl (aX (aH rfl) Pg rfl (by first | exact sG | exact sH)) ?_
    exact ⟨.inr rfl, (aM.r2 rfl (.cell eV rfl rfl rfl rfl (.tmp rfl .nil))).cast (by simp_all [dq, qb, Hi]), rfl⟩
   ·refine aB.d1 rfl (aX (aH rfl) Pf rfl (by first | exact uW | exact uX)) ?_
    exact ⟨.inr rfl, (aM.r2 rfl (.cell eV rfl rfl rfl rfl (.tmp rfl .nil))).cast (by simp_all [dq, qb, Hi]), rfl⟩
theorem As (a b : Int × Nat) : Pure Tryz.prog 162 [qb a, qb b] (qb (sZ a b)) := by
 exact Pure.go II mixed Tryz.func162 rfl rfl fun H => (aB.d1 rfl (BA (aH rfl) rfl rfl) (aB.d1 rfl (Az (aH rfl) rfl rfl) ⟨.inr rfl, (aM.r1 rfl (.cell eV rfl rfl rfl rfl .nil)).cast (JP a b), rfl⟩))
theorem Em (a b : Int × Nat) : Pure Tryz.prog 125 [qb a, qb b] (.bool (G7 a b)) := by
 exact Pure.go II mixed Tryz.func125 rfl rfl fun H => (⟨rfl, (aF.n1 1 rfl (aX (aH rfl) (Fn rfl) rfl (As _ _)) (aF.d1 rfl (Cc (sZ a b) b (aH rfl) rfl rfl rfl rfl) (⟨by kernel_rfl, ⟨.inr rfl, (aM.r1 rfl (.tmp rfl .nil)).cast rfl, rfl⟩⟩)))⟩)
theorem Aq (x : al) : Pure Tryz.prog 124 [x.av] (.tup [qb x.own, qb (dq x.src), qb (dq x.dst)]) := by
 refine Pure.go II mixed Tryz.func124 rfl rfl fun H => ?_
 iterate 2 (refine aB.jc rfl (Fn rfl) rfl (Ld _) ?_)
 exact ⟨rfl, (⟨by kernel_rfl, ⟨.inr rfl, (aM.r3 rfl (.cell eV rfl rfl rfl rfl (.cell eV rfl rfl rfl rfl (.cell eV rfl rfl rfl rfl .nil)))).cast rfl, rfl⟩⟩)⟩
theorem Ii (x : al) : Pure Tryz.prog 197 [x.av] (.sl (x.makes.map eJ)) := by
 refine Pure.go II mixed Tryz.func197 rfl rfl fun H => (aC (fun hc1 => ?_) (fun hc1 => ?_))
 ·exact cD rfl rfl rfl (by simp_all [al.makes, eJ])
 ·refine aC (fun hc2 => ?_) (fun hc2 => ?_)
  ·exact cD rfl rfl rfl (by simp_all [al.makes, eJ])
  ·refine aC (fun hc3 => ?_) (fun hc3 => ?_)
   ·exact cD rfl rfl rfl (by simp_all [al.makes, eJ])
   ·refine aC (fun hc4 => ?_) (fun hc4 => ?_)
    ·exact cD rfl rfl rfl (by simp_all [al.makes, eJ])
    ·refine aC (fun hc5 => ?_) (fun hc5 => ?_)
     ·exact cD rfl rfl rfl (by simp_all [al.makes, eJ])
     ·exact cD rfl rfl rfl (by simp_all [al.makes, eJ])
theorem Lb (x : al) : Pure Tryz.prog 198 [x.av] (.sl (x.dQ.map eJ)) := by
 refine Pure.go II mixed Tryz.func198 rfl rfl fun H => (aC (fun hc1 => ?_) (fun hc1 => ?_))
 ·exact cD rfl rfl rfl (by simp_all [al.dQ, eJ])
 ·refine aC (fun hc2 => ?_) (fun hc2 => ?_)
  ·exact cD rfl rfl rfl (by simp_all [al.dQ, eJ])
  ·refine aC (fun hc3 => ?_) (fun hc3 => ?_)
   ·exact cD rfl rfl rfl (by simp_all [al.dQ, eJ])
   ·refine aC (fun hc4 => ?_) (fun hc4 => ?_)
    ·exact cD rfl rfl rfl (by simp_all [al.dQ, eJ])
    ·exact cD rfl rfl rfl (by simp_all [al.dQ, eJ])
theorem fJ : lk Tryz.prog 86 = some (true, 13) := by kernel_rfl
theorem Cl (x : al) : x.makes.length ≤ 9000000000000000000 := by unfold al.makes; (repeat' split) <;> simp
theorem Di (x : al) : x.dQ.length ≤ 9000000000000000000 := by unfold al.dQ; (repeat' split) <;> simp
theorem km (x : al) {a b c : Int} (h : (x.clean.a = a ∧ x.clean.b = b ∧ x.clean.c = c)) : AV.agg ([.int .i64 x.kind, .int .i64 a, .int .i64 b, .int .i64 c, .int .i64 x.src, .int .i64 x.dst, .int .i64 x.lo, .int .u64 (x.hi : Int), .int .i64 x.part, .sl (x.aE.map eJ)] ++ x.dv.cells) = x.clean.av := by
 obtain ⟨rfl, rfl, rfl⟩ := h
 unfold al.clean
 repeat' split
 all_goals rfl
theorem GS (l : List Int) (hl : l.length ≤ 9000000000000000000) (n : Int) : Pure Tryz.prog 164 [.sl (l.map eJ), .int .i64 n] (.int .i64 (bI (· == n) l 0)) := by
 refine Pure.go II mixed Tryz.func164 rfl rfl fun H => (aG.lq [.s 8, .h, .s 0, .s 1, .s 7] (fun (i : Nat) => [(.s 8, .sv (.v (.int .i64 (i : Int))))]) (fun (i : Nat) => bI (· == n) (l.drop i) i = bI (· == n) l 0) (fun (i : Nat) => l.length - i) 0 rfl rfl rfl ?_)
 rintro i hI
 refine aC (fun hc1 => ?_) (fun hc1 => ?_)
 ·have hi := cz hc1
  refine aB.ii rfl c9 rfl rfl (ca hi) rfl (aC (fun hc2 => ?_) (fun hc2 => ?_))
  ·exact cC rfl rfl rfl (by rw [← hI, bo hi, if_pos (beq_iff_eq.2 (beq_iff_eq.1 hc2).symm)])
  ·exact .b1 8 rfl (inc (by omega)) rfl ⟨i + 1, by omega, by rw [← hI, bo hi, if_neg (fun q => by have e := beq_iff_eq.1 q; rw [e] at hc2; exact absurd hc2 (by simp))], rfl⟩
 ·have hi := dA hc1
  exact cC rfl rfl rfl (by rw [← hI, dT hi])
theorem jw (l : List Int) (hl : l.length ≤ 9000000000000000000) (n : Int) : Pure Tryz.prog 129 [.sl (l.map eJ), .int .i64 n] (.bool (pa l n)) := by
 exact Pure.go II mixed Tryz.func129 rfl rfl fun H => (aB.jc rfl (Fn rfl) rfl (GS l hl n) (cD rfl rfl rfl (congrArg AV.bool nX)))
theorem NQ (x : al) (hr : x.aE.length ≤ 1000000) (r : Int) : Pure Tryz.prog 163 [x.av, .int .i64 r] (.bool (x.has r)) := by
 refine Pure.go II mixed Tryz.func163 rfl rfl fun H => (aC (fun hc1 => ?_) (fun hc1 => ?_))
 ·exact aN rfl rfl rfl (by unfold al.has; grind)
 ·refine aB.jc rfl (Fn rfl) rfl (Ii x) (aB.jc rfl (Fn rfl) rfl (jw _ (Cl x) _) (aC (fun hg2 => ?_) (fun hg2 => ?_)))
  ·exact aN rfl rfl rfl (by unfold al.has; grind)
  ·refine aB.jc rfl (Fn rfl) rfl (Lb x) (aB.jc rfl (Fn rfl) rfl (jw _ (Di x) _) (aC (fun hg3 => ?_) (fun hg3 => ?_)))
   ·exact aN rfl rfl rfl (by unfold al.has; grind)
   ·exact aB.jc rfl (Fn rfl) rfl (jw _ (by omega) _) (aN rfl rfl rfl (by unfold al.has; grind))
theorem Im (x : al) : Pure Tryz.prog 165 [x.av] x.clean.av := by
 refine Pure.go II mixed Tryz.func165 rfl rfl fun H => (aC (fun hc1 => ?_) (fun hc1 => ?_))
 ·exact ⟨.inr rfl, (aM.r1 rfl (.cell fJ rfl rfl rfl rfl .nil)).cast (km x (by unfold al.clean; simp_all)), rfl⟩
 ·refine aC (fun hc2 => ?_) (fun hc2 => ?_)
  ·exact ⟨.inr rfl, (aM.r1 rfl (.cell fJ rfl rfl rfl rfl .nil)).cast (km x (by unfold al.clean; simp_all)), rfl⟩
  ·refine aC (fun hc3 => ?_) (fun hc3 => ?_)
   ·exact ⟨.inr rfl, (aM.r1 rfl (.cell fJ rfl rfl rfl rfl .nil)).cast (km x (by unfold al.clean; simp_all)), rfl⟩
   ·refine aC (fun hc4 => ?_) (fun hc4 => ?_)
    ·exact ⟨.inr rfl, (aM.r1 rfl (.cell fJ rfl rfl rfl rfl .nil)).cast (km x (by unfold al.clean; simp_all)), rfl⟩
    ·refine aC (fun hc5 => ?_) (fun hc5 => ?_)
     ·exact ⟨.inr rfl, (aM.r1 rfl (.cell fJ rfl rfl rfl rfl .nil)).cast (km x (by unfold al.clean; simp_all)), rfl⟩
     ·exact ⟨.inr rfl, (aM.r1 rfl (.cell fJ rfl rfl rfl rfl .nil)).cast (km x (by unfold al.clean; simp_all)), rfl⟩
theorem NU (p q r : Int) (pid qid : Nat) (H : Hp) (hp : H.obj pid = some [.v (.int .i64 p)]) (hq : H.obj qid = some [.v (.int .i64 q)]) : cB Tryz.prog 166 [.int .i64 r, .op pid 0, .op qid 0] H (.int .i64 (pA p q r)) H := by
 refine cB.ah Tryz.func166 rfl rfl (aH rfl) (aK.gn 7 II mixed (aB.n1 1 rfl (bB (aH rfl) ib rfl rfl hp rfl) (aG.ci 2 999 rfl (fun hc1 => ?_) (fun hc1 => ?_))))
 ·exact aB.d1 rfl (bB (aH rfl) ib rfl rfl hq rfl) (cC rfl rfl rfl (by unfold pA; grind))
 ·exact cC rfl rfl rfl (by unfold pA; grind)
theorem Il (y : Port) (x : al) (xid : Nat) (H : Hp) (hX : H.obj xid = some (x.cells.map .v)) : cB Tryz.prog 127 [y.av, .op xid 0] H (.bool (y.reg == x.a)) H := by
 exact cB.ah Tryz.func127 rfl rfl (aH rfl) (aK.gn 9 II mixed (aB.d1 rfl (bB (aH rfl) ib rfl rfl hX rfl) ⟨.inr rfl, (aM.r1 rfl (.tmp rfl .nil)).cast rfl, rfl⟩))
theorem Io (p q : Int) (H : Hp) : cB Tryz.prog 132 [.int .i64 p, .int .i64 q] H (.fn 166 [.op H.next 0, .op (H.next + 1) 0]) ((H.new [.v (.int .i64 p)]).new [.v (.int .i64 q)]) := by
 exact cB.ah Tryz.func132 rfl rfl (aH rfl) (aK.gn 6 II mixed (aG.kept (Kept.qO 2 rfl rfl (Kept.op 2 rfl rfl (Kept.cls 2 rfl rfl rfl rfl (Kept.now (aG.r 0 (aG.kept (Kept.qO 3 rfl rfl (Kept.op 3 rfl rfl (Kept.cls 3 rfl rfl rfl rfl (Kept.now (aG.r 999 (aB.d1 rfl (lJ (aH rfl) rfl) ⟨.inr rfl, (aM.r1 rfl (.tmp rfl .nil)).cast rfl, rfl⟩))))))))))))))
def tq : AV → Nat | .os id _ _ => id | _ => 0
theorem xn {H : Hp} {o : AV} {e : Nat} {xs : List AV} (h : di H o e xs) {i : Nat} (hi : i < xs.length) : H.obj (tq o) = some (aZ xs) := by
 rcases h with ⟨_, rfl⟩ | ⟨id, rfl, h2⟩
 ·exact absurd hi (Nat.not_lt_zero _)
 ·exact h2
theorem eU {H : Hp} {o : AV} {e : Nat} {xs : List AV} (h : isRow H o e xs) {i : Nat} (hi : i < xs.length) : H.obj (tq o) = some (aZ xs) := by
 rcases h with ⟨_, rfl⟩ | h
 ·exact absurd hi (Nat.not_lt_zero _)
 ·exact xn h hi
section
variable {P : Program} {N : Nat} {s : St} {d : Nat} {ty : TypeId} {pos : String} {af : Array Edge} {g : Option (Nat × Bool)}
theorem Ix (hN : d < N) : aW P N ⟨some d, .assign (.const (.slice none 0 0)), ty, pos, af, g⟩ s [] [(.s d, .sv (.v .nsl))] :=
 aW.val rfl hN fun _ _ _ a _ _ _ _ => ⟨.slice none 0 0, rfl, V.nsl⟩
theorem gw {t1 e : TypeId} {x : Operand} {o : AV} {xs : List AV} {H : Hp} {esz : Nat} (hN : d < N) (h1 : P.underlying t1 = some (.slice e)) (hx : cV x s = some o) (ho : isRow H o esz xs) :
  aW P N ⟨some d, .call { callee := .builtin .len, args := #[x], argTypes := #[t1] }, ty, pos, af, g⟩ s (rd x) [(.s d, .sv (.v (.int .i64 (xs.length : Int))))] := by
 rcases ho with ⟨rfl, rfl⟩ | ⟨rfl, rfl⟩ | ⟨id, rfl, h2⟩
 ·exact vg hN h1 hx
 ·exact aW.val rfl hN fun E G L a w t hr hR => by
   have hv := aT hr hR hx
   generalize hav : a.eval x = u at hv
   cases hv
   refine ⟨.int .i64 0, ?_, .int _ _⟩
   simp [execOp, resolve, invoke, builtin, hav, Builtin.len_, run_underlying h1, goInt]
 ·exact FD hN h1 hx
theorem fh {t1 : TypeId} {x i : Operand} {o : AV} {xs : List AV} {H : Hp} {esz : Nat} {k : IntKind} {j : Int} (hN : d < N) (ht : ie P t1 = some esz) (hx : cV x s = some o) (ho : isRow H o esz xs) (hi : cV i s = some (.int k j)) (h0 : 0 ≤ j) (h1 : j < (xs.length : Int)) :
  aW P N ⟨some d, .indexAddr t1 x i, ty, pos, af, g⟩ s (rd x ++ rd i) [(.s d, .sv (.v (.op (tq o) (j.toNat * esz))))] := by
 rcases ho with ⟨rfl, rfl⟩ | ⟨rfl, rfl⟩ | ⟨id, rfl, h2⟩
 ·exfalso; simp at h1; omega
 ·exfalso; simp at h1; omega
 ·exact bR hN ht hx hi h0 h1
end
theorem nJ {α : Type} {l : List α} {i : Nat} (hi : i < l.length) : l.take (i + 1) = l.take i ++ [l[i]] := by
 rw [List.take_add_one, List.getElem?_eq_getElem hi]; rfl
theorem ui (a : List Int) : ∀ (l m : List al) (i : Nat), eW a i (l ++ m) = eW a i l ++ eW a (i + l.length) m
 | [], m, i => by simp [eW]
 | x :: l, m, i => by
  rw [List.cons_append, eW, eW, ui a l m (i + 1), show i + 1 + l.length = i + (x :: l).length from by simp; omega]
  split <;> rfl
theorem tI {a : List Int} {l : List al} {i : Nat} (hi : i < l.length) : eW a 0 (l.take (i + 1)) = eW a 0 (l.take i) ++ if pa a (i : Int) = true then [] else [l[i]] := by
 rw [nJ hi, ui, List.length_take, Nat.min_eq_left (Nat.le_of_lt hi), Nat.zero_add]
 congr 1
theorem sa {l : List al} {i : Nat} (r : Int) (hi : i < l.length) : fR (l.take (i + 1)) r = fR (l.take i) r + if (l[i]).has r = true then 1 else 0 := by
 unfold fR
 rw [nJ hi, List.countP_append, List.countP_cons, List.countP_nil, Nat.zero_add]
theorem Mv.then {K K1 : Hp} {o o1 : AV} {ops : List al} (M : Mv K o K1 o1 ops) (a : al) : Mv K o (kM K1 o1 (aZ (ops.map al.av ++ [a.av]))) (.os K1.next ((ops.map al.av).length + 1) 13) (ops ++ [a]) := by
 have h := Mv.app (o := o1) (ops := ops) M.fin a
 refine ⟨h.fin, Nat.le_trans M.nx h.nx, fun j hj ho => ?_, h.res, .inr ⟨_, _, _, rfl, M.nx⟩⟩
 rw [h.az j (Nat.lt_of_lt_of_le hj M.nx) fun n e e1 => ?_, M.az j hj ho]
 rcases M.fresh with e2 | ⟨id, n2, e2, h1, h2⟩
 ·exact ho n e (e2 ▸ e1)
 ·rw [h1] at e1; cases e1; omega
theorem Fe (l : List al) (r : Int) : fR l r ≤ l.length := List.countP_le_length
theorem kH : ie Tryz.prog 59 = some 13 := by kernel_rfl
theorem gK : lk Tryz.prog 59 = some (false, 1) := by kernel_rfl
theorem pE : Tryz.prog.underlying 59 = some (TypeDesc.slice 86) := Tryz.underlying59
theorem Hp.eS {H : Hp} {id i : Nat} {cs : List Hc} (h : i ≠ id) : (H.set id cs).obj i = H.obj i := by
 show (if i = id then _ else H.obj i) = _
 rw [if_neg h]
theorem FZ.get {S : Nat → Prop} {H0 K : Hp} {A i : Nat} {os : List (AV × AV)} {all : List aQ} {p : aQ} {o : AV × AV} (I : FZ S H0 K A os all) (hp : all[i]? = some p) (ho : os[i]? = some o) : (iB all os)[i]? = some (iH p o) := nj hp ho
def Jj (S : Nat → Prop) (H0 K : Hp) (A : Nat) (os : List (AV × AV)) (all : List aQ) (i : Nat) (q : aQ) : AV → Hp → Prop := fun r K' => r = .tup [] ∧ K.next ≤ K'.next ∧ ∃ o', FZ S H0 K' A (os.set i o') (all.set i q)
theorem Mv.nk {K K1 : Hp} {o1 : AV} {ops : List al} (M : Mv K .nsl K1 o1 ops) {j : Nat} (hj : j < K.next) : K1.obj j = K.obj j := M.az j hj fun _ _ e => by cases e
theorem Mv.Oh {K K1 : Hp} {o1 : AV} {ops : List al} (M : Mv K .nsl K1 o1 ops) {id : Nat} (h : cP o1 = some id) : K.next ≤ id := by
 obtain ⟨n, e, h2⟩ := uZ h
 rcases M.fresh with e2 | ⟨id2, n2, e2, h1, h3⟩
 ·rw [e2] at h; cases h
 ·rw [h1] at h2; cases h2; exact h3
theorem FZ.drop {S : Nat → Prop} {H0 K K1 : Hp} {A i : Nat} {os : List (AV × AV)} {all : List aQ} {p : aQ} {o : AV × AV} {o1 : AV} (I : FZ S H0 K A os all) (hp : all[i]? = some p) (ho : os[i]? = some o) {at_ : List Int} (M : Mv K .nsl K1 o1 (eW at_ 0 p.ops)) :
  Jj S H0 K A os all i (p.drop at_) (.tup []) (K1.set A (aZ ((iB all os).set i (iH (p.drop at_) (o1, o.2))))) := by
 have hA := I.alt
 have hn := M.nx
 have hi := (List.getElem?_eq_some_iff.1 hp).1
 have hlow : ∀ j, j < K.next → j ≠ A → (K1.set A (aZ ((iB all os).set i (iH (p.drop at_) (o1, o.2))))).obj j = K.obj j := fun j hj hne => by rw [Hp.eS hne]; exact M.nk hj
 refine ⟨rfl, hn, (o1, o.2), I.put hp ho (lA M.fin (Nat.lt_of_lt_of_le hA hn) _) hn (fun j hj hne _ _ => hlow j hj hne) (by rw [Hp.bN, wS]) ?_ ?_ (.inr fun id h => M.Oh h) (.inl rfl) fun id h1 h2 => ?_⟩
 ·exact dX (.inr M.res) fun id h => Hp.eS (by have := M.Oh h; omega)
 ·exact dX (I.ops _ _ _ ho hp).2 fun id h => hlow id (I.vv ho (.inr h)) (I.ids _ _ _ ho (.inr h)).2
 ·have := M.Oh h1; have := I.vv ho (.inr h2); omega
theorem vc {l : List al} {j : Nat} (hj : j < l.length) : (l.map al.av)[((j : Nat) : Int).toNat]? = some (.agg l[j].cells) := by
 rw [Int.toNat_natCast, List.getElem?_map, List.getElem?_eq_getElem hj]; rfl
theorem zr {H : Hp} {o : AV} {e : Nat} {xs : List AV} (h : di H o e xs) : o.flat = true := by
 rcases h with ⟨rfl, _⟩ | ⟨id, rfl, _⟩ <;> rfl
theorem uQ {H : Hp} {o : AV} {e : Nat} {xs : List AV} (h : isRow H o e xs) : o.flat = true := by
 rcases h with ⟨rfl, _⟩ | ⟨rfl, _⟩ | ⟨id, rfl, _⟩ <;> rfl
theorem rf {H : Hp} {o : AV} {e : Nat} {xs : List AV} (h : isRow H o e xs) {i : Nat} (hi : i < xs.length) : cP o = some (tq o) := by
 rcases h with ⟨_, rfl⟩ | ⟨_, rfl⟩ | ⟨id, rfl, h2⟩
 ·exact absurd hi (Nat.not_lt_zero _)
 ·exact absurd hi (Nat.not_lt_zero _)
 ·rfl
theorem u7 {H : Hp} {o : AV} {e : Nat} {xs : List AV} (h : di H o e xs) {i : Nat} (hi : i < xs.length) : cP o = some (tq o) := by
 rcases h with ⟨_, rfl⟩ | ⟨id, rfl, h2⟩
 ·exact absurd hi (Nat.not_lt_zero _)
 ·rfl
theorem Nx {a : Nat} (h : a < 9000000000000000000) : tZ .add (.int .i64 (a : Int)) (.int .i64 1) = some (.int .i64 ((a + 1 : Nat) : Int)) := AS (by omega) (by omega)
theorem Fc {l : List al} {r : Int} {j : Nat} (h : l.length ≤ 1000000) : fR (l.take j) r < 9000000000000000000 := by have := Fe (l.take j) r; rw [List.length_take] at this; omega
theorem v7 {S : Nat → Prop} {H0 K : Hp} {A i : Nat} {os : List (AV × AV)} {all : List aQ} {p : aQ} {o : AV × AV} (I : FZ S H0 K A os all) (hp : all[i]? = some p) (ho : os[i]? = some o) (hl : p.ops.length ≤ 1000000) (hr : ∀ x ∈ p.ops, x.aE.length ≤ 1000000) (r : Int) : cB Tryz.prog 128 [.op A (i * 7), .int .i64 r] K (.int .i64 (fR p.ops r : Int)) K := by
 refine cB.ah Tryz.func128 rfl rfl (aH rfl) (aK.gn 12 II mixed (aB.n1 0 rfl (da (aH rfl) gK rfl rfl I.row (eC _ _) rfl (I.get hp ho) rfl) (aB.d1 rfl (gw (aH rfl) pE rfl (I.ops _ _ _ ho hp).1) (aG.lq [.s 13, .s 5, .h, .s 1, .s 11, .s 12] (fun ((j, c) : Nat × Nat) => [(.s 13, .sv (.v (.int .i64 (j : Int)))), (.s 5, .sv (.v (.int .i64 (c : Int))))]) (fun ((j, c) : Nat × Nat) => c = fR (p.ops.take j) r) (fun ((j, c) : Nat × Nat) => p.ops.length - j) (0, 0) rfl rfl rfl ?_))))
 rintro ⟨j, c⟩ hI
 refine aC (fun hc1 => ?_) (fun hc1 => ?_)
 ·have hj := cz hc1
  refine aB.n1 0 rfl (fh (aH rfl) kH rfl (I.ops _ _ _ ho hp).1 rfl (Int.natCast_nonneg _) (by rw [List.length_map]; omega)) ?_
  refine aB.d1 rfl (eE (aH rfl) fJ rfl rfl (eU (I.ops _ _ _ ho hp).1 (by rw [List.length_map]; exact hj)) (fN _) rfl (vc hj)) ?_
  refine aB.jn 0 rfl (Fn rfl) rfl (NQ _ (hr _ (List.getElem_mem hj)) _) (aG.ci 2 999 rfl (fun hc2 => ?_) (fun hc2 => ?_))
  ·refine aB.d1 rfl (iU (aH rfl) rfl rfl (Nx (a := c) (by rw [hI]; exact Fc hl))) ?_
   exact .b1 13 rfl (inc (by omega)) rfl ⟨(j + 1, c + 1), by dsimp only; omega, by dsimp only; rw [sa r hj, if_pos hc2, hI], rfl⟩
  ·exact .b1 13 rfl (inc (by omega)) rfl ⟨(j + 1, c), by dsimp only; omega, by dsimp only; rw [sa r hj, if_neg (by rw [hc2]; simp), Nat.add_zero, hI], rfl⟩
 ·have hj := dA hc1
  exact cC rfl rfl rfl (by rw [hI, List.take_of_length_le (by omega)])
theorem sJ {S : Nat → Prop} {H0 K : Hp} {A i : Nat} {os : List (AV × AV)} {all : List aQ} {p : aQ} {o : AV × AV} (I : FZ S H0 K A os all) (hp : all[i]? = some p) (ho : os[i]? = some o) (hl : p.ops.length ≤ 1000000) (at_ : List Int) (hat : at_.length ≤ 9000000000000000000) : iL Tryz.prog 87 [.op A (i * 7), .sl (at_.map eJ)] K (Jj S H0 K A os all i (p.drop at_)) := by
 refine iL.ah Tryz.func87 rfl rfl (aH rfl) (aK.gn 2 II mixed (aB.n1 6 rfl (Ix (aH rfl)) (aB.n1 0 rfl (da (aH rfl) gK rfl rfl I.row (eC _ _) rfl (I.get hp ho) rfl) (aB.d1 rfl (gw (aH rfl) pE rfl (I.ops _ _ _ ho hp).1) (aG.lp 4 [.s 12, .s 4, .h, .s 0, .s 1, .s 10, .s 11] (fun ((j, o1, K1) : Nat × AV × Hp) => [(.s 12, .sv (.v (.int .i64 (j : Int)))), (.s 4, .sv (.v o1)), (.h, .hp K1)]) (fun ((j, o1, K1) : Nat × AV × Hp) => Mv K .nsl K1 o1 (eW at_ 0 (p.ops.take j))) (fun ((j, o1, K1) : Nat × AV × Hp) => p.ops.length - j) (0, .nsl, K) rfl rfl (Mv.same I.fin (.inl ⟨rfl, rfl⟩)) ?_)))))
 rintro ⟨j, o1, K1⟩ hI
 refine aG.ci 999 6 rfl (fun hc1 => ?_) (fun hc1 => ?_)
 ·have hj := cz hc1
  refine aB.n1 0 rfl (fh (aH rfl) kH rfl (I.ops _ _ _ ho hp).1 rfl (Int.natCast_nonneg _) (by rw [List.length_map]; omega)) ?_
  refine aB.d1 rfl (eE (aH rfl) fJ rfl rfl (by rw [hI.nk (vT I.fin (I.ops _ _ _ ho hp).1 ((rf (I.ops _ _ _ ho hp).1 (by rw [List.length_map]; exact hj))))]; exact eU (I.ops _ _ _ ho hp).1 (by rw [List.length_map]; exact hj)) (fN _) rfl (vc hj)) ?_
  refine aB.jc rfl (Fn rfl) rfl (jw at_ hat _) (aC (fun hc2 => ?_) (fun hc2 => ?_))
  ·refine aB.d3 rfl (lK (aH rfl) iT fy rfl rfl hI.res (fN _) rfl rfl (List.cons_ne_nil _ _) rfl (by have := (dx at_ (p.ops.take j) 0).length_le; rw [List.length_take] at this; simp only [LL]; omega) (by have := (dx at_ (p.ops.take j) 0).length_le; rw [List.length_take] at this; simp only [LL]; omega)) ?_
   exact .b1 12 rfl (inc (by omega)) rfl ⟨(j + 1, _, _), by dsimp only; omega, by dsimp only; rw [tI hj, if_neg (by simpa using hc2)]; exact hI.then _, rfl⟩
  ·exact .b1 12 rfl (inc (by omega)) rfl ⟨(j + 1, o1, K1), by dsimp only; omega, by dsimp only; rw [tI hj, if_pos (by simpa using hc2), List.append_nil]; exact hI, rfl⟩
 ·have hj := dA hc1
  refine aB.d1 rfl (zV gK rfl rfl (by rw [hI.nk I.alt]; exact I.row) rfl (zr hI.res) (eC _ _) rfl (I.get hp ho) (aH rfl)) ?_
  exact ⟨.inl rfl, _, _, (I.drop hp ho (by have h := hI; dsimp only at h; rwa [List.take_of_length_le (by omega)] at h)), aM.r0 rfl, rfl⟩
theorem yj : Tryz.prog.underlying 58 = some (TypeDesc.slice 117) := Tryz.underlying58
theorem Ec {l : List Port} {j : Nat} (hj : j < l.length) : (l.map Port.av)[((j : Nat) : Int).toNat]? = some (.agg l[j].cells) := by
 rw [Int.toNat_natCast, List.getElem?_map, List.getElem?_eq_getElem hj]; rfl
theorem Ns {p : aQ} (h : (((p.ops.map al.av).length : Int) == 0) = false) : tQ p = false := by
 unfold tQ
 cases e : p.ops with
 | nil => rw [e] at h; simp at h
 | cons x l => rfl
theorem Nr {p : aQ} (h : (((p.outs.map Port.av).length : Int) == 1) = false) : tQ p = false := by
 unfold tQ
 cases e1 : p.ops with
 | cons x l => rfl
 | nil => cases e : p.outs with
  | nil => rfl
  | cons x l => cases l with
   | nil => rw [e] at h; simp at h
   | cons y l => rfl
theorem Nq {p : aQ} (h0 : (((p.ops.map al.av).length : Int) == 0) = true) (h1 : (((p.outs.map Port.av).length : Int) == 1) = true) (hi : p.ins ≠ []) : tQ p = ((p.outs.headD ft).reg == (p.ins.headD ft).reg) := by
 unfold tQ
 cases e1 : p.ops with
 | cons x l => rw [e1] at h0; simp at h0; omega
 | nil => cases e : p.outs with
  | nil => rw [e] at h1; simp at h1
  | cons x l => cases l with
   | cons y l => rw [e] at h1; simp at h1; omega
   | nil => cases e2 : p.ins with
    | nil => exact absurd e2 hi
    | cons z l => rfl
theorem BU {l : List Port} (h : l ≠ []) : (l.map Port.av)[((0 : Int)).toNat]? = some (.agg (l.headD ft).cells) := by
 cases l with
 | nil => exact absurd rfl h
 | cons x l => rfl
theorem zZ {p : aQ} (h1 : (((p.outs.map Port.av).length : Int) == 1) = true) : p.outs ≠ [] := by
 intro e; rw [e] at h1; simp at h1
theorem Lj (o : AV) (l : List Port) (H : Hp) (hO : isRow H o 9 (l.map Port.av)) (hl : l.length ≤ 1000000) (F : FuncId) (caps : List AV) (p : Port → Bool) (hF : gj Tryz.prog F = true) (hp : ∀ x ∈ l, cB Tryz.prog F ([x.av] ++ caps) H (.bool (p x)) H) : cB Tryz.prog 144 [o, .fn F caps] H (.int .i64 (bI p l 0)) H := by
 refine cB.ah Tryz.func144 rfl rfl (aH rfl) (aK.gn 7 II mixed (aB.d1 rfl (gw (aH rfl) yj rfl hO) (aG.lq [.s 8, .h, .s 0, .s 1, .s 7] (fun (i : Nat) => [(.s 8, .sv (.v (.int .i64 (i : Int))))]) (fun (i : Nat) => bI p (l.drop i) i = bI p l 0) (fun (i : Nat) => l.length - i) 0 rfl rfl rfl ?_)))
 rintro i hI
 refine aC (fun hc1 => ?_) (fun hc1 => ?_)
 ·have hi := cz hc1
  refine aB.n1 0 rfl (fh (aH rfl) cN rfl hO rfl (Int.natCast_nonneg _) (by rw [List.length_map]; omega)) ?_
  refine aB.d1 rfl (eE (aH rfl) fZ rfl rfl (eU hO (by rw [List.length_map]; exact hi)) (lE _) rfl (Ec hi)) ?_
  refine aB.d2 rfl (pQ (aH rfl) hF rfl rfl rfl (hp _ (List.getElem_mem hi))) (aC (fun hc2 => ?_) (fun hc2 => ?_))
  ·exact cC rfl rfl rfl (by rw [← hI, bo hi, if_pos hc2])
  ·exact .b1 8 rfl (inc (by omega)) rfl ⟨i + 1, by omega, by rw [← hI, bo hi, hc2]; rfl, rfl⟩
 ·have hi := dA hc1
  exact cC rfl rfl rfl (by rw [← hI, dT hi])
theorem xQ (o : AV) (l : List Port) (H : Hp) (hO : isRow H o 9 (l.map Port.av)) (hl : l.length ≤ 1000000) (F : FuncId) (caps : List AV) (p : Port → Bool) (hF : gj Tryz.prog F = true) (hp : ∀ x ∈ l, cB Tryz.prog F ([x.av] ++ caps) H (.bool (p x)) H) : cB Tryz.prog 126 [o, .fn F caps] H (.bool (l.any p)) H := by
 exact cB.ah Tryz.func126 rfl rfl (aH rfl) (aK.go II mixed (aB.d1 rfl (bu (aH rfl) (Fn rfl) rfl rfl (Lj o l H hO hl F caps p hF hp)) (cD rfl rfl rfl (congrArg AV.bool nX))))
theorem NT (p : aQ) (o : AV × AV) (K : Hp) (h1 : isRow K o.1 13 (p.ops.map al.av)) (h2 : isRow K o.2 9 (p.outs.map Port.av)) (hin : p.ins ≠ []) : cB Tryz.prog 133 [iH p o] K (.bool (tQ p)) K := by
 refine cB.ah Tryz.func133 rfl rfl (aH rfl) (aK.gn 8 II mixed ⟨rfl, (aF.n1 2 rfl (gw (aH rfl) pE rfl h1) (aF.ti 2 999 rfl (fun hg1 => ?_) (fun hg1 => ?_)))⟩)
 ·refine aF.d1 rfl (gw (aH rfl) yj rfl h2) (aC (fun hg2 => ?_) (fun hg2 => ?_))
  ·refine aF.n1 1 rfl (fh (aH rfl) cN rfl h2 rfl (by decide) (by have := zZ hg2; cases e : p.outs with | nil => exact absurd e this | cons x l => simp only [List.map_cons, List.length_cons]; omega)) ?_
   refine aF.d1 rfl (da (aH rfl) ib rfl rfl (eU (i := 0) h2 (by rw [List.length_map]; exact List.length_pos_iff.2 (zZ hg2))) (lE _) rfl (BU (zZ hg2)) rfl) ?_
   exact aF.d1 rfl (ak (aH rfl) cN rfl rfl (by decide) (BU hin) rfl) ⟨by kernel_rfl, (cD rfl rfl rfl (congrArg AV.bool (Nq hg1 hg2 hin).symm))⟩
  ·exact ⟨by kernel_rfl, (cD rfl rfl rfl (congrArg AV.bool (Nr hg2).symm))⟩
 ·exact ⟨by kernel_rfl, (cD rfl rfl rfl (congrArg AV.bool (Ns hg1).symm))⟩
theorem MQ : lk Tryz.prog 79 = some (false, 1) := by kernel_rfl
theorem tw {all : List aQ} {os : List (AV × AV)} {i : Nat} {p q : aQ} {o : AV × AV} (hp : all[i]? = some p) (ho : os[i]? = some o) (h : ∀ o, iH q o = iH p o) : iB (all.set i q) os = iB all os := by
 have h1 := wS (all := all) (os := os) (i := i) (p := q) (o := o)
 have h2 := (List.getElem?_eq_some_iff.1 ho)
 rw [show os.set i o = os from by obtain ⟨h3, h4⟩ := h2; rw [← h4]; exact List.set_getElem_self h3] at h1
 rw [← h1, h]
 have h5 := List.getElem?_eq_some_iff.1 (nj hp ho)
 obtain ⟨h3, h4⟩ := h5
 rw [← h4]; exact List.set_getElem_self h3
theorem fM {α : Type} {l : List α} {i : Nat} {x : α} (h : l[i]? = some x) : l.set i x = l := by
 obtain ⟨h3, h4⟩ := List.getElem?_eq_some_iff.1 h
 rw [← h4]; exact List.set_getElem_self h3
theorem u6 {K : Hp} {o : AV} {e : Nat} {xs ys : List AV} (h : di K o e xs) (hl : ys.length = xs.length) (h0 : 0 < xs.length) : di (K.set (tq o) (aZ ys)) o e ys := by
 rcases h with ⟨_, rfl⟩ | ⟨id, rfl, h2⟩
 ·exact absurd h0 (Nat.lt_irrefl _)
 ·exact .inr ⟨id, by rw [hl], Hp.bN⟩
theorem wo {K : Hp} {o : AV} {e : Nat} {xs ys : List AV} (h : isRow K o e xs) (hl : ys.length = xs.length) (h0 : 0 < xs.length) : isRow (K.set (tq o) (aZ ys)) o e ys := by
 rcases h with ⟨_, rfl⟩ | h
 ·exact absurd h0 (Nat.lt_irrefl _)
 ·exact .inr (u6 h hl h0)
theorem FZ.EJ {S : Nat → Prop} {H0 K : Hp} {A i : Nat} {os : List (AV × AV)} {all : List aQ} {p : aQ} {o : AV × AV} (I : FZ S H0 K A os all) (hp : all[i]? = some p) (ho : os[i]? = some o) {l : List al} (hl : l.length = p.ops.length) (h0 : 0 < p.ops.length) : FZ S H0 (K.set (tq o.1) (aZ (l.map al.av))) A os (all.set i { p with ops := l }) := by
 have h1 := (I.ops _ _ _ ho hp)
 have hid := rf h1.1 (i := 0) (by simpa using h0)
 have hlt := I.vv ho (.inl hid)
 have hne := (I.ids _ _ _ ho (.inl hid)).2
 have := I.put (q := { p with ops := l }) (o' := o) (K' := K.set (tq o.1) (aZ (l.map al.av))) hp ho (lA I.fin hlt _) (Nat.le_refl _) (fun j _ _ h _ => Hp.eS fun e => h (by rw [e]; exact hid)) (by rw [Hp.eS hne.symm, fM ho, tw (q := { p with ops := l }) hp ho fun _ => rfl]; exact I.row)
  (wo h1.1 (by simp [hl]) (by simpa using h0)) (dX h1.2 fun id h => Hp.eS fun e => I.own _ _ _ ho hid (e ▸ h)) (.inl rfl) (.inl rfl) (I.own _ _ · ho)
 rwa [fM ho] at this
theorem FZ.Hn {S : Nat → Prop} {H0 K : Hp} {A i : Nat} {os : List (AV × AV)} {all : List aQ} {p : aQ} {o : AV × AV} (I : FZ S H0 K A os all) (hp : all[i]? = some p) (ho : os[i]? = some o) {l : List Port} (hl : l.length = p.outs.length) (h0 : 0 < p.outs.length) : FZ S H0 (K.set (tq o.2) (aZ (l.map Port.av))) A os (all.set i { p with outs := l }) := by
 have h1 := (I.ops _ _ _ ho hp)
 have hid := rf h1.2 (i := 0) (by simpa using h0)
 have hlt := I.vv ho (.inr hid)
 have hne := (I.ids _ _ _ ho (.inr hid)).2
 have := I.put (q := { p with outs := l }) (o' := o) (K' := K.set (tq o.2) (aZ (l.map Port.av))) hp ho (lA I.fin hlt _) (Nat.le_refl _) (fun j _ _ _ h => Hp.eS fun e => h (by rw [e]; exact hid)) (by rw [Hp.eS hne.symm, fM ho, tw (q := { p with outs := l }) hp ho fun _ => rfl]; exact I.row)
  (dX h1.1 fun id h => Hp.eS fun e => I.own _ _ _ ho h (e ▸ hid)) (wo h1.2 (by simp [hl]) (by simpa using h0)) (.inl rfl) (.inl rfl) (I.own _ _ · ho)
 rwa [fM ho] at this
theorem n7 {p : aQ} {x : al} (h : x.kind = 1) : mz p x = (G7 x.own (dq x.src) && G7 x.own (dq x.dst)) := by unfold mz; rw [if_pos h]
theorem n5 {p : aQ} {x : al} (h : x.kind = 7) : mz p x = (((x.dv.n : Int) == 0) && x.dv.s == [] && !(p.outs.any fun y => y.reg == x.a) && ((fR p.ops x.a : Int) == 1)) := by
 unfold mz
 rw [if_neg (by omega), if_pos h]
 congr 1
 ·congr 1; congr 1
  rw [Bool.eq_iff_iff]; simp
 ·rw [Bool.eq_iff_iff]; simp; omega
theorem n8 {p : aQ} {x : al} (h : ¬ x.kind = 1) (h2 : ¬ x.kind = 7) : mz p x = false := by unfold mz; rw [if_neg h, if_neg h2]
theorem sM {l : List al} {j : Nat} {x : al} (h : l[j]? = some x) : (l.map al.av)[((j : Nat) : Int).toNat]? = some (.agg x.cells) := by
 rw [Int.toNat_natCast, List.getElem?_map, h]; rfl
theorem bn {α : Type} {l : List α} {j : Nat} {x : α} (h : l[j]? = some x) : j < l.length := (List.getElem?_eq_some_iff.1 h).1
theorem M7 {S : Nat → Prop} {H0 K : Hp} {A i : Nat} {os : List (AV × AV)} {all : List aQ} {p : aQ} {o : AV × AV} (I : FZ S H0 K A os all) (hp : all[i]? = some p) (ho : os[i]? = some o) (hl : p.ops.length ≤ 1000000) {j k : Nat} {x y : al} (hx : p.ops[j]? = some x) (hy : p.ops[k]? = some y) : iL Tryz.prog 130 [.op A (i * 7), .int .i64 (j : Int), .int .i64 (k : Int)] K (Jj S H0 K A os all i (aQ.drop [(k : Int)] { p with ops := p.ops.set j (mU x y) })) := by
 refine iL.ah Tryz.func130 rfl rfl (aH rfl) (aK.gn 5 II mixed ⟨rfl, (aF.d1 rfl (da (aH rfl) gK rfl rfl I.row (eC _ _) rfl (I.get hp ho) rfl) (aF.n1 0 rfl (fh (aH rfl) kH rfl (I.ops _ _ _ ho hp).1 rfl (Int.natCast_nonneg _) (by rw [List.length_map]; have := bn hx; omega)) ?_))⟩)
 refine aF.n1 3 rfl (eE (aH rfl) fJ rfl rfl (eU (I.ops _ _ _ ho hp).1 (by rw [List.length_map]; exact bn hx)) (fN _) rfl (sM hx)) ?_
 refine aF.d1 rfl (da (aH rfl) gK rfl rfl I.row (eC _ _) rfl (I.get hp ho) rfl) (aF.n1 0 rfl (fh (aH rfl) kH rfl (I.ops _ _ _ ho hp).1 rfl (Int.natCast_nonneg _) (by rw [List.length_map]; have := bn hy; omega)) ?_)
 refine aF.d1 rfl (eE (aH rfl) fJ rfl rfl (eU (I.ops _ _ _ ho hp).1 (by rw [List.length_map]; exact bn hy)) (fN _) rfl (sM hy)) ?_
 refine ⟨by kernel_rfl, ?_⟩
 iterate 2 (refine aB.jc rfl (Fn rfl) rfl (Aq _) ?_)
 refine aB.jn 21 rfl (Fn rfl) rfl (As _ _) (⟨rfl, (⟨by kernel_rfl, ⟨rfl, (aF.d1 rfl (da (aH rfl) gK rfl rfl I.row (eC _ _) rfl (I.get hp ho) rfl) (aF.n1 0 rfl (fh (aH rfl) kH rfl (I.ops _ _ _ ho hp).1 rfl (Int.natCast_nonneg _) (by rw [List.length_map]; have := bn hx; omega)) ?_))⟩⟩)⟩)
 refine aF.n1 0 rfl (lI fJ rfl rfl (eU (I.ops _ _ _ ho hp).1 (by rw [List.length_map]; exact bn hx)) rfl (fN _) rfl (by rw [Int.toNat_natCast, List.length_map]; exact bn hx) rfl) ?_
 refine ⟨by kernel_rfl, aG.kept (Kept.ly rfl (show _ = K.set (tq o.1) (aZ ((p.ops.set j (mU x y)).map al.av)) from by rw [Int.toNat_natCast, List.map_set]; rfl) (Kept.now (aG.r 999 ?_)))⟩
 refine aB.cq 999 (aH rfl) (Fn rfl) rfl rfl (sJ (FZ.EJ I hp ho (l := p.ops.set j (mU x y)) (List.length_set ..) (Nat.zero_lt_of_lt (bn hx))) (List.getElem?_set_self (bn hp)) ho (by simpa using hl) [(k : Int)] (by simp)) (fun r1 K1 hP1 => ?_)
 obtain ⟨rfl, hN, o1, hZ⟩ := hP1
 exact ⟨.inl rfl, _, _, (⟨rfl, hN, o1, by rw [List.set_set] at hZ; exact hZ⟩), aM.r0 rfl, rfl⟩
theorem Lm {S : Nat → Prop} {H0 K : Hp} {A i : Nat} {os : List (AV × AV)} {all : List aQ} {p : aQ} {o : AV × AV} (I : FZ S H0 K A os all) (hp : all[i]? = some p) (ho : os[i]? = some o) (hl : p.ops.length ≤ 1000000) (hu : p.outs.length ≤ 1000000) (hr : ∀ x ∈ p.ops, x.aE.length ≤ 1000000) (x : al) : cB Tryz.prog 86 [.op A (i * 7), x.av] K (.bool (mz p x)) K := by
 refine cB.jA Tryz.func86 rfl rfl (aH rfl) (.bool _) (aK.gn 14 II mixed (aG.ci 999 4 rfl (fun hc1 => ?_) (fun hc1 => ?_)))
 ·refine aB.jc rfl (Fn rfl) rfl (Aq _) (aB.jc rfl (Fn rfl) rfl (Em _ _) (aC (fun hg2 => ?_) (fun hg2 => ?_)))
  ·exact aB.jc rfl (Fn rfl) rfl (Em _ _) (⟨.inr rfl, (aM.r1 rfl (.tmp rfl .nil)).cast (congrArg AV.bool (by first | (rw [n7 (by simpa using hc1)]; grind) | (rw [n5 (by simpa using hc3)]; grind) | (exact (n8 (by simpa using hc1) (by simpa using hc3)).symm))), ⟨_, rfl, by first | exact ⟨Nat.le_refl _, fun _ _ => rfl⟩ | exact ⟨Nat.le_succ _, fun j hj => Hp.cr _ _ hj⟩⟩⟩)
  ·exact ⟨.inr rfl, (aM.r1 rfl (.tmp rfl .nil)).cast (congrArg AV.bool (by first | (rw [n7 (by simpa using hc1)]; grind) | (rw [n5 (by simpa using hc3)]; grind) | (exact (n8 (by simpa using hc1) (by simpa using hc3)).symm))), ⟨_, rfl, by first | exact ⟨Nat.le_refl _, fun _ _ => rfl⟩ | exact ⟨Nat.le_succ _, fun j hj => Hp.cr _ _ hj⟩⟩⟩
 ·refine aG.ci 1 999 rfl (fun hc3 => ?_) (fun hc3 => ?_)
  ·refine aG.kept (Kept.qO 3 rfl rfl (Kept.op 3 rfl rfl (Kept.cls 3 rfl rfl rfl rfl (Kept.now (aG.r 4 (aB.d1 rfl (da (aH rfl) fk rfl rfl ((Hp.cr _ _ I.alt).trans I.row) (eC _ _) rfl (I.get hp ho) rfl) (aB.d1 rfl (lJ (aH rfl) rfl) (aB.n1 5 rfl (bu (aH rfl) (Fn rfl) rfl rfl (xQ o.2 p.outs _ (dX (I.ops _ _ _ ho hp).2 fun id h => Hp.cr _ _ (I.vv ho (.inr h))) hu _ _ (fun y => y.reg == x.a) (by kernel_rfl) fun y hy => Il y x _ _ (Hp.dd _ _))) (aB.n1 2 rfl (bB (aH rfl) MQ rfl rfl (Hp.dd _ _) rfl) (aB.ti 2 999 rfl (fun hg4 => ?_) (fun hg4 => ?_)))))))))))
   ·refine aB.n1 3 rfl (bB (aH rfl) sd rfl rfl (Hp.dd _ _) rfl) (aB.ti 4 999 rfl (fun hg5 => ?_) (fun hg5 => ?_))
    ·refine aB.ti 2 999 rfl (fun hg6 => ?_) (fun hg6 => ?_)
     ·exact aB.d1 rfl (bB (aH rfl) ib rfl rfl (Hp.dd _ _) rfl) (aB.d1 rfl (bu (aH rfl) (Fn rfl) rfl rfl (v7 (I.more (fY I.fin _) (Nat.le_succ _) fun j hj => Hp.cr _ _ hj) hp ho hl hr _)) (⟨.inr rfl, (aM.r1 rfl (.tmp rfl .nil)).cast (congrArg AV.bool (by first | (rw [n7 (by simpa using hc1)]; grind) | (rw [n5 (by simpa using hc3)]; grind) | (exact (n8 (by simpa using hc1) (by simpa using hc3)).symm))), ⟨_, rfl, by first | exact ⟨Nat.le_refl _, fun _ _ => rfl⟩ | exact ⟨Nat.le_succ _, fun j hj => Hp.cr _ _ hj⟩⟩⟩))
     ·exact ⟨.inr rfl, (aM.r1 rfl (.tmp rfl .nil)).cast (congrArg AV.bool (by first | (rw [n7 (by simpa using hc1)]; grind) | (rw [n5 (by simpa using hc3)]; grind) | (exact (n8 (by simpa using hc1) (by simpa using hc3)).symm))), ⟨_, rfl, by first | exact ⟨Nat.le_refl _, fun _ _ => rfl⟩ | exact ⟨Nat.le_succ _, fun j hj => Hp.cr _ _ hj⟩⟩⟩
    ·exact ⟨.inr rfl, (aM.r1 rfl (.tmp rfl .nil)).cast (congrArg AV.bool (by first | (rw [n7 (by simpa using hc1)]; grind) | (rw [n5 (by simpa using hc3)]; grind) | (exact (n8 (by simpa using hc1) (by simpa using hc3)).symm))), ⟨_, rfl, by first | exact ⟨Nat.le_refl _, fun _ _ => rfl⟩ | exact ⟨Nat.le_succ _, fun j hj => Hp.cr _ _ hj⟩⟩⟩
   ·exact ⟨.inr rfl, (aM.r1 rfl (.tmp rfl .nil)).cast (congrArg AV.bool (by first | (rw [n7 (by simpa using hc1)]; grind) | (rw [n5 (by simpa using hc3)]; grind) | (exact (n8 (by simpa using hc1) (by simpa using hc3)).symm))), ⟨_, rfl, by first | exact ⟨Nat.le_refl _, fun _ _ => rfl⟩ | exact ⟨Nat.le_succ _, fun j hj => Hp.cr _ _ hj⟩⟩⟩
  ·exact ⟨.inr rfl, (aM.r1 rfl (.tmp rfl .nil)).cast (congrArg AV.bool (by first | (rw [n7 (by simpa using hc1)]; grind) | (rw [n5 (by simpa using hc3)]; grind) | (exact (n8 (by simpa using hc1) (by simpa using hc3)).symm))), ⟨_, rfl, by first | exact ⟨Nat.le_refl _, fun _ _ => rfl⟩ | exact ⟨Nat.le_succ _, fun j hj => Hp.cr _ _ hj⟩⟩⟩
theorem xl {H : Hp} {o : AV} {e : Nat} {xs : List AV} (h : isRow H o e xs) {i : Nat} (hi : i < xs.length) : H.obj (tq o) = some (aZ xs) := by
 rcases h with ⟨_, rfl⟩ | h
 ·exact absurd hi (Nat.not_lt_zero _)
 ·exact xn h hi
section
variable {P : Program} {N : Nat} {s : St} {d : Nat} {ty : TypeId} {pos : String} {af : Array Edge} {g : Option (Nat × Bool)}
theorem Iv {t1 e : TypeId} {x : Operand} {o : AV} {xs : List AV} {H : Hp} {esz : Nat} (hN : d < N) (h1 : P.underlying t1 = some (.slice e)) (hx : cV x s = some o) (ho : isRow H o esz xs) :
  aW P N ⟨some d, .call { callee := .builtin .len, args := #[x], argTypes := #[t1] }, ty, pos, af, g⟩ s (rd x) [(.s d, .sv (.v (.int .i64 (xs.length : Int))))] := gw hN h1 hx ho
theorem FJ {t1 : TypeId} {x i : Operand} {o : AV} {xs : List AV} {H : Hp} {esz : Nat} {k : IntKind} {j : Int} (hN : d < N) (ht : ie P t1 = some esz) (hx : cV x s = some o) (ho : isRow H o esz xs) (hi : cV i s = some (.int k j)) (h0 : 0 ≤ j) (h1 : j < (xs.length : Int)) :
  aW P N ⟨some d, .indexAddr t1 x i, ty, pos, af, g⟩ s (rd x ++ rd i) [(.s d, .sv (.v (.op (tq o) (j.toNat * esz))))] := fh hN ht hx ho hi h0 h1
end
def vy (K : Hp) (o : AV) : Hp := match o with | .os id _ _ => K.del id | _ => K
def Pe (K : Hp) (l : List Int) : AV → Hp → Prop := fun o K' => isRow K' o 1 (l.map eJ) ∧ K'.fin ∧ K.next ≤ K'.next ∧ (∀ j, j < K.next → K'.obj j = K.obj j) ∧ (∀ id, cP o = some id → K.next ≤ id) ∧ o ≠ .nsl
theorem xV (l : List Int) (hl : l.length ≤ 1000000) : Pure Tryz.prog 85 [.sl (l.map eJ)] (.sl (l.map eJ)) := by
 refine Pure.ah Tryz.func85 rfl rfl (aH rfl) fun H => (aK.seq (aK.region (aD.run II 1 rfl (aD.nil (aK.seq (aK.seq (aK.region (aD.run II 1 rfl (aD.od (aH rfl) Tryz.underlying60 rfl (fun b hb => (aD.nil (aK.cond rfl (fun hc1 => ?_) (fun hc1 => ?_)))))))))))))
 ·exact aK.seq (aK.region (aD.run II 1 rfl (aD.nil (aK.ret (cD rfl rfl rfl (by rw [hb hc1]))))))
 ·refine aK.skip (aK.seq (aK.region (aD.c2 rfl (bD («as» := []) (aH rfl) cI eu rfl rfl rfl (gQ rfl) rfl) (aD.run II 1 rfl (aD.c3 rfl (jS (aH rfl) cI rfl rfl rfl (dN .i64 id _) rfl (by rw [List.length_map]; simp only [List.length_nil]; omega) (by rw [List.length_map]; simp only [List.length_nil]; omega)) ?_)))))
  exact aD.run II 1 rfl (aD.nil (aK.ret (cD rfl rfl rfl (by rfl))))
def vS (rows : List AV) (H : Hp) : Hp := ((H.new (aZ [])).del H.next).new (aZ rows)
theorem Na (l : List Int) : ∀ e ∈ l.map eJ, e.cells.length = 1 := oT (dN .i64 id _)
theorem C6 (l : List Int) (hl : l.length ≤ 1000000) (hne : l ≠ []) (H : Hp) : cB Tryz.prog 85 [.sl (l.map eJ)] H (.os (H.next + 1) l.length 1) (vS (l.map eJ) H) := by
 refine cB.ah Tryz.func85 rfl rfl (aH rfl) (aK.seq (aK.region (aD.run II 1 rfl (aD.nil (aK.seq (aK.seq (aK.region (aD.run II 1 rfl (aD.od (aH rfl) Tryz.underlying60 rfl (fun b hb => (aD.nil (aK.cond (b := b) rfl (fun hc1 => ?_) (fun hc1 => ?_)))))))))))))
 ·exact aK.seq (aK.region (aD.run II 1 rfl (aD.nil (aK.ret (absurd (List.map_eq_nil_iff.1 (hb hc1)) hne)))))
 ·refine aK.skip (aK.seq (aK.region (aD.c3 rfl (iz («as» := []) (aH rfl) cI eu rfl rfl rfl (gQ rfl) rfl rfl) (aD.run II 1 rfl (aD.c3 rfl (jT (aH rfl) cI eu rfl rfl Hp.bN (fun e he => by cases he) rfl rfl (dN .i64 id _) rfl (by rw [List.length_map]; omega) (by rw [List.length_map]; omega)) ?_)))))
  exact aD.run II 1 rfl (aD.nil (aK.ret (cD rfl rfl rfl (by rw [List.length_map, Nat.zero_add]; rfl))))
theorem ra (rows : List AV) (H : Hp) : (vS rows H).obj (H.next + 1) = some (aZ rows) := Hp.dd _ _
theorem rb (rows : List AV) (H : Hp) {j : Nat} (hj : j < H.next) : (vS rows H).obj j = H.obj j := by
 show (if j = H.next + 1 then _ else if j = H.next then none else if j = H.next then _ else H.obj j) = _
 rw [if_neg (by omega), if_neg (by omega), if_neg (by omega)]
theorem Eo (l : List Int) (hl : l.length ≤ 1000000) (K : Hp) (hf : K.fin) : iL Tryz.prog 85 [.sl (l.map eJ)] K (Pe K l) := by
 by_cases hne : l = []
 ·subst hne
  exact (xV [] hl K).Hq ⟨.inl ⟨rfl, rfl⟩, hf, Nat.le_refl _, fun _ _ => rfl, fun id h => (by cases h), (by intro h; cases h)⟩
 ·refine (C6 l hl hne K).Hq ⟨.inr (.inr ⟨_, by rw [List.length_map], ra _ _⟩), fY (lU (fY hf _) _) _, by show K.next ≤ K.next + 1 + 1; omega, fun j hj => rb _ _ hj, fun id h => (by cases h; omega), (by intro h; cases h)⟩
theorem Kept.vy {s : St} {Q : St → Prop} (k i : Nat) {xs : List AV} {o : AV} {cs : List Sv} {esz : Nat} {H : Hp} (hk : get s (.b k) = some (.bx cs)) (hH : get s .h = some (.hp H)) (ho : isRow H o esz xs) (hnn : o ≠ .nsl) (hes : ∀ e ∈ xs, e.cells.length = esz) (hi : cs[i]? = some (.v o)) (hd : ∀ id n, o = .os id n esz → n = xs.length → cs.map (kG id xs) = cs.set i (.v (.sl xs)))
  (h : Kept ((.b k, .bx (cs.set i (.v (.sl xs)))) :: (.h, .hp (vy H o)) :: s) Q) : Kept s Q := by
 rcases ho with ⟨rfl, rfl⟩ | ⟨rfl, rfl⟩ | ⟨id, rfl, h2⟩
 ·intro E N a w hr
  have e : cs.set i (.v (.sl [])) = cs := fM hi
  rw [e] at h
  obtain ⟨G, L, hr⟩ := hr
  refine h E N a w ⟨G, L, hr.ext fun c => ?_⟩
  show get ((.b k, .bx cs) :: (.h, .hp H) :: s) c = get s c
  simp only [get]
  split
  ·rename_i e2; subst e2; exact hk.symm
  ·split
   ·rename_i e2; subst e2; exact hH.symm
   ·rfl
 ·exact absurd rfl hnn
 ·exact Kept.GN k id hk hH h2 hes (hd id _ rfl rfl) h
theorem zf : lk Tryz.prog 60 = some (false, 1) := by kernel_rfl
theorem KW : Tryz.prog.underlying 60 = some (TypeDesc.slice 3) := Tryz.underlying60
section
variable {α : Type} (f : α → α) (l : List α)
def ja (j : Nat) : List α := (l.take j).map f ++ l.drop j
theorem cG (j : Nat) : (ja f l j).length = l.length := by unfold ja; simp; omega
theorem rm {j : Nat} (h : l.length ≤ j) : ja f l j = l.map f := by unfold ja; rw [List.take_of_length_le h, List.drop_of_length_le h, List.append_nil]
theorem mB {j : Nat} (h : j < l.length) : (ja f l j)[j]? = some l[j] := by
 unfold ja
 rw [List.getElem?_append_right (by simp; omega)]
 simp only [List.length_map, List.length_take, Nat.min_eq_left (Nat.le_of_lt h), Nat.sub_self, List.getElem?_drop, Nat.add_zero]
 exact List.getElem?_eq_getElem h
theorem rk {j : Nat} (h : j < l.length) : (ja f l j).set j (f l[j]) = ja f l (j + 1) := by
 unfold ja
 rw [List.set_append_right _ _ (by simp; omega)]
 simp only [List.length_map, List.length_take, Nat.min_eq_left (Nat.le_of_lt h), Nat.sub_self]
 rw [List.drop_eq_getElem_cons h, List.set_cons_zero, nJ h, List.map_append, List.append_assoc]
 rfl
end
def Nz (S : Nat → Prop) (H0 : Hp) (F : FuncId) (caps : List AV) (u v : Int) : Prop := gj Tryz.prog F = true ∧ ∀ K' : Hp, (∀ j, S j → K'.obj j = H0.obj j) → ∀ r : Int, cB Tryz.prog F ([.int .i64 r] ++ caps) K' (.int .i64 (pA u v r)) K'
theorem rh (l : List Int) : aZ (l.map eJ) = l.map fun x => Hc.v (.int .i64 x) := by
 unfold aZ
 induction l with
 | nil => rfl
 | cons x l ih => simp only [List.map_cons, List.flatMap_cons, List.map_append, ih]; rfl
theorem Ad {l : List Int} {m : Nat} {x : Int} (h : l[m]? = some x) : (aZ (l.map eJ))[((m : Nat) : Int).toNat * 1]? = some (.v (.int .i64 x)) := by
 rw [rh, Int.toNat_natCast, Nat.mul_one, List.getElem?_map, h]; rfl
theorem Ht {l : List Int} {m : Nat} {x : Int} (h : l[m]? = some x) : wP false 1 (((aZ (l.map eJ)).map fun c => Sv.v (ph c)).drop (((m : Nat) : Int).toNat * 1)) = some (.v (.int .i64 x)) := by
 have h1 := Ad h
 obtain ⟨h2, h3⟩ := List.getElem?_eq_some_iff.1 h1
 rw [List.drop_eq_getElem_cons (by simpa using h2)]
 rw [List.getElem_map, h3]; rfl
theorem xJ {l : List Port} {j : Nat} {x : Port} (h : l[j]? = some x) : (l.map Port.av)[((j : Nat) : Int).toNat]? = some (.agg x.cells) := by
 rw [Int.toNat_natCast, List.getElem?_map, h]; rfl
theorem Hs (l : List Int) (m : Nat) (x : Int) : (aZ (l.map eJ)).set (((m : Nat) : Int).toNat * 1) (.v (.int .i64 x)) = aZ ((l.set m x).map eJ) := by
 rw [rh, rh, Int.toNat_natCast, Nat.mul_one, List.map_set]
theorem Fx {K : Hp} {o : AV} {e : Nat} {xs : List AV} (h : isRow K o e xs) (h0 : 0 < xs.length) : cP o = some (tq o) := by
 rcases h with ⟨_, rfl⟩ | h
 ·exact absurd h0 (Nat.lt_irrefl _)
 ·exact u7 h h0
theorem DA {K : Hp} {o : AV} {e : Nat} {xs ys : List AV} (h : isRow K o e xs) (hl : ys.length = xs.length) (h0 : 0 < xs.length) : isRow (K.set (tq o) (aZ ys)) o e ys := by
 rcases h with ⟨_, rfl⟩ | h
 ·exact absurd h0 (Nat.lt_irrefl _)
 ·exact .inr (u6 h hl h0)
theorem Fw {K : Hp} (hf : K.fin) {o : AV} {e : Nat} {xs : List AV} (h : isRow K o e xs) (h0 : 0 < xs.length) : tq o < K.next := by
 rcases h with ⟨_, rfl⟩ | h
 ·exact absurd h0 (Nat.lt_irrefl _)
 ·exact xm hf h (u7 h h0)
theorem Cz {K : Hp} {o : AV} {e : Nat} {xs : List AV} (h : isRow K o e xs) : (Sv.v o).l8 = false := by
 rcases h with ⟨rfl, _⟩ | ⟨rfl, _⟩ | ⟨id, rfl, _⟩ <;> rfl
theorem xk {K : Hp} {o : AV} {e : Nat} {xs : List AV} (h : isRow K o e xs) : (Sv.v o).cells = [Sv.v o] := by
 rcases h with ⟨rfl, _⟩ | ⟨rfl, _⟩ | ⟨id, rfl, _⟩ <;> rfl
theorem Ip {P : Program} {N : Nat} {s : St} {ty : TypeId} {pos : String} {af : Array Edge} {g : Option (Nat × Bool)} {t1 : TypeId} {x y : Operand} {k off : Nat} {b : Bool} {cs : List Sv} {z : Sv} (hl : lk P t1 = some (b, 1)) (hx : gS x s = some (.lp k off)) (hk : get s (.b k) = some (.bx cs)) (hy : gS y s = some z) (ht : z.l8 = false)
  (hc : z.cells = [z]) (hf : off + 1 ≤ cs.length) : aW P N ⟨none, .store t1 x y, ty, pos, af, g⟩ s (rd x ++ (rd y ++ [.b k])) [(.b k, .bx (setAt cs off [z]))] := by
 have := Ev (ty := ty) (pos := pos) (af := af) (g := g) (N := N) hl hx hk hy ht (by rw [hc]; rfl) hf
 rwa [hc] at this
theorem pP {P : Program} {N : Nat} {s : St} {d : Nat} {ty : TypeId} {pos : String} {af : Array Edge} {g : Option (Nat × Bool)} {x : Operand} {f : FuncId} {xs : Array Operand} {tys : Array TypeId} {«as» caps : List AV} {r : AV} {H : Hp} (hN : d < N) (hf : gj P f = true) (hx : cV x s = some (.fn f caps)) (hH : get s .h = some (.hp H)) (ha : kY xs.toList s = some «as») (hp : cB P f («as» ++ caps) H r H) :
  aW P N ⟨some d, .call { callee := .value x, args := xs, argTypes := tys }, ty, pos, af, g⟩ s ((rd x ++ nO xs.toList) ++ [.h]) [(.s d, .sv (.v r))] :=
 uk hp rfl hN hH (pj hf hx ha)
theorem GJ {K : Hp} (hf : K.fin) (o : AV) : (vy K o).fin := by cases o <;> first | exact hf | exact lU hf _
theorem ub {K : Hp} (o : AV) : (vy K o).next = K.next := by cases o <;> rfl
theorem GI {K : Hp} {o : AV} {j : Nat} (h : cP o ≠ some j) : (vy K o).obj j = K.obj j := by
 cases o
 case os id n e =>
  show (if j = id then none else K.obj j) = _
  rw [if_neg fun e2 => h (by rw [e2]; rfl)]
 all_goals rfl
theorem M3 {id n : Nat} {x : al} {a b c : Int} {R : List Int} (hn : n = (R.map eJ).length) : [Sv.v (.int .i64 x.kind), .v (.int .i64 a), .v (.int .i64 b), .v (.int .i64 c), .v (.int .i64 x.src), .v (.int .i64 x.dst), .v (.int .i64 x.lo), .v (.int .u64 (x.hi : Int)), .v (.int .i64 x.part), .v (.os id n 1), .v (.int .u64 (x.dv.n : Int)), .v (.str x.dv.s), .v (.sl (x.dv.m.map Tree.av))].map (kG id (R.map eJ))
  = [Sv.v (.int .i64 x.kind), .v (.int .i64 a), .v (.int .i64 b), .v (.int .i64 c), .v (.int .i64 x.src), .v (.int .i64 x.dst), .v (.int .i64 x.lo), .v (.int .u64 (x.hi : Int)), .v (.int .i64 x.part), .v (.sl (R.map eJ)), .v (.int .u64 (x.dv.n : Int)), .v (.str x.dv.s), .v (.sl (x.dv.m.map Tree.av))] := by
 subst hn
 have e : (R.map eJ).take R.length = R.map eJ := List.take_of_length_le (by simp)
 simp [kG, gT, e]
theorem oL {S : Nat → Prop} {H0 K : Hp} {A i : Nat} {os : List (AV × AV)} {all : List aQ} {p : aQ} {o : AV × AV} (I : FZ S H0 K A os all) (hp : all[i]? = some p) (ho : os[i]? = some o) (hl : p.ops.length ≤ 1000000) (hu : p.outs.length ≤ 1000000) (hr : ∀ x ∈ p.ops, x.aE.length ≤ 1000000) {F : FuncId} {caps : List AV} {u v : Int} (hC : Nz S H0 F caps u v) : iL Tryz.prog 131 [.op A (i * 7), .fn F caps] K (Jj S H0 K A os all i (p.cO u v)) := by
 refine iL.ah Tryz.func131 rfl rfl (aH rfl) (aK.gn 6 II mixed (aB.n1 0 rfl (da (aH rfl) gK rfl rfl I.row (eC _ _) rfl (I.get hp ho) rfl) (aB.d1 rfl (gw (aH rfl) pE rfl (I.ops _ _ _ ho hp).1) (aG.lp 4 [.s 14, .h, .s 0, .s 1, .s 12, .s 13] (fun ((j, Kj) : Nat × Hp) => [(.s 14, .sv (.v (.int .i64 (j : Int)))), (.h, .hp Kj)]) (fun ((j, Kj) : Nat × Hp) => FZ S H0 Kj A os (all.set i { p with ops := ja (al.cO u v) p.ops j }) ∧ K.next ≤ Kj.next) (fun ((j, Kj) : Nat × Hp) => p.ops.length - j) (0, K) rfl rfl ⟨(by show FZ S H0 K A os (all.set i p); rw [fM hp]; exact I), Nat.le_refl _⟩ ?_))))
 rintro ⟨j, Kj⟩ hI
 refine aG.ci 999 6 rfl (fun hc1 => ?_) (fun hc1 => ?_)
 ·have hj := cz hc1
  have hrr := hr _ (List.getElem_mem hj)
  have hse : ∀ q : aQ, (all.set i q)[i]? = some q := fun q => List.getElem?_set_self (bn hp)
  have hO := (hI.1.ops _ _ _ ho (hse _)).1
  have hjr : j < (ja (al.cO u v) p.ops j).length := by rw [cG]; exact hj
  refine aB.n1 0 rfl (fh (aH rfl) kH rfl hO rfl (Int.natCast_nonneg _) (by rw [List.length_map, cG]; omega)) ?_
  refine aB.d1 rfl (eE (aH rfl) fJ rfl rfl (eU hO (by rw [List.length_map]; exact hjr)) (fN _) rfl (sM (mB _ _ hj))) ?_
  refine ⟨rfl, ?_⟩
  iterate 3 (refine aF.d1 rfl (pP (aH rfl) hC.1 rfl rfl rfl (hC.2 _ hI.1.old _)) ?_)
  refine ⟨by kernel_rfl, (aB.cq 1 (aH rfl) (Fn rfl) rfl rfl (Eo _ (hr _ (List.getElem_mem hj)) _ hI.1.fin) (fun r1 K1 hP1 => ?_))⟩
  obtain ⟨hW, hf1, hn1, hl1, hi1, hnn⟩ := hP1
  refine aB.n1 5 rfl (Ip zf rfl rfl rfl (Cz hW) (xk hW) (gQ rfl)) (aB.d1 rfl (Iv (aH rfl) KW rfl hW) (aG.lp 4 [.s 41, .h, .s 0, .s 1, .s 4, .s 5, .b 5, .s 12, .s 13, .s 14, .s 39, .s 40] (fun ((m, K3) : Nat × Hp) => [(.s 41, .sv (.v (.int .i64 (m : Int)))), (.h, .hp K3)]) (fun ((m, K3) : Nat × Hp) => isRow K3 r1 1 ((ja (pA u v) p.ops[j].aE m).map eJ) ∧ K3.fin ∧ Kj.next ≤ K3.next ∧ ∀ a, a < Kj.next → K3.obj a = Kj.obj a) (fun ((m, K3) : Nat × Hp) => p.ops[j].aE.length - m) (0, K1) rfl rfl (show isRow K1 r1 1 ((ja (pA u v) p.ops[j].aE 0).map eJ) ∧ K1.fin ∧ Kj.next ≤ K1.next ∧ (∀ a, a < Kj.next → K1.obj a = Kj.obj a) from ⟨hW, hf1, hn1, hl1⟩) ?_))
  rintro ⟨m, K3⟩ hM
  refine aG.ci 999 1 rfl (fun hc2 => ?_) (fun hc2 => ?_)
  ·have hm := cz hc2
   refine aB.n1 0 rfl (FJ (aH rfl) c9 rfl hM.1 rfl (Int.natCast_nonneg _) (by rw [List.length_map, cG]; omega)) ?_
   refine aB.d1 rfl (bB (aH rfl) ib rfl rfl (xl hM.1 (by rw [List.length_map, cG]; exact hm)) (Ht (mB _ _ hm))) ?_
   refine ⟨rfl, (aF.d1 rfl (pP (aH rfl) hC.1 rfl rfl rfl (hC.2 _ (fun a ha => (hM.2.2.2 a (hI.1.sN a ha)).trans (hI.1.old a ha)) _)) (aF.n1 0 rfl (FJ (aH rfl) c9 rfl hM.1 rfl (Int.natCast_nonneg _) (by rw [List.length_map, cG]; omega)) ?_))⟩
   refine aF.n1 0 rfl (sO ib rfl rfl (xl hM.1 (by rw [List.length_map, cG]; exact hm)) rfl rfl (Ad (mB _ _ hm))) ?_
   exact ⟨by kernel_rfl, aG.kept (Kept.ly rfl (show _ = K3.set (tq r1) (aZ ((ja (pA u v) p.ops[j].aE (m + 1)).map eJ)) from by rw [Hs, rk _ _ hm]) (Kept.now (aG.r 999 (.b1 41 rfl (inc (by omega)) rfl ⟨(m + 1, _), by dsimp only; omega, ⟨DA hM.1 (by rw [List.length_map, List.length_map, cG, cG]) (by rw [List.length_map, cG]; omega), lA hM.2.1 (Fw hM.2.1 hM.1 (by rw [List.length_map, cG]; omega)) _, hM.2.2.1, fun a ha => by rw [Hp.eS (fun e => by have := hi1 _ (Fx hM.1 (by rw [List.length_map, cG]; omega)); omega)]; exact hM.2.2.2 a ha⟩, rfl⟩))))⟩
  ·have hm := dA hc2
   have hMr : isRow K3 r1 1 ((p.ops[j].aE.map (pA u v)).map eJ) := by have h := hM.1; rwa [rm _ _ (by omega)] at h
   have IF : FZ S H0 (vy K3 r1) A os (all.set i { p with ops := ja (al.cO u v) p.ops j }) := hI.1.more (GJ hM.2.1 _) (by rw [ub]; exact hM.2.2.1) (fun a ha => by rw [GI (fun e => by have := hi1 _ e; omega)]; exact hM.2.2.2 a ha)
   have hO2 := (IF.ops _ _ _ ho (hse _)).1
   refine aG.kept (Kept.vy 5 9 rfl rfl hMr hnn (Na _) rfl (fun id n e1 e2 => by subst e1; exact M3 e2) (Kept.now (aG.r 4 ?_)))
   refine ⟨rfl, (aF.d1 rfl (da (aH rfl) gK rfl rfl IF.row (eC _ _) rfl (IF.get (hse _) ho) rfl) (aF.d1 rfl (aX (aH rfl) (Fn rfl) rfl (Im { p.ops[j] with a := pA u v p.ops[j].a, b := pA u v p.ops[j].b, c := pA u v p.ops[j].c, aE := p.ops[j].aE.map (pA u v) })) (aF.n1 0 rfl (fh (aH rfl) kH rfl hO2 rfl (Int.natCast_nonneg _) (by rw [List.length_map, cG]; omega)) ?_)))⟩
   refine aF.n1 0 rfl (lI fJ rfl rfl (eU hO2 (by rw [List.length_map]; exact hjr)) rfl (fN _) rfl (by rw [Int.toNat_natCast, List.length_map]; exact hjr) rfl) ?_
   refine ⟨by kernel_rfl, aG.kept (Kept.ly rfl (show _ = (vy K3 r1).set (tq o.1) (aZ ((ja (al.cO u v) p.ops (j + 1)).map al.av)) from by rw [← rk _ _ hj, List.map_set, Int.toNat_natCast]; rfl) (Kept.now (aG.r 999 ?_)))⟩
   exact .b1 14 rfl (inc (by omega)) rfl ⟨(j + 1, _), by dsimp only; omega, ⟨by have h := IF.EJ (hse _) ho (l := ja (al.cO u v) p.ops (j + 1)) (by dsimp only; rw [cG, cG]) (by dsimp only; rw [cG]; omega); rw [List.set_set] at h; exact h, by show K.next ≤ (vy K3 r1).next; rw [ub]; exact Nat.le_trans hI.2 hM.2.2.1⟩, rfl⟩
 ·have hj := dA hc1
  have hse : ∀ q : aQ, (all.set i q)[i]? = some q := fun q => List.getElem?_set_self (bn hp)
  have hU : FZ S H0 Kj A os (all.set i { p with ops := p.ops.map (al.cO u v) }) := by have h := hI.1; rwa [rm _ _ (by omega)] at h
  refine aB.n1 0 rfl (da (aH rfl) fk rfl rfl hU.row (eC _ _) rfl (hU.get (hse _) ho) rfl) (aB.d1 rfl (gw (aH rfl) yj rfl (hU.ops _ _ _ ho (hse _)).2) (aG.lp 4 [.s 68, .h, .s 0, .s 1, .s 67] (fun ((n, K4) : Nat × Hp) => [(.s 68, .sv (.v (.int .i64 (n : Int)))), (.h, .hp K4)]) (fun ((n, K4) : Nat × Hp) => FZ S H0 K4 A os (all.set i { p with ops := p.ops.map (al.cO u v), outs := ja (Port.cO u v) p.outs n }) ∧ K.next ≤ K4.next) (fun ((n, K4) : Nat × Hp) => p.outs.length - n) (0, _) rfl rfl ⟨hU, hI.2⟩ ?_))
  rintro ⟨n, K4⟩ hP
  refine aG.ci 11 999 rfl (fun hc3 => ?_) (fun hc3 => ?_)
  ·have hn : n < p.outs.length := cz hc3
   have hO := (hP.1.ops _ _ _ ho (hse _)).2
   have hnr : n < (ja (Port.cO u v) p.outs n).length := by rw [cG]; exact hn
   refine ⟨rfl, (aF.n1 5 rfl (da (aH rfl) fk rfl rfl hP.1.row (eC _ _) rfl (hP.1.get (hse _) ho) rfl) (aF.d1 rfl (da (aH rfl) fk rfl rfl hP.1.row (eC _ _) rfl (hP.1.get (hse _) ho) rfl) (aF.n1 1 rfl (fh (aH rfl) cN rfl hO rfl (Int.natCast_nonneg _) (by rw [List.length_map, cG]; omega)) ?_)))⟩
   refine aF.d1 rfl (da (aH rfl) ib rfl rfl (eU hO (by rw [List.length_map]; exact hnr)) (lE _) rfl (xJ (mB _ _ hn)) rfl) ?_
   refine aF.d1 rfl (pP (aH rfl) hC.1 rfl rfl rfl (hC.2 _ hP.1.old _)) (aF.n1 1 rfl (fh (aH rfl) cN rfl hO rfl (Int.natCast_nonneg _) (by rw [List.length_map, cG]; omega)) ?_)
   refine aF.n1 0 rfl (zV ib rfl rfl (eU hO (by rw [List.length_map]; exact hnr)) rfl rfl (lE _) rfl (xJ (mB _ _ hn)) (aH rfl)) ?_
   refine ⟨by kernel_rfl, aG.kept (Kept.ly rfl (show _ = K4.set (tq o.2) (aZ ((ja (Port.cO u v) p.outs (n + 1)).map Port.av)) from by rw [← rk _ _ hn, List.map_set, Int.toNat_natCast]; rfl) (Kept.now (aG.r 999 ?_)))⟩
   exact .b1 68 rfl (inc (by omega)) rfl ⟨(n + 1, K4.set (tq o.2) (aZ ((ja (Port.cO u v) p.outs (n + 1)).map Port.av))), by dsimp only; omega, ⟨by have h := hP.1.Hn (hse _) ho (l := ja (Port.cO u v) p.outs (n + 1)) (by dsimp only; rw [cG, cG]) (by dsimp only; rw [cG]; omega); rw [List.set_set] at h; exact h, hP.2⟩, rfl⟩
  ·have hn : p.outs.length ≤ n := dA hc3
   exact ⟨.inl rfl, _, _, (⟨rfl, hP.2, o, by have h := hP.1; rw [rm _ _ (by omega)] at h; rw [fM ho]; exact h⟩), aM.r0 rfl, rfl⟩
theorem zg : lk Tryz.prog 35 = some (false, 1) := by kernel_rfl
theorem FZ.back {S T : Nat → Prop} {H0 K2 K3 : Hp} {A : Nat} {os : List (AV × AV)} {all : List aQ} (J : FZ T K2 K3 A os all) (hS : ∀ j, S j → T j) (h : ∀ j, S j → K2.obj j = H0.obj j) : FZ S H0 K3 A os all :=
 ⟨J.fin, fun j hj => J.sN j (hS j hj), fun j hj => (J.old j (hS j hj)).trans (h j hj), fun hA => J.lo (hS _ hA), J.len, J.row, J.ops, fun i o id h1 h2 => ⟨fun h3 => (J.ids i o id h1 h2).1 (hS _ h3), (J.ids i o id h1 h2).2⟩, J.own, J.dist⟩
def Jb (u v : Int) (K : Hp) : Hp := (K.new [.v (.int .i64 u)]).new [.v (.int .i64 v)]
def PE (S : Nat → Prop) (K : Hp) : Nat → Prop := fun j => S j ∨ j = K.next ∨ j = K.next + 1
section
variable {S : Nat → Prop} {H0 K : Hp} {A : Nat} {os : List (AV × AV)} {all : List aQ} (I : FZ S H0 K A os all) (u v : Int)
theorem Bc {j : Nat} (h : j < K.next) : (Jb u v K).obj j = K.obj j := by
 show (if j = K.next + 1 then _ else if j = K.next then _ else K.obj j) = _
 rw [if_neg (by omega), if_neg (by omega)]
theorem Nv : (Jb u v K).obj K.next = some [.v (.int .i64 u)] := by
 show (if K.next = K.next + 1 then _ else if K.next = K.next then _ else K.obj K.next) = _
 rw [if_neg (by omega), if_pos rfl]
theorem Nu : (Jb u v K).obj (K.next + 1) = some [.v (.int .i64 v)] := by
 show (if K.next + 1 = K.next + 1 then _ else _) = _
 rw [if_pos rfl]
include I in
theorem FZ.OM : FZ (PE S K) (Jb u v K) (Jb u v K) A os all := by
 have I2 := I.more (K' := Jb u v K) (fY (fY I.fin _) _) (by show K.next ≤ K.next + 1 + 1; omega) fun j hj => Bc u v hj
 refine I2.az (fun j hj => ?_) (fun h => ?_) fun i o id h1 h2 h3 => ?_
 ·show j < K.next + 1 + 1
  rcases hj with h | h | h
  ·have := I.sN j h; omega
  ·omega
  ·omega
 ·have := I.alt
  rcases h with h | h | h
  ·exact I.lo h
  ·omega
  ·omega
 ·have := I.vv h1 h2
  rcases h3 with h | h | h
  ·exact (I.ids i o id h1 h2).1 h
  ·omega
  ·omega
theorem Bd : Nz (PE S K) (Jb u v K) 166 [.op K.next 0, .op (K.next + 1) 0] u v :=
 ⟨by kernel_rfl, fun K' h r => NU u v r _ _ K' ((h _ (.inr (.inl rfl))).trans (Nv u v)) ((h _ (.inr (.inr rfl))).trans (Nu u v))⟩
include I in
theorem FZ.ON {K3 : Hp} {os' : List (AV × AV)} {all' : List aQ} (J : FZ (PE S K) (Jb u v K) K3 A os' all') : FZ S H0 K3 A os' all' :=
 J.back (fun j h => .inl h) fun j h => (Bc u v (I.sN j h)).trans (I.old j h)
end
def y5 (S : Nat → Prop) (H0 K : Hp) (A : Nat) (all : List aQ) (i : Nat) (r : Option aQ) : AV → Hp → Prop := fun v K' => match r with | none => v = .bool false ∧ K' = K | some q => v = .bool true ∧ K.next ≤ K'.next ∧ ∃ os', FZ S H0 K' A os' (all.set i q)
theorem ot (u v : Int) (K : Hp) : K.next ≤ (Jb u v K).next := by show K.next ≤ K.next + 1 + 1; omega
theorem oh {p : aQ} {a : List Int} {n : Nat} (h : p.ops.length ≤ n) : (p.drop a).ops.length ≤ n := Nat.le_trans (dx a p.ops 0).length_le h
theorem og {p : aQ} {a : List Int} {x : al} (h : x ∈ (p.drop a).ops) : x ∈ p.ops := (dx a p.ops 0).mem h
theorem Hv {p : aQ} {u v : Int} {n : Nat} (h : ∀ x ∈ p.ops, x.aE.length ≤ n) : ∀ x ∈ (p.cO u v).ops, x.aE.length ≤ n := fun x hx => by
 obtain ⟨y, h1, rfl⟩ := List.mem_map.1 hx
 have := h y h1
 unfold al.cO al.clean
 repeat' split
 all_goals simpa using this
theorem uV {S : Nat → Prop} {H0 K K' : Hp} {A i : Nat} {os' : List (AV × AV)} {all : List aQ} {r : Option aQ} {q : aQ} (h : r = some q) (hn : K.next ≤ K'.next) (hz : FZ S H0 K' A os' (all.set i q)) : y5 S H0 K A all i r (.bool true) K' := by subst h; exact ⟨rfl, hn, _, hz⟩
theorem Jz {S : Nat → Prop} {H0 K : Hp} {A i : Nat} {os : List (AV × AV)} {all : List aQ} {r : Option aQ} (h : r = none) (hz : FZ S H0 K A os all) : y5 S H0 K A all i r (.bool false) K := by subst h; exact ⟨rfl, rfl⟩
theorem mi {α : Type} {l : List α} {n : Nat} {d : α} (h : n < l.length) : l[n]? = some (l.getD n d) := by
 rw [List.getD_eq_getElem?_getD, List.getElem?_eq_getElem h]; rfl
theorem L8 {all : List aQ} {p : aQ} {i k : Nat} {x y : al} (h : (x.kind == 1 && y.kind == 1 && x.a == y.a) = true) : gD all p i k x y = some (aQ.drop [(k : Int)] { p with ops := p.ops.set i (mU x y) }) := by
 unfold gD; rw [if_pos (by simpa [and_assoc] using h)]
theorem L7 {all : List aQ} {p : aQ} {i k : Nat} {x y : al} (h : (x.kind == 2 && y.kind == 3 && x.b == y.a && x.c == y.b && decide (fR p.ops x.b = 2) && decide (fR p.ops x.c = 2)) = true) : gD all p i k x y = some ((p.drop [(i : Int), (k : Int)]).cO y.c x.a) := by
 simp only [Bool.and_eq_true, beq_iff_eq, decide_eq_true_eq, and_assoc] at h
 unfold gD; rw [if_neg (by omega), if_pos h]
theorem L6 {all : List aQ} {p : aQ} {i k : Nat} {x y : al} (h : (x.kind == 3 && y.kind == 2 && x.c == y.a && decide (fR p.ops x.c = 2)) = true) : gD all p i k x y = some (((p.drop [(i : Int), (k : Int)]).cO y.b x.a).cO y.c x.b) := by
 simp only [Bool.and_eq_true, beq_iff_eq, decide_eq_true_eq, and_assoc] at h
 unfold gD; rw [if_neg (by omega), if_neg (by omega), if_pos h]
theorem L4 {all : List aQ} {p : aQ} {i k : Nat} {x y : al} (h : (x.kind == 4 && y.kind == 5 && x.b == y.a && tQ (all.getD x.part.toNat bS)) = true) : gD all p i k x y = some ((p.drop [(i : Int), (k : Int)]).cO y.b x.a) := by
 simp only [Bool.and_eq_true, beq_iff_eq, decide_eq_true_eq, and_assoc] at h
 unfold gD; rw [if_neg (by omega), if_neg (by omega), if_neg (by omega), if_pos h]
theorem L9 {all : List aQ} {p : aQ} {i k : Nat} {x y : al} (h1 : (x.kind == 1 && y.kind == 1 && x.a == y.a) = false) (h2 : (x.kind == 2 && y.kind == 3 && x.b == y.a && x.c == y.b && decide (fR p.ops x.b = 2) && decide (fR p.ops x.c = 2)) = false)
  (h3 : (x.kind == 3 && y.kind == 2 && x.c == y.a && decide (fR p.ops x.c = 2)) = false) (h4 : (x.kind == 4 && y.kind == 5 && x.b == y.a && tQ (all.getD x.part.toNat bS)) = false) : gD all p i k x y = none := by
 have e : ∀ {b : Bool} {P : Prop}, b = false → (b = true ↔ P) → ¬ P := fun h1 h2 h3 => by rw [h2.2 h3] at h1; cases h1
 unfold gD
 rw [if_neg (e h1 (by simp [and_assoc])), if_neg (e h2 (by simp [and_assoc])), if_neg (e h3 (by simp [and_assoc])), if_neg (e h4 (by simp [and_assoc]))]
theorem J0 {S : Nat → Prop} {H0 K : Hp} {A i : Nat} {os : List (AV × AV)} {all : List aQ} {p : aQ} {o : AV × AV} (I : FZ S H0 K A os all) (hp : all[i]? = some p) (ho : os[i]? = some o) (hl : p.ops.length ≤ 1000000) (hu : p.outs.length ≤ 1000000) (hr : ∀ x ∈ p.ops, x.aE.length ≤ 1000000) {j k : Nat} {x y : al} (hx : p.ops[j]? = some x) (hy : p.ops[k]? = some y) {pid : Nat} (hS : S pid) (hP : H0.obj pid = some [.v (.os A all.length 7)]) (hb : x.kind = 4 → 0 ≤ x.part ∧ x.part < (all.length : Int) ∧ (all.getD x.part.toNat bS).ins ≠ []) : iL Tryz.prog 88 [.op pid 0, .op A (i * 7), .int .i64 (j : Int), .int .i64 (k : Int)] K (y5 S H0 K A all i (gD all p j k x y)) := by
 refine iL.ah Tryz.func88 rfl rfl (aH rfl) (aK.gn 8 II mixed ⟨rfl, (aF.d1 rfl (da (aH rfl) gK rfl rfl I.row (eC _ _) rfl (I.get hp ho) rfl) (aF.n1 0 rfl (fh (aH rfl) kH rfl (I.ops _ _ _ ho hp).1 rfl (Int.natCast_nonneg _) (by rw [List.length_map]; have := bn hx; omega)) ?_))⟩)
 refine aF.n1 3 rfl (eE (aH rfl) fJ rfl rfl (eU (I.ops _ _ _ ho hp).1 (by rw [List.length_map]; exact bn hx)) (fN _) rfl (sM hx)) ?_
 refine aF.d1 rfl (da (aH rfl) gK rfl rfl I.row (eC _ _) rfl (I.get hp ho) rfl) (aF.n1 0 rfl (fh (aH rfl) kH rfl (I.ops _ _ _ ho hp).1 rfl (Int.natCast_nonneg _) (by rw [List.length_map]; have := bn hy; omega)) ?_)
 refine aF.n1 6 rfl (eE (aH rfl) fJ rfl rfl (eU (I.ops _ _ _ ho hp).1 (by rw [List.length_map]; exact bn hy)) (fN _) rfl (sM hy)) ?_
 refine ⟨by kernel_rfl, (aG.jn 999 0 [.h, .s 0, .s 1, .s 2, .s 3, .s 9, .b 9, .s 10, .b 10] (fun (b : Bool) => [(.s 25, .sv (.v (.bool b)))]) (fun (b : Bool) => b = (x.kind == 1 && y.kind == 1 && x.a == y.a)) rfl ?_ ?_)⟩
 ·refine aC (fun hg1 => ?_) (fun hg1 => ?_)
  ·refine aC (fun hg2 => ?_) (fun hg2 => ?_)
   ·exact .bc [.s 25, .h, .s 0, .s 1, .s 2, .s 3, .s 9, .b 9, .s 10, .b 10] rfl ⟨_, by grind, rfl⟩
   ·exact .bc [.s 25, .h, .s 0, .s 1, .s 2, .s 3, .s 9, .b 9, .s 10, .b 10] rfl ⟨_, by grind, rfl⟩
  ·exact .bc [.s 25, .h, .s 0, .s 1, .s 2, .s 3, .s 9, .b 9, .s 10, .b 10] rfl ⟨_, by grind, rfl⟩
 ·rintro b hFc4
  refine aG.ci 999 0 rfl (fun hc3 => ?_) (fun hc3 => ?_)
  ·refine aB.cq 999 (aH rfl) (Fn rfl) rfl rfl (M7 I hp ho hl hx hy) (fun r1 K1 hP1 => ?_)
   obtain ⟨rfl, hN, o1, hZ⟩ := hP1
   exact ⟨.inr rfl, .bool true, _, (uV (L8 (hFc4.symm.trans hc3)) hN hZ), aM.r1 rfl (.tmp rfl .nil), rfl⟩
  ·refine aG.jn 999 0 [.h, .s 0, .s 1, .s 2, .s 3, .s 9, .b 9, .s 10, .b 10] (fun (b : Bool) => [(.s 45, .sv (.v (.bool b)))]) (fun (b : Bool) => b = (x.kind == 2 && y.kind == 3 && x.b == y.a && x.c == y.b && decide (fR p.ops x.b = 2) && decide (fR p.ops x.c = 2))) rfl ?_ ?_
   ·refine aC (fun hg4 => ?_) (fun hg4 => ?_)
    ·refine aC (fun hg5 => ?_) (fun hg5 => ?_)
     ·refine aC (fun hg6 => ?_) (fun hg6 => ?_)
      ·refine aC (fun hg7 => ?_) (fun hg7 => ?_)
       ·refine aB.d1 rfl (bu (aH rfl) (Fn rfl) rfl rfl (v7 I hp ho hl hr _)) (aC (fun hg8 => ?_) (fun hg8 => ?_))
        ·exact aB.d1 rfl (bu (aH rfl) (Fn rfl) rfl rfl (v7 I hp ho hl hr _)) (.bc [.s 45, .h, .s 0, .s 1, .s 2, .s 3, .s 9, .b 9, .s 10, .b 10] rfl ⟨_, by grind, rfl⟩)
        ·exact .bc [.s 45, .h, .s 0, .s 1, .s 2, .s 3, .s 9, .b 9, .s 10, .b 10] rfl ⟨_, by grind, rfl⟩
       ·exact .bc [.s 45, .h, .s 0, .s 1, .s 2, .s 3, .s 9, .b 9, .s 10, .b 10] rfl ⟨_, by grind, rfl⟩
      ·exact .bc [.s 45, .h, .s 0, .s 1, .s 2, .s 3, .s 9, .b 9, .s 10, .b 10] rfl ⟨_, by grind, rfl⟩
     ·exact .bc [.s 45, .h, .s 0, .s 1, .s 2, .s 3, .s 9, .b 9, .s 10, .b 10] rfl ⟨_, by grind, rfl⟩
    ·exact .bc [.s 45, .h, .s 0, .s 1, .s 2, .s 3, .s 9, .b 9, .s 10, .b 10] rfl ⟨_, by grind, rfl⟩
   ·rintro b hFc6
    refine aG.ci 999 0 rfl (fun hc9 => ?_) (fun hc9 => ?_)
    ·refine aB.cq 999 (aH rfl) (Fn rfl) rfl rfl (sJ I hp ho hl [(j : Int), (k : Int)] (by simp)) (fun r2 K2 hP2 => ?_)
     obtain ⟨rfl, hN, o1, hZ⟩ := hP2
     refine aB.d2 rfl (bf (aH rfl) (Fn rfl) rfl rfl (Io _ _ _)) (aB.cq 999 (aH rfl) (Fn rfl) rfl rfl (oL (hZ.OM y.c x.a) (List.getElem?_set_self (bn hp)) (List.getElem?_set_self (bn ho)) (oh hl) hu (fun z hz => hr z (og hz)) (Bd _ _)) (fun r3 K3 hP3 => ?_))
     obtain ⟨rfl, hN2, o2, hZ2⟩ := hP3
     exact ⟨.inr rfl, .bool true, _, (uV (L7 (hFc6.symm.trans hc9)) (Nat.le_trans hN (Nat.le_trans (ot _ _ _) hN2)) (by have h := hZ.ON _ _ hZ2; rw [List.set_set, List.set_set] at h; exact h)), aM.r1 rfl (.tmp rfl .nil), rfl⟩
    ·refine aG.jn 999 0 [.h, .s 0, .s 1, .s 2, .s 3, .s 9, .b 9, .s 10, .b 10] (fun (b : Bool) => [(.s 94, .sv (.v (.bool b)))]) (fun (b : Bool) => b = (x.kind == 3 && y.kind == 2 && x.c == y.a && decide (fR p.ops x.c = 2))) rfl ?_ ?_
     ·refine aC (fun hg10 => ?_) (fun hg10 => ?_)
      ·refine aC (fun hg11 => ?_) (fun hg11 => ?_)
       ·refine aC (fun hg12 => ?_) (fun hg12 => ?_)
        ·exact aB.d1 rfl (bu (aH rfl) (Fn rfl) rfl rfl (v7 I hp ho hl hr _)) (.bc [.s 94, .h, .s 0, .s 1, .s 2, .s 3, .s 9, .b 9, .s 10, .b 10] rfl ⟨_, by grind, rfl⟩)
        ·exact .bc [.s 94, .h, .s 0, .s 1, .s 2, .s 3, .s 9, .b 9, .s 10, .b 10] rfl ⟨_, by grind, rfl⟩
       ·exact .bc [.s 94, .h, .s 0, .s 1, .s 2, .s 3, .s 9, .b 9, .s 10, .b 10] rfl ⟨_, by grind, rfl⟩
      ·exact .bc [.s 94, .h, .s 0, .s 1, .s 2, .s 3, .s 9, .b 9, .s 10, .b 10] rfl ⟨_, by grind, rfl⟩
     ·rintro b hFc9
      refine aG.ci 999 0 rfl (fun hc13 => ?_) (fun hc13 => ?_)
      ·refine aB.cq 999 (aH rfl) (Fn rfl) rfl rfl (sJ I hp ho hl [(j : Int), (k : Int)] (by simp)) (fun r4 K4 hP4 => ?_)
       obtain ⟨rfl, hN, o1, hZ⟩ := hP4
       refine aB.d2 rfl (bf (aH rfl) (Fn rfl) rfl rfl (Io _ _ _)) (aB.cq 999 (aH rfl) (Fn rfl) rfl rfl (oL (hZ.OM y.b x.a) (List.getElem?_set_self (bn hp)) (List.getElem?_set_self (bn ho)) (oh hl) hu (fun z hz => hr z (og hz)) (Bd _ _)) (fun r5 K5 hP5 => ?_))
       obtain ⟨rfl, hN2, o2, hZ2⟩ := hP5
       have hZ5 : FZ S H0 K5 A (os.set i o2) (all.set i ((p.drop [(j : Int), (k : Int)]).cO y.b x.a)) := by have h := hZ.ON _ _ hZ2; rw [List.set_set, List.set_set] at h; exact h
       have hN5 := Nat.le_trans hN (Nat.le_trans (ot y.b x.a _) hN2)
       refine aB.d2 rfl (bf (aH rfl) (Fn rfl) rfl rfl (Io _ _ _)) (aB.cq 999 (aH rfl) (Fn rfl) rfl rfl (oL (hZ5.OM y.c x.b) (List.getElem?_set_self (bn hp)) (List.getElem?_set_self (bn ho)) (by simpa [aQ.cO] using oh hl) (by simpa [aQ.cO, aQ.drop] using hu) (Hv fun z hz => hr z (og hz)) (Bd _ _)) (fun r6 K6 hP6 => ?_))
       obtain ⟨rfl, hN2, o2, hZ2⟩ := hP6
       exact ⟨.inr rfl, .bool true, _, (uV (L6 (hFc9.symm.trans hc13)) (Nat.le_trans hN5 (Nat.le_trans (ot _ _ _) hN2)) (by have h := hZ5.ON _ _ hZ2; rw [List.set_set, List.set_set] at h; exact h)), aM.r1 rfl (.tmp rfl .nil), rfl⟩
      ·refine aG.jn 5 999 [.h, .s 1, .s 2, .s 3, .s 9, .b 9, .s 10, .b 10] (fun (b : Bool) => [(.s 136, .sv (.v (.bool b)))]) (fun (b : Bool) => b = (x.kind == 4 && y.kind == 5 && x.b == y.a && tQ (all.getD x.part.toNat bS))) rfl ?_ ?_
       ·refine ⟨rfl, (aF.ti 5 999 rfl (fun hg14 => ?_) (fun hg14 => ?_))⟩
        ·refine aF.ti 7 999 rfl (fun hg15 => ?_) (fun hg15 => ?_)
         ·refine aF.ti 3 999 rfl (fun hg16 => ?_) (fun hg16 => ?_)
          ·refine aF.d1 rfl (bB (aH rfl) zg rfl rfl ((I.old _ hS).trans hP) rfl) (aF.n1 0 rfl (bR (aH rfl) eH rfl rfl (hb (by grind)).1 (hb (by grind)).2.1) (aF.d1 rfl (eE (aH rfl) fj rfl rfl I.row (eC _ _) rfl (nj (mi (d := bS) (by have := hb (by grind); omega)) (mi (d := (AV.nsl, AV.nsl)) (by have := hb (by grind); have := I.len; omega)))) ?_))
           refine aF.d1 rfl (bu (aH rfl) (Fn rfl) rfl rfl (NT _ _ _ (I.ops _ _ _ (mi (d := (AV.nsl, AV.nsl)) (by have := hb (by grind); have := I.len; omega)) (mi (d := bS) (by have := hb (by grind); omega))).1 (I.ops _ _ _ (mi (d := (AV.nsl, AV.nsl)) (by have := hb (by grind); have := I.len; omega)) (mi (d := bS) (by have := hb (by grind); omega))).2 (hb (by grind)).2.2)) ?_
           exact ⟨by kernel_rfl, ⟨Kept.az [.s 136, .h, .s 1, .s 2, .s 3, .s 9, .b 9, .s 10, .b 10] rfl (by decide) (Kept.now ⟨_, by grind, rfl⟩)⟩⟩
          ·exact ⟨by kernel_rfl, ⟨Kept.az [.s 136, .h, .s 1, .s 2, .s 3, .s 9, .b 9, .s 10, .b 10] rfl (by decide) (Kept.now ⟨_, by grind, rfl⟩)⟩⟩
         ·exact ⟨by kernel_rfl, ⟨Kept.az [.s 136, .h, .s 1, .s 2, .s 3, .s 9, .b 9, .s 10, .b 10] rfl (by decide) (Kept.now ⟨_, by grind, rfl⟩)⟩⟩
        ·exact ⟨by kernel_rfl, ⟨Kept.az [.s 136, .h, .s 1, .s 2, .s 3, .s 9, .b 9, .s 10, .b 10] rfl (by decide) (Kept.now ⟨_, by grind, rfl⟩)⟩⟩
       ·rintro b hFc13
        refine aC (fun hc17 => ?_) (fun hc17 => ?_)
        ·refine aB.cq 999 (aH rfl) (Fn rfl) rfl rfl (sJ I hp ho hl [(j : Int), (k : Int)] (by simp)) (fun r7 K7 hP7 => ?_)
         obtain ⟨rfl, hN, o1, hZ⟩ := hP7
         refine aB.d2 rfl (bf (aH rfl) (Fn rfl) rfl rfl (Io _ _ _)) (aB.cq 999 (aH rfl) (Fn rfl) rfl rfl (oL (hZ.OM y.b x.a) (List.getElem?_set_self (bn hp)) (List.getElem?_set_self (bn ho)) (oh hl) hu (fun z hz => hr z (og hz)) (Bd _ _)) (fun r8 K8 hP8 => ?_))
         obtain ⟨rfl, hN2, o2, hZ2⟩ := hP8
         exact ⟨.inr rfl, .bool true, _, (uV (L4 (hFc13.symm.trans hc17)) (Nat.le_trans hN (Nat.le_trans (ot _ _ _) hN2)) (by have h := hZ.ON _ _ hZ2; rw [List.set_set, List.set_set] at h; exact h)), aM.r1 rfl (.tmp rfl .nil), rfl⟩
        ·exact ⟨.inr rfl, .bool false, _, (Jz (L9 (hFc4.symm.trans hc3) (hFc6.symm.trans hc9) (hFc9.symm.trans hc13) (hFc13.symm.trans hc17)) I), aM.r1 rfl (.tmp rfl .nil), rfl⟩
def w6 (all : List aQ) (p : aQ) (j : Nat) (x : al) (k : Nat) : Option aQ := fK (fun k y => gD all p j k x y) k (p.ops.drop k)
def w7 (all : List aQ) (p : aQ) (j : Nat) : Option aQ := fK (fun i x => if mz p x then some (p.drop [(i : Int)]) else w6 all p i x (i + 1)) j (p.ops.drop j)
theorem Ao {S : Nat → Prop} {H0 K K' : Hp} {A i : Nat} {all : List aQ} {r : Option aQ} {v : AV} (h : y5 S H0 K A all i r v K') : ∃ b, v = .bool b ∧ (b = false → r = none ∧ K' = K) ∧ (b = true → ∃ q, r = some q ∧ K.next ≤ K'.next ∧ ∃ os', FZ S H0 K' A os' (all.set i q)) := by
 cases r with
 | none => exact ⟨false, h.1, fun _ => ⟨rfl, h.2⟩, fun e => (by cases e)⟩
 | some q => exact ⟨true, h.1, fun e => (by cases e), fun _ => ⟨q, rfl, h.2.1, h.2.2⟩⟩
theorem uC {all : List aQ} {p : aQ} {j k : Nat} {x : al} (h : k < p.ops.length) : w6 all p j x k = (gD all p j k x p.ops[k]).orElse fun _ => w6 all p j x (k + 1) := by
 unfold w6; rw [List.drop_eq_getElem_cons h, fK]
theorem Dr {all : List aQ} {p : aQ} {j k : Nat} {x : al} (h : p.ops.length ≤ k) : w6 all p j x k = none := by
 unfold w6; rw [List.drop_of_length_le h, fK]
theorem uD {all : List aQ} {p : aQ} {j : Nat} (h : j < p.ops.length) : w7 all p j = (if mz p p.ops[j] then some (p.drop [(j : Int)]) else w6 all p j p.ops[j] (j + 1)).orElse fun _ => w7 all p (j + 1) := by
 unfold w7; rw [List.drop_eq_getElem_cons h, fK]
theorem Ds {all : List aQ} {p : aQ} {j : Nat} (h : p.ops.length ≤ j) : w7 all p j = none := by
 unfold w7; rw [List.drop_of_length_le h, fK]
theorem DQ {S : Nat → Prop} {H0 K : Hp} {A i : Nat} {os : List (AV × AV)} {all : List aQ} {p : aQ} {o : AV × AV} (I : FZ S H0 K A os all) (hp : all[i]? = some p) (ho : os[i]? = some o) (hl : p.ops.length ≤ 1000000) (hu : p.outs.length ≤ 1000000) (hr : ∀ x ∈ p.ops, x.aE.length ≤ 1000000) {pid : Nat} (hS : S pid) (hP : H0.obj pid = some [.v (.os A all.length 7)]) (hb : ∀ x ∈ p.ops, x.kind = 4 → 0 ≤ x.part ∧ x.part < (all.length : Int) ∧ (all.getD x.part.toNat bS).ins ≠ []) : iL Tryz.prog 45 [.op pid 0, .op A (i * 7)] K (y5 S H0 K A all i (jL all p)) := by
 refine iL.ah Tryz.func45 rfl rfl (aH rfl) (aK.gn 9 II mixed (aB.n1 0 rfl (da (aH rfl) gK rfl rfl I.row (eC _ _) rfl (I.get hp ho) rfl) (aB.d1 rfl (gw (aH rfl) pE rfl (I.ops _ _ _ ho hp).1) (aG.lq [.s 13, .h, .s 0, .s 1, .s 11, .s 12] (fun (j : Nat) => [(.s 13, .sv (.v (.int .i64 (j : Int))))]) (fun (j : Nat) => w7 all p j = jL all p) (fun (j : Nat) => p.ops.length - j) 0 rfl rfl rfl ?_))))
 rintro j hI
 refine aC (fun hc1 => ?_) (fun hc1 => ?_)
 ·have hj := cz hc1
  refine aB.n1 0 rfl (fh (aH rfl) kH rfl (I.ops _ _ _ ho hp).1 rfl (Int.natCast_nonneg _) (by rw [List.length_map]; omega)) ?_
  refine aB.d1 rfl (eE (aH rfl) fJ rfl rfl (eU (I.ops _ _ _ ho hp).1 (by rw [List.length_map]; exact hj)) (fN _) rfl (vc hj)) ?_
  refine aB.n1 0 rfl (bu (aH rfl) (Fn rfl) rfl rfl (Lm I hp ho hl hu hr p.ops[j])) (aG.ci 999 4 rfl (fun hc2 => ?_) (fun hc2 => ?_))
  ·refine aB.cq 999 (aH rfl) (Fn rfl) rfl rfl (sJ I hp ho hl [(j : Int)] (by simp)) (fun r1 K1 hP1 => ?_)
   obtain ⟨rfl, hN, o1, hZ⟩ := hP1
   exact ⟨.inr rfl, .bool true, _, (uV (by rw [← hI, uD hj, if_pos hc2]; rfl) hN hZ), aM.r1 rfl (.tmp rfl .nil), rfl⟩
  ·refine aB.d1 rfl (iU (aH rfl) rfl rfl (Nx (a := j) (by omega))) (aG.lp 7 [.s 7, .h, .s 0, .s 1, .s 5, .s 11, .s 12, .s 13] (fun (k : Nat) => [(.s 7, .sv (.v (.int .i64 (k : Int))))]) (fun (k : Nat) => j + 1 ≤ k ∧ w7 all p j = (w6 all p j p.ops[j] k).orElse fun _ => w7 all p (j + 1)) (fun (k : Nat) => p.ops.length - k) (j + 1) rfl rfl ⟨Nat.le_refl _, by rw [uD hj, if_neg (by rw [hc2]; simp)]⟩ ?_)
   rintro k hK
   refine aB.n1 0 rfl (da (aH rfl) gK rfl rfl I.row (eC _ _) rfl (I.get hp ho) rfl) (aB.d1 rfl (gw (aH rfl) pE rfl (I.ops _ _ _ ho hp).1) (aC (fun hc3 => ?_) (fun hc3 => ?_)))
   ·have hk := cz hc3
    refine aB.cq 999 (aH rfl) (Fn rfl) rfl rfl (J0 I hp ho hl hu hr (j := j) (k := k) (List.getElem?_eq_getElem hj) (List.getElem?_eq_getElem hk) hS hP (hb _ (List.getElem_mem hj))) (fun r2 K2 hP2 => ?_)
    obtain ⟨b, rfl, hR⟩ := Ao hP2
    refine aC (fun hc4 => ?_) (fun hc4 => ?_)
    ·exact ⟨.inr rfl, .bool true, _, (by obtain ⟨q, hq, hN, os2, hZ⟩ := hR.2 hc4; exact uV (by rw [← hI, hK.2, uC hk, hq]; rfl) hN hZ), aM.r1 rfl (.tmp rfl .nil), rfl⟩
    ·obtain ⟨hq, rfl⟩ := hR.1 hc4
     exact .b1 7 rfl (inc (by omega)) rfl ⟨k + 1, by omega, ⟨by omega, by rw [hK.2, uC hk, hq]; rfl⟩, rfl⟩
   ·have hk := dA hc3
    exact .b1 13 rfl (inc (by omega)) rfl ⟨j + 1, by omega, by rw [← hI, hK.2, Dr hk]; rfl, rfl⟩
 ·have hj := dA hc1
  exact ⟨.inr rfl, .bool false, _, (Jz (by rw [← hI, Ds (by omega)]) I), aM.r1 rfl (.tmp rfl .nil), rfl⟩
theorem xR (l : List aQ) (hl : l.length ≤ 1000000) (hne : l ≠ []) (H : Hp) : cB Tryz.prog 82 [.sl (l.map aQ.av)] H (.os (H.next + 1) l.length 7) (vS (l.map aQ.av) H) := by
 refine cB.ah Tryz.func82 rfl rfl (aH rfl) (aK.seq (aK.region (aD.run II 1 rfl (aD.nil (aK.seq (aK.seq (aK.region (aD.run II 1 rfl (aD.od (aH rfl) Tryz.underlying35 rfl (fun b hb => (aD.nil (aK.cond (b := b) rfl (fun hc1 => ?_) (fun hc1 => ?_)))))))))))))
 ·exact aK.seq (aK.region (aD.run II 1 rfl (aD.nil (aK.ret (absurd (List.map_eq_nil_iff.1 (hb hc1)) hne)))))
 ·refine aK.skip (aK.seq (aK.region (aD.c3 rfl (iz («as» := []) (aH rfl) nN ku rfl rfl rfl (gQ rfl) rfl rfl) (aD.run II 1 rfl (aD.c3 rfl (jT (aH rfl) nN ku rfl rfl Hp.bN (fun e he => by cases he) rfl rfl (ba aQ.cells (fun _ => rfl) _) rfl (by rw [List.length_map]; omega) (by rw [List.length_map]; omega)) ?_)))))
  exact aD.run II 1 rfl (aD.nil (aK.ret (cD rfl rfl rfl (by rw [List.length_map, Nat.zero_add]; rfl))))
theorem vb (l : List Port) (hl : l.length ≤ 1000000) (hne : l ≠ []) (H : Hp) : cB Tryz.prog 83 [.sl (l.map Port.av)] H (.os (H.next + 1) l.length 9) (vS (l.map Port.av) H) := by
 refine cB.ah Tryz.func83 rfl rfl (aH rfl) (aK.seq (aK.region (aD.run II 1 rfl (aD.nil (aK.seq (aK.seq (aK.region (aD.run II 1 rfl (aD.od (aH rfl) Tryz.underlying58 rfl (fun b hb => (aD.nil (aK.cond (b := b) rfl (fun hc1 => ?_) (fun hc1 => ?_)))))))))))))
 ·exact aK.seq (aK.region (aD.run II 1 rfl (aD.nil (aK.ret (absurd (List.map_eq_nil_iff.1 (hb hc1)) hne)))))
 ·refine aK.skip (aK.seq (aK.region (aD.c3 rfl (iz («as» := []) (aH rfl) eD fz rfl rfl rfl (gQ rfl) rfl rfl) (aD.run II 1 rfl (aD.c3 rfl (jT (aH rfl) eD fz rfl rfl Hp.bN (fun e he => by cases he) rfl rfl (ba Port.cells (fun _ => rfl) _) rfl (by rw [List.length_map]; omega) (by rw [List.length_map]; omega)) ?_)))))
  exact aD.run II 1 rfl (aD.nil (aK.ret (cD rfl rfl rfl (by rw [List.length_map, Nat.zero_add]; rfl))))
theorem xS (l : List al) (hl : l.length ≤ 1000000) : Pure Tryz.prog 84 [.sl (l.map al.av)] (.sl (l.map al.av)) := by
 refine Pure.ah Tryz.func84 rfl rfl (aH rfl) fun H => (aK.seq (aK.region (aD.run II 1 rfl (aD.nil (aK.seq (aK.seq (aK.region (aD.run II 1 rfl (aD.od (aH rfl) Tryz.underlying59 rfl (fun b hb => (aD.nil (aK.cond rfl (fun hc1 => ?_) (fun hc1 => ?_)))))))))))))
 ·exact aK.seq (aK.region (aD.run II 1 rfl (aD.nil (aK.ret (cD rfl rfl rfl (by rw [hb hc1]))))))
 ·refine aK.skip (aK.seq (aK.region (aD.c2 rfl (bD («as» := []) (aH rfl) iT fy rfl rfl rfl (gQ rfl) rfl) (aD.run II 1 rfl (aD.c3 rfl (jS (aH rfl) iT rfl rfl rfl (ba al.cells (fun _ => rfl) _) rfl (by rw [List.length_map]; simp only [List.length_nil]; omega) (by rw [List.length_map]; simp only [List.length_nil]; omega)) ?_)))))
  exact aD.run II 1 rfl (aD.nil (aK.ret (cD rfl rfl rfl (by rfl))))
theorem xT (l : List al) (hl : l.length ≤ 1000000) (hne : l ≠ []) (H : Hp) : cB Tryz.prog 84 [.sl (l.map al.av)] H (.os (H.next + 1) l.length 13) (vS (l.map al.av) H) := by
 refine cB.ah Tryz.func84 rfl rfl (aH rfl) (aK.seq (aK.region (aD.run II 1 rfl (aD.nil (aK.seq (aK.seq (aK.region (aD.run II 1 rfl (aD.od (aH rfl) Tryz.underlying59 rfl (fun b hb => (aD.nil (aK.cond (b := b) rfl (fun hc1 => ?_) (fun hc1 => ?_)))))))))))))
 ·exact aK.seq (aK.region (aD.run II 1 rfl (aD.nil (aK.ret (absurd (List.map_eq_nil_iff.1 (hb hc1)) hne)))))
 ·refine aK.skip (aK.seq (aK.region (aD.c3 rfl (iz («as» := []) (aH rfl) iT fy rfl rfl rfl (gQ rfl) rfl rfl) (aD.run II 1 rfl (aD.c3 rfl (jT (aH rfl) iT fy rfl rfl Hp.bN (fun e he => by cases he) rfl rfl (ba al.cells (fun _ => rfl) _) rfl (by rw [List.length_map]; omega) (by rw [List.length_map]; omega)) ?_)))))
  exact aD.run II 1 rfl (aD.nil (aK.ret (cD rfl rfl rfl (by rw [List.length_map, Nat.zero_add]; rfl))))
def Mq (K : Hp) (xs : List AV) (e : Nat) (o : AV) (K' : Hp) : Prop := isRow K' o e xs ∧ K'.fin ∧ K.next ≤ K'.next ∧ (∀ j, j < K.next → K'.obj j = K.obj j) ∧ ∀ id, cP o = some id → K.next ≤ id ∧ id < K'.next
theorem B6 {K : Hp} (hf : K.fin) (xs : List AV) (e : Nat) : Mq K xs e (.os (K.next + 1) xs.length e) (vS xs K) :=
 ⟨.inr (.inr ⟨_, rfl, ra _ _⟩), fY (lU (fY hf _) _) _, by show K.next ≤ K.next + 1 + 1; omega, fun j hj => rb _ _ hj, fun id h => (by cases h; exact ⟨by omega, by show K.next + 1 < K.next + 1 + 1; omega⟩)⟩
theorem B7 {K : Hp} (hf : K.fin) (e : Nat) : Mq K [] e (.sl []) K := ⟨.inl ⟨rfl, rfl⟩, hf, Nat.le_refl _, fun _ _ => rfl, fun id h => (by cases h)⟩
theorem Ep (l : List Port) (hl : l.length ≤ 1000000) (K : Hp) (hf : K.fin) : ∃ o K', cB Tryz.prog 83 [.sl (l.map Port.av)] K o K' ∧ Mq K (l.map Port.av) 9 o K' := by
 by_cases h : l = []
 ·subst h; exact ⟨_, _, jm [] hl K, B7 hf 9⟩
 ·exact ⟨_, _, by have := vb l hl h K; rwa [← List.length_map (f := Port.av)] at this, B6 hf _ _⟩
theorem Lo (l : List al) (hl : l.length ≤ 1000000) (K : Hp) (hf : K.fin) : ∃ o K', cB Tryz.prog 84 [.sl (l.map al.av)] K o K' ∧ Mq K (l.map al.av) 13 o K' := by
 by_cases h : l = []
 ·subst h; exact ⟨_, _, xS [] hl K, B7 hf 13⟩
 ·exact ⟨_, _, by have := xT l hl h K; rwa [← List.length_map (f := al.av)] at this, B6 hf _ _⟩
def By (ys : List AV) : List Sv := (ys.flatMap AV.cells).map .v
theorem GO (f : Nat) (s : St) : ∀ (l : List AV) (j : Nat), jY f s j (l.map .v) = true
 | [], _ => rfl
 | _ :: l, j => GO f s l (j + 1)
theorem KE (f : Nat) : ∀ (l : List AV) (j : Nat), bm f j (l.map .v) = l.map .v
 | [], _ => rfl
 | a :: l, j => by simp only [List.map_cons, bm, KE f l (j + 1)]
theorem Jq (f : Nat) : ∀ (l : List AV) (j : Nat), dH f j (l.map .v) = []
 | [], _ => rfl
 | a :: l, j => Jq f l (j + 1)
theorem KL (s : St) : ∀ l : List AV, nA s (l.map .v) = some (l.map .v)
 | [] => rfl
 | a :: l => by simp only [List.map_cons, nA, DE, KL s l]
theorem zD : ∀ l : List AV, rowsOf (l.map .v) = []
 | [] => rfl
 | a :: l => zD l
theorem Kept.Oe {s : St} {Q : St → Prop} (k id : Nat) {ys : List AV} {H : Hp} (hH : get s .h = some (.hp H)) (ho : H.obj id = some (aZ ys)) (hk : get s (.b k) = none) (h : Kept ((.b k, .ob id (By ys)) :: (.h, .hp (H.del id)) :: s) Q) : Kept s Q := by
 refine Kept.Of k id 0 hH ho hk (GO _ _ _ _) ?_
 unfold aZ
 rw [KE, Jq]
 exact h
theorem Kept.Oz {s : St} {Q : St → Prop} (k : Nat) {id : Nat} {ys : List AV} {H : Hp} (hk : get s (.b k) = some (.ob id (By ys))) (hH : get s .h = some (.hp H)) (h : Kept ((.b k, .gone) :: (.h, .hp (H.set id (aZ ys))) :: s) Q) : Kept s Q := by
 refine Kept.cls k hk hH (KL _ _) (by unfold By; rw [zD]; rfl) ?_
 unfold By
 rw [zD]
 exact h
section
variable {P : Program} {N : Nat} {s : St} {d : Nat} {ty : TypeId} {pos : String} {af : Array Edge} {g : Option (Nat × Bool)}
theorem A9 {esz : Nat} {ys : List AV} (h : ∀ e ∈ ys, e.cells.length = esz) {i j : Nat} {cs : List AV} {c : AV} (hi : ys[i]? = some (.agg cs)) (hc : cs[j]? = some c) : (By ys)[i * esz + j]? = some (.v c) := by
 have hcs : cs.length = esz := h _ (List.mem_of_getElem? hi)
 have hj := (List.getElem?_eq_some_iff.1 hc).1
 unfold By; rw [List.getElem?_map, jZ h i j (.agg cs) hi (by omega)]
 simp only [AV.cells, hc, Option.map_some]
theorem qq {t1 : TypeId} {x : Operand} {k id off i f esz : Nat} {ys cs : List AV} {c : AV} (hN : d < N) (hl : lk P t1 = some (false, 1)) (hx : gS x s = some (.lp k off)) (hk : get s (.b k) = some (.ob id (By ys))) (hes : ∀ e ∈ ys, e.cells.length = esz) (hoff : off = i * esz + f) (he : ys[i]? = some (.agg cs)) (hc : cs[f]? = some c) :
  aW P N ⟨some d, .load t1 x, ty, pos, af, g⟩ s (rd x ++ [.b k]) [(.s d, .sv (.v c))] := by
 subst hoff
 refine Lw hN hl hx hk ?_
 have h1 := A9 hes he hc
 obtain ⟨h2, h3⟩ := List.getElem?_eq_some_iff.1 h1
 rw [List.drop_eq_getElem_cons h2, h3]; rfl
theorem Fb {l m : List AV} {k : Nat} {a : AV} (h : (l.map Hc.v).set k (.v a) = m.map Hc.v) : (l.map Sv.v).set k (.v a) = m.map Sv.v := by
 rw [← List.map_set] at h ⊢
 have inj : ∀ {a b : List AV}, a.map Hc.v = b.map Hc.v → a = b := fun {a b} e => by
  have := congrArg (List.map ph) e
  simpa [List.map_map, Function.comp_def, ph] using this
 rw [inj h]
theorem qo {t1 : TypeId} {x y : Operand} {k id off i f esz : Nat} {b : Bool} {ys cs : List AV} {av : AV} (hl : lk P t1 = some (b, 1)) (hx : gS x s = some (.lp k off)) (hk : get s (.b k) = some (.ob id (By ys))) (hy : gS y s = some (.v av)) (hfl : av.flat = true) (hes : ∀ e ∈ ys, e.cells.length = esz) (hoff : off = i * esz + f) (he : ys[i]? = some (.agg cs)) (hf : f < esz) :
  aW P N ⟨none, .store t1 x y, ty, pos, af, g⟩ s (rd x ++ (rd y ++ [.b k])) [(.b k, .ob id (By (ys.set i (.agg (cs.set f av)))))] := by
 subst hoff
 have hcs : cs.length = esz := hes _ (List.mem_of_getElem? he)
 obtain ⟨c, hc⟩ : ∃ c, cs[f]? = some c := ⟨_, List.getElem?_eq_getElem (by omega)⟩
 have h2 := (List.getElem?_eq_some_iff.1 (A9 hes he hc)).1
 have hce : (Sv.v av).cells = [Sv.v av] := by simp [Sv.cells, AV.gm hfl]
 have := Lr (ty := ty) (pos := pos) (af := af) (g := g) (N := N) (n := 1) hl hx hk hy (by cases av <;> first | rfl | cases hfl) (by rw [hce]; rfl) (by omega)
 rw [hce] at this
 have e : setAt (By ys) (i * esz + f) [.v av] = By (ys.set i (.agg (cs.set f av))) := by
  rw [show setAt (By ys) (i * esz + f) [.v av] = (By ys).set (i * esz + f) (.v av) from by
   unfold setAt; rw [List.set_eq_take_append_cons_drop, if_pos h2]; simp]
  exact Fb (oE hes he hf av)
 rwa [e] at this
end
def qf (ps : List aQ) (os : List (AV × AV)) : List AV := iB (ps.take os.length) os ++ (ps.drop os.length).map aQ.av
theorem mG (ps : List aQ) (os : List (AV × AV)) : ∀ e ∈ qf ps os, e.cells.length = 7 := fun e he => by
 rcases List.mem_append.1 he with h | h
 ·exact eC _ _ e h
 ·obtain ⟨p, _, rfl⟩ := List.mem_map.1 h; rfl
theorem F9 {ps : List aQ} {os : List (AV × AV)} {i : Nat} {p : aQ} (hi : os.length = i) (hp : ps[i]? = some p) : (qf ps os)[i]? = some (.agg p.cells) := by
 subst hi
 have hlt := (List.getElem?_eq_some_iff.1 hp).1
 have h1 : (iB (ps.take os.length) os).length = os.length := by rw [ni (by simp; omega)]; simp; omega
 unfold qf
 rw [List.getElem?_append_right (by omega), h1, Nat.sub_self, List.getElem?_map, List.getElem?_drop, Nat.add_zero, hp]; rfl
theorem F8 {ps : List aQ} {os : List (AV × AV)} {i : Nat} {p : aQ} {o : AV × AV} (hi : os.length = i) (hp : ps[i]? = some p) : (qf ps os).set i (iH p o) = qf ps (os ++ [o]) := by
 subst hi
 have hlt := (List.getElem?_eq_some_iff.1 hp).1
 have h1 : (iB (ps.take os.length) os).length = os.length := by rw [ni (by simp; omega)]; simp; omega
 have h2 : (ps.take os.length).length = os.length := by simp; omega
 unfold qf
 rw [List.set_append_right _ _ (by omega), h1, Nat.sub_self, List.length_append, List.length_singleton, List.drop_eq_getElem_cons hlt, List.map_cons, List.set_cons_zero, List.take_add_one, hp]
 show iB (ps.take os.length) os ++ (iH p o :: _) = iB (ps.take os.length ++ [p]) (os ++ [o]) ++ _
 have e2 : iB (ps.take os.length ++ [p]) (os ++ [o]) = iB (ps.take os.length) os ++ [iH p o] := by
  unfold iB
  rw [List.zipWith_append (by omega)]; rfl
 rw [e2, List.append_assoc]; rfl
structure MZ (H K : Hp) (A : Nat) (ps : List aQ) (os : List (AV × AV)) : Prop where
 fin : K.fin
 nx : H.next ≤ K.next
 old : ∀ j, j < H.next → K.obj j = H.obj j
 lo : H.next ≤ A
 row : K.obj A = some (aZ (qf ps os))
 ops : ∀ (i : Nat) o p, os[i]? = some o → ps[i]? = some p → isRow K o.1 13 (p.ops.map al.av) ∧ isRow K o.2 9 (p.outs.map Port.av)
 ids : ∀ (i : Nat) o id, os[i]? = some o → (cP o.1 = some id ∨ cP o.2 = some id) → H.next ≤ id ∧ id < K.next ∧ id ≠ A
 own : ∀ (i : Nat) o id, os[i]? = some o → cP o.1 = some id → cP o.2 = some id → False
 dist : ∀ (i j : Nat) o o' id, os[i]? = some o → os[j]? = some o' → (cP o.1 = some id ∨ cP o.2 = some id) → (cP o'.1 = some id ∨ cP o'.2 = some id) → i = j
theorem MZ.alt {H K : Hp} {A : Nat} {ps : List aQ} {os : List (AV × AV)} (I : MZ H K A ps os) : A < K.next := by
 apply Classical.byContradiction
 intro hn
 have := I.row
 rw [I.fin A (by omega)] at this; cases this
theorem lu {α : Type} {l : List α} {x y : α} {j : Nat} (h : (l ++ [x])[j]? = some y) : (j = l.length ∧ y = x) ∨ l[j]? = some y := by
 rcases Nat.lt_or_ge j l.length with h1 | h1
 ·rw [List.getElem?_append_left h1] at h; exact .inr h
 ·rw [List.getElem?_append_right h1] at h
  cases e : j - l.length with
  | zero => rw [e] at h; simp at h; exact .inl ⟨by omega, h.symm⟩
  | succ k => rw [e] at h; simp at h
theorem MZ.next {H K K1 K2 : Hp} {A : Nat} {ps : List aQ} {os : List (AV × AV)} (I : MZ H K A ps os) {p : aQ} (hp : ps[os.length]? = some p) {o1 o2 : AV} (h1 : Mq (K.del A) (p.outs.map Port.av) 9 o1 K1) (h2 : Mq K1 (p.ops.map al.av) 13 o2 K2) :
  MZ H (K2.set A (aZ (qf ps (os ++ [(o2, o1)])))) A ps (os ++ [(o2, o1)]) := by
 obtain ⟨a1, a2, a3, a4, a5⟩ := h1
 obtain ⟨b1, b2, b3, b4, b5⟩ := h2
 have hA := I.alt
 have a3 : K.next ≤ K1.next := a3
 have hlow : ∀ j, j < K.next → j ≠ A → (K2.set A (aZ (qf ps (os ++ [(o2, o1)])))).obj j = K.obj j := fun j hj hne => by
  rw [Hp.eS hne, b4 j (by omega), a4 j hj]
  show (if j = A then none else K.obj j) = _
  rw [if_neg hne]
 refine ⟨lA b2 (by omega) _, Nat.le_trans I.nx (Nat.le_trans a3 b3), fun j hj => by rw [hlow j (by have := I.nx; omega) (by have := I.lo; omega)]; exact I.old j hj, I.lo, Hp.bN, fun i o q ho hq => ?_, fun i o id ho h => ?_, fun i o id ho g1 g2 => ?_, fun i j o o' id ho ho' g1 g2 => ?_⟩
 ·rcases lu ho with ⟨rfl, rfl⟩ | ho
  ·rw [hp] at hq; cases hq
   refine ⟨dX b1 fun id h => ?_, dX a1 fun id h => ?_⟩
   ·have : K1.next ≤ id := (b5 id h).1
    exact Hp.eS (by omega)
   ·have : K.next ≤ id ∧ id < K1.next := a5 id h
    rw [Hp.eS (by omega), b4 id this.2]
  ·obtain ⟨c1, c2⟩ := I.ops i o q ho hq
   exact ⟨dX c1 fun id h => hlow id (I.ids i o id ho (.inl h)).2.1 (I.ids i o id ho (.inl h)).2.2, dX c2 fun id h => hlow id (I.ids i o id ho (.inr h)).2.1 (I.ids i o id ho (.inr h)).2.2⟩
 ·show H.next ≤ id ∧ id < K2.next ∧ id ≠ A
  have := I.nx
  rcases lu ho with ⟨rfl, rfl⟩ | ho
  ·rcases h with h | h
   ·have := b5 id h; omega
   ·have : K.next ≤ id ∧ id < K1.next := a5 id h
    omega
  ·have := I.ids i o id ho h; omega
 ·rcases lu ho with ⟨rfl, rfl⟩ | ho
  ·have := b5 id g1
   have : K.next ≤ id ∧ id < K1.next := a5 id g2
   omega
  ·exact I.own i o id ho g1 g2
 ·have hnew : ∀ id, (cP o2 = some id ∨ cP o1 = some id) → K.next ≤ id := fun id h => by
   rcases h with h | h
   ·have := b5 id h; omega
   ·exact (a5 id h).1
  rcases lu ho with ⟨rfl, rfl⟩ | ho <;> rcases lu ho' with ⟨rfl, rfl⟩ | ho'
  ·rfl
  ·have := hnew id g1; have := I.ids j o' id ho' g2; omega
  ·have := hnew id g2; have := I.ids i o id ho g1; omega
  ·exact I.dist i j o o' id ho ho' g1 g2
theorem MZ.start {H : Hp} {ps : List aQ} (hf : H.fin) : MZ H (vS (ps.map aQ.av) H) (H.next + 1) ps [] :=
 ⟨fY (lU (fY hf _) _) _, by show H.next ≤ H.next + 1 + 1; omega, fun j hj => rb _ _ hj, by omega, ra _ _, fun i o p h => by simp at h, fun i o id h => by simp at h, fun i o id h => by simp at h, fun i j o o' id h => by simp at h⟩
def OC (H : Hp) (ps : List aQ) : AV → Hp → Prop := fun r K => ∃ pid A os, r = .op pid 0 ∧ H.next ≤ pid ∧ K.obj pid = some [.v (.os A ps.length 7)] ∧ (∀ j, j < H.next → K.obj j = H.obj j) ∧ FZ (fun j => j < H.next ∨ j = pid) K K A os ps
theorem MZ.end {H K : Hp} {A : Nat} {ps : List aQ} {os : List (AV × AV)} (I : MZ H K A ps os) (hl : os.length = ps.length) : OC H ps (.op K.next 0) (K.new [.v (.os A ps.length 7)]) := by
 have hA := I.alt
 have hn := I.nx
 refine ⟨K.next, A, os, rfl, I.nx, Hp.dd _ _, fun j hj => by rw [Hp.cr _ _ (by omega)]; exact I.old j hj, fY I.fin _, fun j hj => ?_, fun _ _ => rfl, ?_, hl, ?_, fun i o p h1 h2 => ?_, fun i o id h1 h2 => ?_, I.own, I.dist⟩
 ·show j < K.next + 1
  rcases hj with h | h <;> omega
 ·rintro (h | h)
  ·have := I.lo; omega
  ·omega
 ·rw [Hp.cr _ _ hA, I.row]
  unfold qf
  rw [List.take_of_length_le (by omega), List.drop_eq_nil_of_le (by omega)]; simp
 ·obtain ⟨c1, c2⟩ := I.ops i o p h1 h2
  exact ⟨dX c1 fun id h => Hp.cr _ _ (I.ids i o id h1 (.inl h)).2.1, dX c2 fun id h => Hp.cr _ _ (I.ids i o id h1 (.inr h)).2.1⟩
 ·have := I.ids i o id h1 h2
  refine ⟨?_, this.2.2⟩
  rintro (h | h) <;> omega
theorem rU {ys : List AV} {esz i : Nat} {cs : List AV} (h : ∀ e ∈ ys, e.cells.length = esz) (hc : cs.length = esz) : ∀ e ∈ ys.set i (.agg cs), e.cells.length = esz := fun e he => by
 rcases List.mem_or_eq_of_mem_set he with h1 | rfl
 ·exact h e h1
 ·exact hc
theorem nL {ys : List AV} {i : Nat} {cs : List AV} {e : AV} (h : ys[i]? = some e) : (ys.set i (.agg cs))[i]? = some (.agg cs) := List.getElem?_set_self (List.getElem?_eq_some_iff.1 h).1
def PB (ps : List aQ) : Prop := ∀ p ∈ ps, p.ins.length ≤ 1000000 ∧ p.outs.length ≤ 1000000 ∧ p.ops.length ≤ 1000000 ∧ p.fB.length ≤ 1000000
theorem En (ps : List aQ) (hne : ps ≠ []) (hlen : ps.length ≤ 1000000) (hb : PB ps) (H : Hp) (hf : H.fin) : iL Tryz.prog 44 [cA ps] H (OC H ps) := by
 have e0 : cA ps = .agg [.sl (ps.map aQ.av)] := rfl
 refine iL.ah Tryz.func44 rfl rfl (aH rfl) (aK.go II mixed (aB.d2 rfl (bf (aH rfl) (Fn rfl) rfl rfl (xR ps hlen hne H)) (aG.lp 4 [.s 16, .h, .s 15, .s 3, .b 10] (fun ((i, K, os) : Nat × Hp × List (AV × AV)) => [(.s 16, .sv (.v (.int .i64 (i : Int)))), (.h, .hp K), (.s 15, .sv (.v (.int .i64 (ps.length : Int))))]) (fun ((i, K, os) : Nat × Hp × List (AV × AV)) => MZ H K (H.next + 1) ps os ∧ os.length = i ∧ i ≤ ps.length) (fun ((i, K, os) : Nat × Hp × List (AV × AV)) => ps.length - i) (0, vS (ps.map aQ.av) H, []) rfl rfl ⟨MZ.start hf, rfl, Nat.zero_le _⟩ ?_)))
 rintro ⟨i, K, os⟩ hI
 dsimp only at hI
 refine aG.ci 999 5 rfl (fun hc1 => ?_) (fun hc1 => ?_)
 ·have hi := MP hc1
  refine aB.n1 1 rfl (bR (aH rfl) eH rfl rfl (Int.natCast_nonneg _) (by omega)) ?_
  obtain ⟨p, hp⟩ : ∃ p, ps[i]? = some p := ⟨_, List.getElem?_eq_getElem hi⟩
  have hpb := hb p (List.mem_of_getElem? hp)
  obtain ⟨o1, K1, hR1, hC1⟩ := Ep p.outs hpb.2.1 (K.del (H.next + 1)) (lU hI.1.fin _)
  obtain ⟨o2, K2, hR2, hC2⟩ := Lo p.ops hpb.2.2.1 K1 hC1.2.1
  have hm := F9 hI.2.1 hp
  refine aG.kept (Kept.Oe 100 (H.next + 1) rfl hI.1.row rfl (Kept.lp 5 100 rfl rfl (Kept.now (aG.r 8 ⟨rfl, (aF.d1 rfl (qq (aH rfl) fk rfl rfl (mG _ _) rfl hm rfl) (aF.n1 3 rfl (aX (aH rfl) (Fn rfl) rfl (jm _ hpb.1)) (aF.d1 rfl (qq (aH rfl) fk rfl rfl (mG _ _) rfl hm rfl) (aF.n2 3 rfl (bf (aH rfl) (Fn rfl) rfl rfl hR1) (aF.d1 rfl (qq (aH rfl) gK rfl rfl (mG _ _) rfl hm rfl) (aF.n2 3 rfl (bf (aH rfl) (Fn rfl) rfl rfl hR2) (aF.d1 rfl (qq (aH rfl) zf rfl rfl (mG _ _) rfl hm rfl) (aF.n1 2 rfl (aX (aH rfl) (Fn rfl) rfl (xV _ hpb.2.2.2)) (aF.n1 2 rfl (qo fk rfl rfl rfl rfl (mG _ _) rfl hm (aH rfl)) (aF.n1 2 rfl (qo fk rfl rfl rfl (uQ hC1.1) (rU (mG _ _) rfl) rfl (nL hm) (aH rfl)) ?_))))))))))⟩))))
  refine aF.n1 2 rfl (qo gK rfl rfl rfl (uQ hC2.1) (rU (rU (mG _ _) rfl) rfl) rfl (nL (nL hm)) (aH rfl)) (aF.n1 0 rfl (qo zf rfl rfl rfl rfl (rU (rU (rU (mG _ _) rfl) rfl) rfl) rfl (nL (nL (nL hm))) (aH rfl)) ⟨by kernel_rfl, aG.kept (Kept.Oz 100 rfl rfl (Kept.now (aG.r 0 (aG.kept (Kept.ly rfl (show K2.set (H.next + 1) (aZ ((((((qf ps os).set i _).set i _).set i _).set i _))) = K2.set (H.next + 1) (aZ (qf ps (os ++ [(o2, o1)]))) from congrArg (fun ys => K2.set (H.next + 1) (aZ ys)) (by rw [List.set_set, List.set_set, List.set_set]; exact F8 (o := (o2, o1)) hI.2.1 hp)) (Kept.now (aG.r 999 ?_)))))))⟩)
  exact .b1 16 rfl (inc (by omega)) rfl ⟨(i + 1, _, os ++ [(o2, o1)]), by dsimp only; omega, ⟨hI.1.next (by rw [hI.2.1]; exact hp) hC1 hC2, by simp [hI.2.1], by omega⟩, rfl⟩
 ·have hi := zy hc1
  exact aG.kept (Kept.qO 10 rfl rfl (Kept.op 2 rfl rfl (Kept.cls 10 rfl rfl rfl rfl (Kept.now (aG.r 999 ⟨.inr rfl, _, _, hI.1.end (by have := hI.2; omega), aM.r1 rfl (.tmp rfl .nil), rfl⟩)))))
theorem GK {s : St} {K : Hp} {A c : Nat} {ys : List AV} {o : AV} {e : Nat} {xs : List AV} (hH : get s .h = some (.hp K)) (hA : K.obj A = some (aZ ys)) (hc : (aZ ys)[c]? = some (.v o)) (ho : isRow K o e xs) (hne : ∀ id, cP o = some id → id ≠ A) (hes : ∀ x ∈ xs, x.cells.length = e) :
  Kept s fun s' => (∀ c, c ≠ .h → get s' c = get s c) ∧ ∃ K', get s' .h = some (.hp K') ∧ K'.next = K.next ∧ K'.obj A = some ((aZ ys).set c (.v (.sl xs))) ∧ ∀ j, j ≠ A → cP o ≠ some j → K'.obj j = K.obj j := by
 rcases ho with ⟨rfl, rfl⟩ | ⟨rfl, rfl⟩ | ⟨id, rfl, h2⟩
 ·exact Kept.now ⟨fun _ _ => rfl, K, hH, rfl, by rw [hA, fM hc], fun _ _ _ => rfl⟩
 ·exact Kept.JH A c hH hA hc (Kept.now ⟨fun c hc => by simp [get, Ne.symm hc], _, rfl, rfl, Hp.bN, fun j hj _ => Hp.eS hj⟩)
 ·refine Kept.M1 A c (ys := xs) hH hA hc h2 (hne id rfl).symm hes (by rw [List.take_of_length_le]; rw [dC hes]; exact Nat.le_refl _) (Nat.le_refl _) (Kept.now ⟨fun c hc => by simp [get, Ne.symm hc], _, rfl, rfl, ?_, fun j hj hi => ?_⟩)
  ·rw [List.take_of_length_le (Nat.le_refl _)]; exact Hp.bN
  ·rw [Hp.eS hj]
   show (if j = id then none else K.obj j) = _
   rw [if_neg fun e => hi (by rw [e]; rfl)]
def qd (all : List aQ) (os : List (AV × AV)) (n : Nat) : List AV := (all.take n).map aQ.av ++ (iB all os).drop n
theorem zb (all : List aQ) (os : List (AV × AV)) (n : Nat) : ∀ e ∈ qd all os n, e.cells.length = 7 := fun e he => by
 rcases List.mem_append.1 he with h | h
 ·obtain ⟨p, _, rfl⟩ := List.mem_map.1 h; rfl
 ·exact eC all os e (List.mem_of_mem_drop h)
theorem F7 {all : List aQ} {os : List (AV × AV)} {n : Nat} {p : aQ} {o : AV × AV} (hp : all[n]? = some p) (ho : os[n]? = some o) : (qd all os n)[n]? = some (iH p o) := by
 have hn := (List.getElem?_eq_some_iff.1 hp).1
 have h1 : ((all.take n).map aQ.av).length = n := by simp; omega
 unfold qd
 rw [List.getElem?_append_right (by omega), h1, Nat.sub_self, List.getElem?_drop, Nat.add_zero]
 exact nj hp ho
theorem F6 {all : List aQ} {os : List (AV × AV)} {n : Nat} {p : aQ} (hl : os.length = all.length) (hp : all[n]? = some p) : (qd all os n).set n p.av = qd all os (n + 1) := by
 have hn := (List.getElem?_eq_some_iff.1 hp).1
 have h1 : ((all.take n).map aQ.av).length = n := by simp; omega
 have hz : n < (iB all os).length := by rw [ni hl]; exact hn
 unfold qd
 rw [List.set_append_right _ _ (by omega), h1, Nat.sub_self, List.drop_eq_getElem_cons hz, List.set_cons_zero, List.take_add_one, hp]
 simp
structure FG (S : Nat → Prop) (H0 K : Hp) (M A : Nat) (os : List (AV × AV)) (all : List aQ) (n : Nat) : Prop where
 nx : K.next = M
 old : ∀ i, S i → K.obj i = H0.obj i
 lo : ¬ S A
 len : os.length = all.length
 row : K.obj A = some (aZ (qd all os n))
 ops : ∀ (i : Nat) o p, n ≤ i → os[i]? = some o → all[i]? = some p → isRow K o.1 13 (p.ops.map al.av) ∧ isRow K o.2 9 (p.outs.map Port.av)
 ids : ∀ (i : Nat) o id, os[i]? = some o → (cP o.1 = some id ∨ cP o.2 = some id) → ¬ S id ∧ id ≠ A
 own : ∀ (i : Nat) o id, os[i]? = some o → cP o.1 = some id → cP o.2 = some id → False
 dist : ∀ (i j : Nat) o o' id, os[i]? = some o → os[j]? = some o' → (cP o.1 = some id ∨ cP o.2 = some id) → (cP o'.1 = some id ∨ cP o'.2 = some id) → i = j
theorem Nk {s : St} {S : Nat → Prop} {H0 K : Hp} {M A : Nat} {os : List (AV × AV)} {all : List aQ} {n : Nat} (hH : get s .h = some (.hp K)) (I : FG S H0 K M A os all n) (hn : n < all.length) :
  Kept s fun s' => (∀ c, c ≠ .h → get s' c = get s c) ∧ ∃ K', get s' .h = some (.hp K') ∧ FG S H0 K' M A os all (n + 1) := by
 have hl := I.len
 obtain ⟨p, hp⟩ : ∃ p, all[n]? = some p := ⟨_, List.getElem?_eq_getElem hn⟩
 obtain ⟨o, ho⟩ : ∃ o, os[n]? = some o := ⟨_, List.getElem?_eq_getElem (by omega)⟩
 obtain ⟨r1, r2⟩ := I.ops n o p (Nat.le_refl _) ho hp
 have hg := F7 hp ho
 have hc1 : (aZ (qd all os n))[n * 7 + 2]? = some (.v o.1) := by rw [jM (zb all os n) hg (by decide)]; rfl
 refine (GK hH I.row hc1 r1 (fun id h => (I.ids n o id ho (.inl h)).2) (fN _)).bind fun s1 ⟨e1, K1, e2, e3, e4, e5⟩ => ?_
 have hs1 : (aZ (qd all os n)).set (n * 7 + 2) (.v (.sl (p.ops.map al.av))) = aZ ((qd all os n).set n (.agg ((iH p o).cells.set 2 (.sl (p.ops.map al.av))))) := oE (zb all os n) hg (by decide) _
 rw [hs1] at e4
 have hE1 := rU (i := n) (zb all os n) (cs := (iH p o).cells.set 2 (.sl (p.ops.map al.av))) rfl
 have hg1 := nL (cs := (iH p o).cells.set 2 (.sl (p.ops.map al.av))) hg
 have hc2 : (aZ ((qd all os n).set n (.agg ((iH p o).cells.set 2 (.sl (p.ops.map al.av))))))[n * 7 + 3]? = some (.v o.2) := by rw [jM hE1 hg1 (by decide)]; rfl
 have r2' : isRow K1 o.2 9 (p.outs.map Port.av) := dX r2 fun id h => e5 id (I.ids n o id ho (.inr h)).2 fun h1 => I.own n o id ho h1 h
 refine (GK e2 e4 hc2 r2' (fun id h => (I.ids n o id ho (.inr h)).2) (lE _)).bind fun s2 ⟨f1, K2, f2, f3, f4, f5⟩ => Kept.now ⟨fun c hc => (f1 c hc).trans (e1 c hc), K2, f2, ?_⟩
 have hs2 := oE hE1 hg1 (show 3 < 7 by decide) (.sl (p.outs.map Port.av))
 rw [hs2, List.set_set] at f4
 have hK : ∀ j, j ≠ A → cP o.1 ≠ some j → cP o.2 ≠ some j → K2.obj j = K.obj j := fun j h1 h2 h3 => (f5 j h1 h3).trans (e5 j h1 h2)
 refine ⟨f3.trans (e3.trans I.nx), fun i hi => ?_, I.lo, hl, ?_, fun i o2 p2 h1 h2 h3 => ?_, I.ids, I.own, I.dist⟩
 ·rw [hK i (fun e => I.lo (e ▸ hi)) (fun h => (I.ids n o i ho (.inl h)).1 hi) (fun h => (I.ids n o i ho (.inr h)).1 hi)]; exact I.old i hi
 ·rw [f4]
  exact congrArg (fun l => some (aZ l)) (F6 hl hp)
 ·obtain ⟨c1, c2⟩ := I.ops i o2 p2 (by omega) h2 h3
  have hd : ∀ id, (cP o2.1 = some id ∨ cP o2.2 = some id) → K2.obj id = K.obj id := fun id h => hK id (I.ids i o2 id h2 h).2 (fun e => by have := I.dist i n o2 o id h2 ho h (.inl e); omega) (fun e => by have := I.dist i n o2 o id h2 ho h (.inr e); omega)
  exact ⟨dX c1 fun id h => hd id (.inl h), dX c2 fun id h => hd id (.inr h)⟩
theorem KN {S : Nat → Prop} {H0 : Hp} {M A : Nat} {os : List (AV × AV)} {all : List aQ} : ∀ (k n : Nat) {s : St} {K : Hp} (_ : get s .h = some (.hp K)) (_ : FG S H0 K M A os all n) (_ : n + k = all.length),
  Kept s fun s' => (∀ c, c ≠ .h → get s' c = get s c) ∧ ∃ K', get s' .h = some (.hp K') ∧ FG S H0 K' M A os all all.length
 | 0, n, s, K, hH, I, hk => by
  have : n = all.length := by omega
  subst this
  exact Kept.now ⟨fun _ _ => rfl, K, hH, I⟩
 | k + 1, n, s, K, hH, I, hk => (Nk hH I (by omega)).bind fun s' ⟨h1, K', h2, I'⟩ => (KN k (n + 1) h2 I' (by omega)).bind fun s2 ⟨h3, K2, h4, I2⟩ => Kept.now ⟨fun c hc => (h3 c hc).trans (h1 c hc), K2, h4, I2⟩
theorem Kept.DL {s : St} {Q : St → Prop} (b : Nat) {S : Nat → Prop} {H0 K : Hp} {A : Nat} {os : List (AV × AV)} {all : List aQ} (I : FZ S H0 K A os all) (hH : get s .h = some (.hp K)) {n : Nat} (hn : n = all.length) (hk : get s (.b b) = some (.bx [.v (.os A n 7)]))
  (h : ∀ s' K', (∀ c, c ≠ .h → c ≠ .b b → get s' c = get s c) → get s' (.b b) = some (.bx [.v (.sl (all.map aQ.av))]) → get s' .h = some (.hp K') → K'.next = K.next → (∀ i, S i → K'.obj i = H0.obj i) → Q s') : Kept s Q := by
 subst hn
 have I0 : FG S H0 K K.next A os all 0 := ⟨rfl, I.old, I.lo, I.len, I.row, fun i o p _ h1 h2 => I.ops i o p h1 h2, I.ids, I.own, I.dist⟩
 refine (KN all.length 0 hH I0 (by omega)).bind fun s' ⟨h1, K', h2, I'⟩ => ?_
 have bw : K'.obj A = some (aZ (all.map aQ.av)) := by
  rw [I'.row]
  unfold qd
  rw [List.take_of_length_le (Nat.le_refl _), List.drop_eq_nil_of_le (by rw [ni I.len]; exact Nat.le_refl _), List.append_nil]
 refine Kept.GN b A (ys := all.map aQ.av) (cs := [.v (.os A all.length 7)]) (ds := [.v (.sl (all.map aQ.av))]) (esz := 7) (by rw [h1 _ (by simp)]; exact hk) h2 bw (fun e he => by obtain ⟨p, _, rfl⟩ := List.mem_map.1 he; rfl) (by
  have e : (all.map aQ.av).take all.length = all.map aQ.av := List.take_of_length_le (by simp)
  simp [kG, gT, e]) (Kept.now (h _ (K'.del A) (fun c hc1 hc2 => ?_) ?_ ?_ I'.nx fun i hi => ?_))
 ·simp [get, Ne.symm hc1, Ne.symm hc2]; exact h1 c hc1
 ·simp [get]
 ·simp [get]
 ·show (if i = A then none else K'.obj i) = _
  rw [if_neg (fun e : i = A => I'.lo (e ▸ hi))]; exact I'.old i hi
def Bs (all : List aQ) (i : Nat) : Option (List aQ) := fK (fun i p => (jL all p).map fun q => all.set i q) i (all.drop i)
theorem uB {all : List aQ} {i : Nat} {p : aQ} (h : all[i]? = some p) : Bs all i = ((jL all p).map fun q => all.set i q).orElse fun _ => Bs all (i + 1) := by
 obtain ⟨h1, h2⟩ := List.getElem?_eq_some_iff.1 h
 unfold Bs; rw [List.drop_eq_getElem_cons h1, fK, h2]
theorem Dq {all : List aQ} {i : Nat} (h : all.length ≤ i) : Bs all i = none := by
 unfold Bs; rw [List.drop_of_length_le h, fK]
theorem ua : ∀ (n : Nat) (l : List aQ) (m : Nat), kE l ≤ n → kE l ≤ m → la n l = la m l
 | 0, l, m, h1, h2 => by
  have hn : iR l = none := by
   cases e : iR l with
   | none => rfl
   | some r => have := (jj e).2; omega
  cases m with
  | zero => rfl
  | succ m => simp only [la, hn]
 | n + 1, l, m, h1, h2 => by
  cases e : iR l with
  | none =>
   cases m with
   | zero => simp only [la, e]
   | succ m => simp only [la, e]
  | some r =>
   have := (jj e).2
   obtain ⟨m, rfl⟩ : ∃ k, m = k + 1 := ⟨m - 1, by omega⟩
   simp only [la, e]
   exact ua n r m (by omega) (by omega)
theorem DJ {l r : List aQ} (h : iR l = some r) : sx l = sx r := by
 have := (jj h).2
 unfold sx
 obtain ⟨k, hk⟩ : ∃ k, kE l = k + 1 := ⟨kE l - 1, by omega⟩
 rw [hk, la, h]
 exact ua k r _ (by omega) (Nat.le_refl _)
theorem DK {l : List aQ} (h : iR l = none) : sx l = l := by
 unfold sx
 cases e : kE l with
 | zero => rfl
 | succ k => rw [la, h]
def FB (all : List aQ) : Prop := ∀ p ∈ all, p.ops.length ≤ 1000000 ∧ p.outs.length ≤ 1000000 ∧ ∀ x ∈ p.ops, x.aE.length ≤ 1000000 ∧ (x.kind = 4 → 0 ≤ x.part ∧ x.part < (all.length : Int) ∧ (all.getD x.part.toNat bS).ins ≠ [])
def BS (x y : al) : Prop := x.kind = y.kind ∧ x.part = y.part ∧ x.aE.length = y.aE.length
theorem AI (x : al) : BS x.clean x := by
 unfold al.clean BS; repeat' split
 all_goals exact ⟨rfl, rfl, rfl⟩
theorem EP (u v : Int) (x : al) : BS (x.cO u v) x := by
 have := AI ({ x with a := pA u v x.a, b := pA u v x.b, c := pA u v x.c, aE := x.aE.map (pA u v) } : al)
 exact ⟨this.1, this.2.1, this.2.2.trans (List.length_map ..)⟩
def mY (p q : aQ) : Prop := ∀ x ∈ q.ops, ∃ y ∈ p.ops, BS x y
theorem mY.drop (p : aQ) (a : List Int) : mY p (p.drop a) := fun x hx => ⟨x, (dx a p.ops 0).mem hx, rfl, rfl, rfl⟩
theorem mY.cO {p q : aQ} (h : mY p q) (u v : Int) : mY p (q.cO u v) := fun x hx => by
 obtain ⟨z, h1, rfl⟩ := List.mem_map.1 hx
 obtain ⟨y, h2, h3⟩ := h z h1
 have := EP u v z
 exact ⟨y, h2, this.1.trans h3.1, this.2.1.trans h3.2.1, this.2.2.trans h3.2.2⟩
theorem zS {all : List aQ} {p q : aQ} {i k : Nat} {x y : al} (hx : p.ops[i]? = some x) (h : gD all p i k x y = some q) : mY p q := by
 unfold gD at h
 split at h
 ·cases h
  intro z hz
  have := (dx [(k : Int)] (p.ops.set i (mU x y)) 0).mem hz
  rcases List.mem_or_eq_of_mem_set this with h1 | rfl
  ·exact ⟨z, h1, rfl, rfl, rfl⟩
  ·exact ⟨x, List.mem_of_getElem? hx, rfl, rfl, rfl⟩
 ·split at h
  ·cases h; exact (mY.drop _ _).cO _ _
  ·split at h
   ·cases h; exact ((mY.drop _ _).cO _ _).cO _ _
   ·split at h
    ·cases h; exact (mY.drop _ _).cO _ _
    ·cases h
theorem wh {all : List aQ} {p q : aQ} (h : jL all p = some q) : mY p q := by
 obtain ⟨i, x, h1, h2⟩ := eA h
 rw [Nat.zero_add] at h2
 split at h2
 ·cases h2; exact mY.drop _ _
 ·obtain ⟨k, y, h3, h4⟩ := eA h2
  exact zS h1 h4
theorem FB.next {all : List aQ} {i : Nat} {p q : aQ} (h : FB all) (hp : all[i]? = some p) (hq : jL all p = some q) : FB (all.set i q) := by
 have hL := qJ hq
 have hin : ∀ j : Nat, ((all.set i q).getD j bS).ins = (all.getD j bS).ins := fun j => by
  rw [List.getD_eq_getElem?_getD, List.getD_eq_getElem?_getD, List.getElem?_set]
  split
  ·rename_i e; subst e
   have := (List.getElem?_eq_some_iff.1 hp).1
   rw [if_pos this, hp]; exact hL.ins
  ·rfl
 have key : ∀ x : al, (x.kind = 4 → 0 ≤ x.part ∧ x.part < (all.length : Int) ∧ (all.getD x.part.toNat bS).ins ≠ []) → x.kind = 4 → 0 ≤ x.part ∧ x.part < ((all.set i q).length : Int) ∧ ((all.set i q).getD x.part.toNat bS).ins ≠ [] := fun x hx hk => by
  rw [List.length_set, hin]; exact hx hk
 intro r hr
 rcases List.mem_or_eq_of_mem_set hr with h1 | rfl
 ·obtain ⟨a1, a2, a3⟩ := h r h1
  exact ⟨a1, a2, fun x hx => ⟨(a3 x hx).1, key x (a3 x hx).2⟩⟩
 ·obtain ⟨a1, a2, a3⟩ := h p (List.mem_of_getElem? hp)
  refine ⟨by have := hL.len; omega, by rw [hL.outs]; exact a2, fun x hx => ?_⟩
  obtain ⟨y, h1, h2, h3, h4⟩ := wh hq x hx
  refine ⟨by rw [h4]; exact (a3 y h1).1, key x fun hk => ?_⟩
  rw [h3]; exact (a3 y h1).2 (by rw [← h2]; exact hk)
theorem E9 {D : Nat → Prop} (ps : List aQ) : bH D (cA ps) := .agg _ (ab.cons (.sl _ (ab.map fun y _ => y.mD)) ab.nil)
theorem LC (ps : List aQ) (hne : ps ≠ []) (hlen : ps.length ≤ 1000000) (hb : PB ps) (hfb : FB ps) : Pure Tryz.prog 27 [cA ps] (cA (sx ps)) := by
 have e0 : cA ps = .agg [.sl (ps.map aQ.av)] := rfl
 refine fun H => cB.fin fun hfin => (cB.jA Tryz.func27 rfl rfl (aH rfl) (E9 _) (aK.seq (aK.region (aD.run II 2 rfl (aD.nil (aK.scope (aK.seq (aK.region (aD.run II 1 rfl (aD.B8 (aH rfl) (Fn rfl) rfl rfl (En ps hne hlen hb H hfin) (fun r1 K1 hP1 => ?_)))))))))))
 obtain ⟨pid, A, os0, rfl, hpid, hPO, hold, hZ⟩ := hP1
 refine aD.run II 1 rfl (aD.nil (aK.seq (aK.label (aK.seq (aK.blk (aK.cy (Kept.az [.h, .s 3, .b 2, .s 2] rfl (by decide) (Kept.now (aK.k7 (fun ((K, os, all) : Hp × List (AV × AV) × List aQ) => [(.h, .hp K), (.s 3, .sv (.v (.op pid 0))), (.b 2, .bx [.v (.sl [])])]) _ (fun ((K, os, all) : Hp × List (AV × AV) × List aQ) => FZ (fun j => j < H.next ∨ j = pid) K1 K A os all ∧ sx all = sx ps ∧ FB all ∧ all.length = ps.length) (fun ((K, os, all) : Hp × List (AV × AV) × List aQ) => kE all) (K1, os0, ps) rfl ⟨hZ, rfl, hfb, rfl⟩ ?_)))))))))
 rintro ⟨K, os, all⟩ hI
 dsimp only at hI
 refine aK.blk (aK.seq (aK.seq (aK.region (aD.run II 3 rfl (aD.c1 rfl (bB (aH rfl) zg rfl rfl ((hI.1.old _ (.inr rfl)).trans hPO) rfl) (aD.run II 2 rfl (aD.nil (aK.blk (aK.cy (Kept.az [.s 12, .h, .s 2, .b 2, .s 3, .s 11] rfl (by decide) (Kept.now (aK.k7 (fun (i : Nat) => [(.s 12, .sv (.v (.int .i64 (i : Int))))]) _ (fun (i : Nat) => Bs all i = iR all) (fun (i : Nat) => ps.length - i) 0 rfl rfl ?_))))))))))))
 rintro i hJ
 refine aK.seq (aK.region (aD.run II 1 rfl (aD.nil (aK.seq (aK.cond rfl (fun hc1 => ?_) (fun hc1 => ?_))))))
 ·have hi := MP hc1
  obtain ⟨p, hp⟩ : ∃ p, all[i]? = some p := ⟨_, List.getElem?_eq_getElem (by have := hI.2.2.2; omega)⟩
  obtain ⟨o, ho⟩ : ∃ o, os[i]? = some o := ⟨_, List.getElem?_eq_getElem (by have := hI.1.len; have := hI.2.2.2; omega)⟩
  have hB := hI.2.2.1 p (List.mem_of_getElem? hp)
  refine aK.skip (aK.seq (aK.blk (aK.seq (aK.region (aD.run II 2 rfl (aD.nil (aK.seq (aK.region (aD.run II 4 rfl (aD.c1 rfl (bB (aH rfl) zg rfl rfl ((hI.1.old _ (.inr rfl)).trans hPO) rfl) (aD.run II 1 rfl (aD.c1 rfl (bR (aH rfl) eH rfl rfl (Int.natCast_nonneg _) (by omega)) (aD.B8 (aH rfl) (Fn rfl) rfl rfl (DQ hI.1 hp ho hB.1 hB.2.1 (fun x hx => (hB.2.2 x hx).1) (.inr rfl) (by rw [hI.2.2.2]; exact hPO) (fun x hx => (hB.2.2 x hx).2)) (fun r2 K2 hP2 => ?_))))))))))))))
  obtain ⟨b, rfl, hR⟩ := Ao hP2
  refine aD.nil (aK.cond rfl (fun hc2 => ?_) (fun hc2 => ?_))
  ·refine aK.cy (Kept.az [.h, .s 3, .b 2, .s 2] rfl (by decide) (Kept.now (aK.exit ?_)))
   obtain ⟨q, hq, hN, os2, hZ2⟩ := hR.2 hc2
   have hs : iR all = some (all.set i q) := by rw [← hJ, uB hp, hq]; rfl
   exact ⟨(K2, os2, all.set i q), (jj hs).2, ⟨hZ2, (DJ hs).symm.trans hI.2.1, hI.2.2.1.next hp hq, by rw [List.length_set]; exact hI.2.2.2⟩, rfl⟩
  ·obtain ⟨hq, rfl⟩ := hR.1 hc2
   exact aK.skip (aK.region (aD.run II 2 rfl (aD.kept (Kept.c6 12 rfl (inc (by omega)) (Kept.az [.s 12, .h, .s 2, .b 2, .s 3, .s 11] rfl (by decide) (Kept.now ⟨i + 1, by omega, by rw [← hJ, uB hp, hq]; rfl, rfl⟩))))))
 ·have hi := zy hc1
  have hsn : iR all = none := by rw [← hJ, Dq (by have := hI.2.2.2; omega)]
  iterate 2 (refine aK.exit ?_)
  exact aK.seq (aK.region (aD.run II 2 rfl (aD.c1 rfl (bB (aH rfl) kF rfl rfl ((hI.1.old _ (.inr rfl)).trans hPO) rfl) (aD.run II 1 rfl (aD.kept (Kept.DL 2 hI.1 rfl hI.2.2.2.symm rfl (fun s2 K2 e1 e2 e3 e4 e5 => (aK.ret ⟨.inr rfl, (aM.r1 rfl (.cell kF (Et ((e1 (.s 2) (by decide) (by decide)).trans rfl)) e2 rfl rfl .nil)).cast (by rw [← hI.2.1, DK hsn]; rfl), K2, e3, (by rw [e4]; exact Nat.le_of_not_lt fun h => Nat.lt_irrefl _ (hI.1.sN _ (.inl h))), fun i hi => (e5 i (.inl hi)).trans (hold i hi)⟩))))))))
open Go Go.RowKit
theorem ED {w : fg} {x : aS} {k : Nat} {p : aQ} (W : oy w x k p) : ∃ P' tl, (w.step x).all = (w.all ++ tl).set k (bT P') ∧ P'.ins = p.ins ∧ tl.length ≤ 1 ∧ (∀ q ∈ tl, q.ops = [] ∧ q.ins ≠ []) ∧
  ∀ y ∈ P'.ops, y ∈ p.ops ∨ (y.aE.length ≤ x.names.length ∧ y.dv.s.length ≤ x.dv.s.length ∧ (y.kind = 4 → y.part = (w.all.length : Int) ∧ tl ≠ [])) := by
 have hk := (List.getElem?_eq_some_iff.1 W.pt).1
 have hgd : w.all.getD k bS = p := by rw [List.getD_eq_getElem?_getD, W.pt]; rfl
 have e : (w.step x).all = (au w.all k x).set k (bT ((au w.all k x).getD k bS)) := by
  show (au w.all (cW w.names x.msg) x).set (cW w.names x.msg) (bT ((au w.all (cW w.names x.msg) x).getD (cW w.names x.msg) bS)) = _
  rw [W.ix]
 have key : ∀ (all : List aQ) (P : aQ), k < all.length → (all.set k P).set k (bT ((all.set k P).getD k bS)) = all.set k (bT P) := fun all P h => by
  rw [List.getD_eq_getElem?_getD, List.getElem?_set_self h, List.set_set]; rfl
 by_cases h6 : x.kind = 6
 ·refine ⟨{ p with ops := p.ops ++ [{ jb with kind := 4, a := (aJ p.outs x.field).reg, b := p.aE, part := w.all.length }], aE := p.aE + 1, outs := bb (aR p.outs x.field) ⟨{ eY with name := x.also, num := x.num, ty := 15, ref := x.dest }, p.aE, w.all.length⟩ }, [bT { bS with name := x.dest, born := true, aE := 1, ins := [{ aJ p.outs x.field with reg := 0 }], outs := [{ aJ p.outs x.field with reg := 0 }] }], ?_, rfl, Nat.le_refl _, ?_, ?_⟩
  ·rw [e]
   unfold au
   simp only [h6, if_true, hgd]
   exact key _ _ (by simp; omega)
  ·intro q hq
   rw [List.mem_singleton.1 hq]
   exact ⟨rfl, List.cons_ne_nil _ _⟩
  ·intro y hy
   rcases List.mem_append.1 hy with h | h
   ·exact .inl h
   ·rw [List.mem_singleton.1 h]
    exact .inr ⟨Nat.zero_le _, Nat.zero_le _, fun _ => ⟨rfl, List.cons_ne_nil _ _⟩⟩
 ·by_cases h7 : x.kind = 7
  ·refine ⟨{ p with ops := p.ops ++ [{ jb with kind := 5, a := (aJ p.outs x.field).reg, b := p.aE, part := (aJ p.outs x.field).part }], aE := p.aE + 1, outs := bb (aR p.outs x.field) { ((w.all.getD (aJ p.outs x.field).part.toNat bS).outs.headD ft) with reg := p.aE } }, [], ?_, rfl, Nat.zero_le _, fun q hq => (by cases hq), ?_⟩
   ·rw [e, List.append_nil]
    unfold au
    simp only [h7, show ¬ (7 : Int) = 6 by decide, if_true, if_false, hgd]
    exact key _ _ hk
   ·intro y hy
    rcases List.mem_append.1 hy with h | h
    ·exact .inl h
    ·rw [List.mem_singleton.1 h]
     exact .inr ⟨Nat.zero_le _, Nat.zero_le _, fun h => (by simp at h)⟩
  ·refine ⟨aP p x, [], ?_, qG p x, Nat.zero_le _, fun q hq => (by cases hq), ?_⟩
   ·rw [e, List.append_nil]
    unfold au
    simp only [h6, h7, if_false, hgd]
    exact key _ _ hk
   ·intro y hy
    have hnew : ∀ z : al, y ∈ p.ops ++ [z] → z.aE.length ≤ x.names.length → z.dv.s.length ≤ x.dv.s.length → z.kind ≠ 4 → y ∈ p.ops ∨ (y.aE.length ≤ x.names.length ∧ y.dv.s.length ≤ x.dv.s.length ∧ (y.kind = 4 → y.part = (w.all.length : Int) ∧ ([] : List aQ) ≠ [])) := fun z h h1 h2 h3 => by
     rcases List.mem_append.1 h with h | h
     ·exact .inl h
     ·rw [List.mem_singleton.1 h]; exact .inr ⟨h1, h2, fun h => absurd h h3⟩
    unfold aP at hy
    dsimp only at hy
    split at hy
    ·exact .inl hy
    split at hy
    ·exact .inl hy
    split at hy
    ·exact hnew _ hy (Nat.zero_le _) (Nat.zero_le _) (by simp)
    split at hy
    ·exact hnew _ hy (Nat.zero_le _) (Nat.zero_le _) (by simp)
    split at hy
    ·exact hnew _ hy (Nat.zero_le _) (Nat.zero_le _) (by simp)
    split at hy
    ·exact hnew _ hy (Nat.le_of_eq (by simp)) (Nat.zero_le _) (by simp)
    split at hy
    ·exact hnew _ hy (Nat.zero_le _) (Nat.le_refl _) (by simp)
    ·exact .inl hy
def PJ (all : List aQ) (x : al) : Prop := x.aE.length ≤ 1000 ∧ x.dv.s.length ≤ 140737488355328 ∧ (x.kind = 4 → 0 ≤ x.part ∧ x.part < (all.length : Int) ∧ (all.getD x.part.toNat bS).ins ≠ [])
structure Jl (w : fg) (n : Nat) : Prop where
 bd : ∀ p ∈ w.all, p.bd n
 ops : ∀ p ∈ w.all, ∀ x ∈ p.ops, PJ w.all x
theorem Jl.step {w : fg} {x : aS} {k : Nat} {p : aQ} {n : Nat} (F : Jl w n) (W : oy w x k p) (hn : n ≤ 16) (h1 : x.names.length ≤ 1000) (h2 : x.dv.s.length ≤ 140737488355328) : Jl (w.step x) (n + 1) := by
 have hk := (List.getElem?_eq_some_iff.1 W.pt).1
 refine ⟨fun y hy => ?_, ?_⟩
 ·obtain ⟨hb, hlen, hll⟩ := wG F.bd W.pt W.kd
  have e : (w.step x).all = (au w.all k x).set k (bT ((au w.all k x).getD k bS)) := by
   show (au w.all (cW w.names x.msg) x).set (cW w.names x.msg) (bT ((au w.all (cW w.names x.msg) x).getD (cW w.names x.msg) bS)) = _
   rw [W.ix]
  rw [e] at hy
  rcases jV hy with rfl | hy
  ·have hk2 : k < (au w.all k x).length := by omega
   rw [List.getD_eq_getElem?_getD, List.getElem?_eq_getElem hk2]
   exact (hb _ (List.getElem_mem hk2)).bd hn
  ·exact (hb y hy).up hn
 ·obtain ⟨P', tl, e, hi, htl, ht, ho⟩ := ED W
  have hins : ∀ i, i < w.all.length → ((w.step x).all.getD i bS).ins = (w.all.getD i bS).ins := fun i h => by
   rw [e, List.getD_eq_getElem?_getD, List.getD_eq_getElem?_getD, List.getElem?_set]
   split
   ·rename_i e2; subst e2
    rw [if_pos (by simp; omega), W.pt]; exact hi
   ·rw [List.getElem?_append_left h]
  have hlen : (w.step x).all.length = w.all.length + tl.length := by rw [e]; simp
  have up : ∀ y, PJ w.all y → PJ (w.step x).all y := fun y ⟨a1, a2, a3⟩ => ⟨a1, a2, fun h4 => by
   obtain ⟨b1, b2, b3⟩ := a3 h4
   exact ⟨b1, by omega, by rw [hins _ (by omega)]; exact b3⟩⟩
  intro q hq y hy
  rw [e] at hq
  rcases jV hq with rfl | hq
  ·rcases ho y hy with h | ⟨h3, h4, h5⟩
   ·exact up y (F.ops p (List.mem_of_getElem? W.pt) y h)
   ·refine ⟨by omega, by omega, fun h6 => ?_⟩
    obtain ⟨h7, h8⟩ := h5 h6
    have hl1 : 1 ≤ tl.length := by cases tl with | nil => exact absurd rfl h8 | cons => simp
    refine ⟨by omega, by omega, ?_⟩
    rw [h7, Int.toNat_natCast, e, List.getD_eq_getElem?_getD, List.getElem?_set_ne (by omega), List.getElem?_append_right (Nat.le_refl _), Nat.sub_self]
    cases tl with
    | nil => simp at hl1
    | cons a r => exact (ht a List.mem_cons_self).2
  ·rcases List.mem_append.1 hq with h | h
   ·exact up y (F.ops q h y hy)
   ·rw [(ht q h).1] at hy; cases hy
theorem yW : ∀ {l : List aS} {s : aL} {acc L : List aL} {w : fg} {n : Nat}, Inv s w → Jl w n → n + l.length ≤ 16 → (∀ x ∈ l, x.names.length ≤ 1000 ∧ x.dv.s.length ≤ 140737488355328) → aL.dy l s acc = .ok L → Jl (l.foldl fg.step w) (n + l.length)
 | [], s, acc, L, w, n, I, F, hn, hx, h => F
 | x :: l, s, acc, L, w, n, I, F, hn, hx, h => by
  unfold aL.dy at h
  cases e : s.apply x with
  | error k => rw [e] at h; cases h
  | ok t =>
   rw [e] at h
   have I' := I.step e
   obtain ⟨m, at_, A⟩ := gq e
   obtain ⟨k, p, W⟩ := rE I A
   have hn2 : n + 1 + l.length ≤ 16 := by simp at hn; omega
   have hx0 := hx x List.mem_cons_self
   have := yW I' (F.step W (by omega) hx0.1 hx0.2) hn2 (fun y hy => hx y (List.mem_cons_of_mem _ hy)) h
   have e2 : n + (x :: l).length = n + 1 + l.length := by simp; omega
   rw [e2]; exact this
theorem Jl.begin {s : aL} (hs : s.sm) : Jl (iI s) 0 := by
 refine ⟨yO hs, fun p hp x hx => ?_⟩
 obtain ⟨m, _, rfl⟩ := List.mem_map.1 (show p ∈ s.msgs.map fun m => bT { bS with name := m.name, ins := bG s m, outs := bG s m, aE := m.fields.length } from hp)
 cases hx
theorem Mj {s : aL} {l : List aS} {L : List aL} (h : s.all l = .ok L) (hx : ∀ x ∈ l, x.names.length ≤ 1000 ∧ x.dv.s.length ≤ 140737488355328) : Jl (l.foldl fg.step (iI s)) l.length := by
 have h16 := (ox h).2
 unfold aL.all at h
 split at h
 ·cases h
 rename_i h1
 split at h
 ·cases h
 have hs := aL.gI (s := s) (by simpa using h1)
 have := yW (Inv.begin hs) (Jl.begin hs.sm) (by omega) hx h
 simpa using this
structure PM (ps : List aQ) : Prop where
 ne : ps ≠ []
 len : ps.length ≤ 1000
 pb : PB ps
 fb : FB ps
 n : ∀ p ∈ ps, p.ops.length ≤ 16 ∧ ∀ x ∈ p.ops, x.dv.s.length ≤ 140737488355328
theorem oj {s : aL} {l : List aS} {L : List aL} (h : s.all l = .ok L) (hx : ∀ x ∈ l, x.names.length ≤ 1000 ∧ x.dv.s.length ≤ 140737488355328) : PM (lower s l) := by
 have h16 := (ox h).2
 obtain ⟨B, _⟩ := wH h
 have F := Mj h hx
 obtain ⟨_, t, _, I⟩ := Bg h
 have hl : lower s l = (l.foldl fg.step (iI s)).all := rfl
 rw [hl]
 refine ⟨fun e => ?_, by have := B.len; omega, fun p hp => ?_, fun p hp => ?_, fun p hp => ?_⟩
 ·have h1 := I.len
  have h2 := I.root
  rw [e] at h1
  have : (l.foldl fg.step (iI s)).names = [] := by cases hn : (l.foldl fg.step (iI s)).names with | nil => rfl | cons a r => rw [hn] at h1; simp at h1
  rw [this] at h2
  have h3 := I.ok.ne
  cases hm : t.msgs with
  | nil => rw [hm] at h3; simp at h3
  | cons a r => rw [hm] at h2; simp at h2
 ·have h1 := B.sides p hp
  have h2 := F.bd p hp
  have h3 := h2.ops
  have h4 := h2.fB
  have h5 : 100 * (l.length + 1) ≤ 1700 := by omega
  exact ⟨by omega, by omega, by omega, by omega⟩
 ·have h1 := B.sides p hp
  have h3 := (F.bd p hp).ops
  exact ⟨by omega, by omega, fun x hx => ⟨by have := (F.ops p hp x hx).1; omega, (F.ops p hp x hx).2.2⟩⟩
 ·have h3 := (F.bd p hp).ops
  exact ⟨by omega, fun x hx => (F.ops p hp x hx).2.1⟩
end Go.Proofs.YtgmdapgedlachaaGreatDoor.X
